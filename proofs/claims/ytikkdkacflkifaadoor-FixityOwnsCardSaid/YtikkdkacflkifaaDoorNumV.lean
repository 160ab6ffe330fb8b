/- DERIVED. The walk of number's Value. -/
import Derived.Test.YtikkdkacflkifaaDoorNumA
set_option linter.unusedSimpArgs false
set_option linter.unusedVariables false
namespace Go.Proofs.YtikkdkacflkifaaDoor
open Go.RowKit

theorem prefX_base (l : List UInt8) : prefX l = (10, 0) ∨ prefX l = (8, 2) ∨ prefX l = (16, 2) := by
  unfold prefX; split
  · exact .inr (.inl rfl)
  · split
    · exact .inr (.inr rfl)
    · exact .inl rfl
/-- In a whole number all behind what tells the base are digits. -/
theorem whole_dig (l : List UInt8) (h : isK 11 l = true) : digN (prefX l).1 (l.drop (prefX l).2) = (l.drop (prefX l).2).length ∧ (prefX l).2 ≤ l.length := by
  unfold isK at h
  simp only [Bool.and_eq_true, decide_eq_true_eq] at h
  obtain ⟨h1, h2⟩ := h
  have hd := digN_le 10 l
  rcases prefX_base l with hp | hp | hp
  · unfold scanX at h1 h2
    rw [hp] at h1 h2 ⊢
    simp only [show ((0 : Nat) = 2) = False from by simp, if_false] at h1 h2
    by_cases h0 : digN 10 l = 0
    · rw [if_pos h0] at h1; cases h1
    · rw [if_neg h0] at h1 h2
      by_cases hx : 0 < expX (l.drop (if l[digN 10 l]? = some 46 ∧ 0 < digN 10 (l.drop (digN 10 l + 1)) then ((12 : Int), digN 10 l + 1 + digN 10 (l.drop (digN 10 l + 1))) else (11, digN 10 l)).2)
      · rw [if_pos hx] at h1; cases h1
      · rw [if_neg hx] at h1 h2
        split at h2
        · next hc => rw [if_pos hc] at h1; cases h1
        · simp only [List.drop_zero]; exact ⟨h2, Nat.zero_le _⟩
  all_goals
    unfold scanX at h2
    rw [hp] at h2 ⊢
    simp only [if_true] at h2
    rw [List.length_drop]
    simp only
    omega
theorem valL_cons (base : Int) (b : UInt8) (t : List UInt8) (v : Int) : valL base (b :: t) v = if (4611686018427387904 - dig b.toNat base) / base < v then none else valL base t (v * base + dig b.toNat base) := by rw [valL]
def valueV (p : Int × Int) : Value := .tuple #[.int .i64 p.1, .int .i64 p.2]
set_option maxRecDepth 20000 in
set_option maxHeartbeats 4000000 in
theorem value_any (s : ByteArray) (w : World) (hs : s.size ≤ 1152921504606846976) :
    Calls Tryd.prog 44 #[.string s] w fun e w' => e = .returned (valueV (valueX s.data.toList)) ∧ Below w.heap.size w w' := by
  have I1 := fun w => is_any s 11 w hs
  by_cases hI : isK 11 s.data.toList = true
  · obtain ⟨hall, hn⟩ := whole_dig _ hI
    have P1 := fun w => prefixed_any s w hs
    obtain ⟨R, hR⟩ : ∃ R, valueX s.data.toList = R := ⟨_, rfl⟩
    rw [hR]
    unfold valueX at hR
    have hI2 : isInt s.data.toList = true := hI
    rw [if_pos hI2] at hR
    have hb := prefX_base s.data.toList
    obtain ⟨⟨base, n⟩, hp⟩ : ∃ p, prefX s.data.toList = p := ⟨_, rfl⟩
    rw [hp] at hall hn P1 hR hb
    simp only at hall hn hR
    rw [← Lib.size_eq] at hn
    rw [hI] at I1
    have I1 := Lib.hid I1
    have P1 := Lib.hid P1
    obtain ⟨V, hV⟩ : ∃ V, valL base (s.data.toList.drop n) 0 = V := ⟨_, rfl⟩
    rw [hV] at hR
    rw [← cut_data s n] at hall hV
    have HR := Lib.hid hR
    have HV := Lib.hid hV
    have HA := Lib.hid hall
    have hsz : (s.extract n s.size).size = s.size - n := cut_size s n hn
    have HSZ := Lib.hid hsz
    have hbb : base = 8 ∨ base = 10 ∨ base = 16 := by rcases hb with h | h | h <;> injection h with h1 h2 <;> omega
    have hcs : (s.extract n s.size).size ≤ 1152921504606846976 := by omega
    have hd : ∀ pos, Utf8.decode (s.extract n s.size) pos = dec ((s.extract n s.size).data.toList.drop pos) := fun pos => decode_eq _ _
    have HD := Lib.hid hd
    clear hI hI2 hR hV hall hp hb hsz hd
    rcases hbb with rfl | rfl | rfl
    · go_enter Tryd.func44, Tryd.ntmps44
      go_wp2_with fail
      refine (I1.out _).mono ?_
      rintro e w1 ⟨rfl, hb1⟩
      have HB1 := Lib.hid hb1
      clear hb1
      go_wp2_with fail
      refine (P1.out _).mono ?_
      rintro e w2 ⟨rfl, hb2⟩
      have HB2 := Lib.hid (Below.then HB1.out hb2)
      clear hb2
      unfold pairV
      go_wp2_with fail
      generalize hc : s.extract n s.size = c at *
      clear hc
      go_loopw [6] (fun v wr => ∃ (pos : Nat) (x : Int), v = .int .i64 x ∧ Iter w2 c pos wr ∧ pos ≤ c.size ∧ 0 ≤ x ∧ x ≤ 4611686018427387904 ∧ valL 8 (c.data.toList.drop pos) x = V) (fun _ wr => c.size - wr.iterPos w2.heap.size)
      case atStart => exact ⟨0, 0, rfl, Iter.start _ _, Nat.zero_le _, by omega, by omega, by simpa using HV.out⟩
      case round =>
        obtain ⟨pos, x, rfl, hI, hpl0, hx0, hx1, hL⟩ := hrel
        have HP := Lib.hid (iterPos_at hI)
        have HL := Lib.hid hL
        clear hL
        by_cases hp : pos < c.size
        · have hpl : pos < c.data.toList.length := by rw [← Lib.size_eq]; exact hp
          have hnx : ∀ ty, (Instr.next (.pointer (some ⟨w2.heap.size, 0, none⟩)) true ty).run Tryd.prog wr = _ := fun ty => Lib.run_next_any_at wr w2.heap.size c pos ty hI.1 hp
          rw [HD.out] at hnx
          obtain ⟨_, hdg⟩ := digN_all 8 c.data.toList pos (by rw [HA.out]; exact hpl)
          have hdrop := List.drop_eq_getElem_cons hpl
          generalize c.data.toList[pos] = b at hdg hdrop
          have hb128 := isDig_small _ _ hdg
          have hdec : dec (c.data.toList.drop pos) = (b.toNat, 1) := by rw [hdrop]; have := dec_ascii (b :: c.data.toList.drop (pos + 1)) (by simpa using hb128); simpa using this
          rw [hdec] at hnx
          have hI2 := hI.next (pos + 1)
          have hL2 := HL.out
          rw [hdrop, valL_cons] at hL2
          have hd0 : 0 ≤ dig (b.toNat : Int) 8 := by unfold isDig at hdg; simpa using hdg
          have hd1 := dig_lt _ _ hd0
          have DG := fun w => digit_any (b.toNat : Int) 8 w
          obtain ⟨d, hd⟩ : ∃ d, dig (b.toNat : Int) 8 = d := ⟨_, rfl⟩
          rw [hd] at hL2 hd0 hd1 DG
          have DG := Lib.hid DG
          have hlt : pos + 1 ≤ c.size := hp
          clear hdec hdrop hdg hd hpl hb128
          by_cases ho : (4611686018427387904 - d) / 8 < x
          · rw [if_pos ho] at hL2
            have HR2 := Lib.hid (show R = (0, 3) from by rw [← HR.out, ← hL2])
            clear hL2
            go_wp2_with (go_at_call 56; refine (DG.out _).mono ?_; rintro e w' ⟨rfl, rfl⟩)
            go_ret2
            exact ⟨by rw [HR2.out]; rfl, Below.then HB2.out hI2.2⟩
          · rw [if_neg ho] at hL2
            have HL2 := Lib.hid hL2
            have hm : x * 8 + d ≤ 4611686018427387904 := by omega
            have hm0 : 0 ≤ x * 8 := by omega
            clear hL2
            go_wp2_with (go_at_call 56; refine (DG.out _).mono ?_; rintro e w' ⟨rfl, rfl⟩)
            go_roundw
            case rel => exact ⟨pos + 1, x * 8 + d, rfl, hI2, hlt, by omega, hm, HL2.out⟩
            case measure =>
              rw [HP.out, iterPos_at hI2]
              omega
        · have hpl : c.data.toList.length ≤ pos := by rw [← Lib.size_eq]; omega
          have hnx : ∀ ty, (Instr.next (.pointer (some ⟨w2.heap.size, 0, none⟩)) true ty).run Tryd.prog wr = _ := fun ty => Lib.run_next_end_at wr w2.heap.size c pos ty hI.1 hp
          have HR2 := Lib.hid (show R = (x, 0) from by
            have h := HL.out
            rw [List.drop_eq_nil_of_le hpl, valL] at h
            rw [← HR.out, ← h])
          go_wp2_with fail
          go_ret2
          exact ⟨by rw [HR2.out]; rfl, Below.then HB2.out hI.2⟩
    · go_enter Tryd.func44, Tryd.ntmps44
      go_wp2_with fail
      refine (I1.out _).mono ?_
      rintro e w1 ⟨rfl, hb1⟩
      have HB1 := Lib.hid hb1
      clear hb1
      go_wp2_with fail
      refine (P1.out _).mono ?_
      rintro e w2 ⟨rfl, hb2⟩
      have HB2 := Lib.hid (Below.then HB1.out hb2)
      clear hb2
      unfold pairV
      go_wp2_with fail
      generalize hc : s.extract n s.size = c at *
      clear hc
      go_loopw [6] (fun v wr => ∃ (pos : Nat) (x : Int), v = .int .i64 x ∧ Iter w2 c pos wr ∧ pos ≤ c.size ∧ 0 ≤ x ∧ x ≤ 4611686018427387904 ∧ valL 10 (c.data.toList.drop pos) x = V) (fun _ wr => c.size - wr.iterPos w2.heap.size)
      case atStart => exact ⟨0, 0, rfl, Iter.start _ _, Nat.zero_le _, by omega, by omega, by simpa using HV.out⟩
      case round =>
        obtain ⟨pos, x, rfl, hI, hpl0, hx0, hx1, hL⟩ := hrel
        have HP := Lib.hid (iterPos_at hI)
        have HL := Lib.hid hL
        clear hL
        by_cases hp : pos < c.size
        · have hpl : pos < c.data.toList.length := by rw [← Lib.size_eq]; exact hp
          have hnx : ∀ ty, (Instr.next (.pointer (some ⟨w2.heap.size, 0, none⟩)) true ty).run Tryd.prog wr = _ := fun ty => Lib.run_next_any_at wr w2.heap.size c pos ty hI.1 hp
          rw [HD.out] at hnx
          obtain ⟨_, hdg⟩ := digN_all 10 c.data.toList pos (by rw [HA.out]; exact hpl)
          have hdrop := List.drop_eq_getElem_cons hpl
          generalize c.data.toList[pos] = b at hdg hdrop
          have hb128 := isDig_small _ _ hdg
          have hdec : dec (c.data.toList.drop pos) = (b.toNat, 1) := by rw [hdrop]; have := dec_ascii (b :: c.data.toList.drop (pos + 1)) (by simpa using hb128); simpa using this
          rw [hdec] at hnx
          have hI2 := hI.next (pos + 1)
          have hL2 := HL.out
          rw [hdrop, valL_cons] at hL2
          have hd0 : 0 ≤ dig (b.toNat : Int) 10 := by unfold isDig at hdg; simpa using hdg
          have hd1 := dig_lt _ _ hd0
          have DG := fun w => digit_any (b.toNat : Int) 10 w
          obtain ⟨d, hd⟩ : ∃ d, dig (b.toNat : Int) 10 = d := ⟨_, rfl⟩
          rw [hd] at hL2 hd0 hd1 DG
          have DG := Lib.hid DG
          have hlt : pos + 1 ≤ c.size := hp
          clear hdec hdrop hdg hd hpl hb128
          by_cases ho : (4611686018427387904 - d) / 10 < x
          · rw [if_pos ho] at hL2
            have HR2 := Lib.hid (show R = (0, 3) from by rw [← HR.out, ← hL2])
            clear hL2
            go_wp2_with (go_at_call 56; refine (DG.out _).mono ?_; rintro e w' ⟨rfl, rfl⟩)
            go_ret2
            exact ⟨by rw [HR2.out]; rfl, Below.then HB2.out hI2.2⟩
          · rw [if_neg ho] at hL2
            have HL2 := Lib.hid hL2
            have hm : x * 10 + d ≤ 4611686018427387904 := by omega
            have hm0 : 0 ≤ x * 10 := by omega
            clear hL2
            go_wp2_with (go_at_call 56; refine (DG.out _).mono ?_; rintro e w' ⟨rfl, rfl⟩)
            go_roundw
            case rel => exact ⟨pos + 1, x * 10 + d, rfl, hI2, hlt, by omega, hm, HL2.out⟩
            case measure =>
              rw [HP.out, iterPos_at hI2]
              omega
        · have hpl : c.data.toList.length ≤ pos := by rw [← Lib.size_eq]; omega
          have hnx : ∀ ty, (Instr.next (.pointer (some ⟨w2.heap.size, 0, none⟩)) true ty).run Tryd.prog wr = _ := fun ty => Lib.run_next_end_at wr w2.heap.size c pos ty hI.1 hp
          have HR2 := Lib.hid (show R = (x, 0) from by
            have h := HL.out
            rw [List.drop_eq_nil_of_le hpl, valL] at h
            rw [← HR.out, ← h])
          go_wp2_with fail
          go_ret2
          exact ⟨by rw [HR2.out]; rfl, Below.then HB2.out hI.2⟩
    · go_enter Tryd.func44, Tryd.ntmps44
      go_wp2_with fail
      refine (I1.out _).mono ?_
      rintro e w1 ⟨rfl, hb1⟩
      have HB1 := Lib.hid hb1
      clear hb1
      go_wp2_with fail
      refine (P1.out _).mono ?_
      rintro e w2 ⟨rfl, hb2⟩
      have HB2 := Lib.hid (Below.then HB1.out hb2)
      clear hb2
      unfold pairV
      go_wp2_with fail
      generalize hc : s.extract n s.size = c at *
      clear hc
      go_loopw [6] (fun v wr => ∃ (pos : Nat) (x : Int), v = .int .i64 x ∧ Iter w2 c pos wr ∧ pos ≤ c.size ∧ 0 ≤ x ∧ x ≤ 4611686018427387904 ∧ valL 16 (c.data.toList.drop pos) x = V) (fun _ wr => c.size - wr.iterPos w2.heap.size)
      case atStart => exact ⟨0, 0, rfl, Iter.start _ _, Nat.zero_le _, by omega, by omega, by simpa using HV.out⟩
      case round =>
        obtain ⟨pos, x, rfl, hI, hpl0, hx0, hx1, hL⟩ := hrel
        have HP := Lib.hid (iterPos_at hI)
        have HL := Lib.hid hL
        clear hL
        by_cases hp : pos < c.size
        · have hpl : pos < c.data.toList.length := by rw [← Lib.size_eq]; exact hp
          have hnx : ∀ ty, (Instr.next (.pointer (some ⟨w2.heap.size, 0, none⟩)) true ty).run Tryd.prog wr = _ := fun ty => Lib.run_next_any_at wr w2.heap.size c pos ty hI.1 hp
          rw [HD.out] at hnx
          obtain ⟨_, hdg⟩ := digN_all 16 c.data.toList pos (by rw [HA.out]; exact hpl)
          have hdrop := List.drop_eq_getElem_cons hpl
          generalize c.data.toList[pos] = b at hdg hdrop
          have hb128 := isDig_small _ _ hdg
          have hdec : dec (c.data.toList.drop pos) = (b.toNat, 1) := by rw [hdrop]; have := dec_ascii (b :: c.data.toList.drop (pos + 1)) (by simpa using hb128); simpa using this
          rw [hdec] at hnx
          have hI2 := hI.next (pos + 1)
          have hL2 := HL.out
          rw [hdrop, valL_cons] at hL2
          have hd0 : 0 ≤ dig (b.toNat : Int) 16 := by unfold isDig at hdg; simpa using hdg
          have hd1 := dig_lt _ _ hd0
          have DG := fun w => digit_any (b.toNat : Int) 16 w
          obtain ⟨d, hd⟩ : ∃ d, dig (b.toNat : Int) 16 = d := ⟨_, rfl⟩
          rw [hd] at hL2 hd0 hd1 DG
          have DG := Lib.hid DG
          have hlt : pos + 1 ≤ c.size := hp
          clear hdec hdrop hdg hd hpl hb128
          by_cases ho : (4611686018427387904 - d) / 16 < x
          · rw [if_pos ho] at hL2
            have HR2 := Lib.hid (show R = (0, 3) from by rw [← HR.out, ← hL2])
            clear hL2
            go_wp2_with (go_at_call 56; refine (DG.out _).mono ?_; rintro e w' ⟨rfl, rfl⟩)
            go_ret2
            exact ⟨by rw [HR2.out]; rfl, Below.then HB2.out hI2.2⟩
          · rw [if_neg ho] at hL2
            have HL2 := Lib.hid hL2
            have hm : x * 16 + d ≤ 4611686018427387904 := by omega
            have hm0 : 0 ≤ x * 16 := by omega
            clear hL2
            go_wp2_with (go_at_call 56; refine (DG.out _).mono ?_; rintro e w' ⟨rfl, rfl⟩)
            go_roundw
            case rel => exact ⟨pos + 1, x * 16 + d, rfl, hI2, hlt, by omega, hm, HL2.out⟩
            case measure =>
              rw [HP.out, iterPos_at hI2]
              omega
        · have hpl : c.data.toList.length ≤ pos := by rw [← Lib.size_eq]; omega
          have hnx : ∀ ty, (Instr.next (.pointer (some ⟨w2.heap.size, 0, none⟩)) true ty).run Tryd.prog wr = _ := fun ty => Lib.run_next_end_at wr w2.heap.size c pos ty hI.1 hp
          have HR2 := Lib.hid (show R = (x, 0) from by
            have h := HL.out
            rw [List.drop_eq_nil_of_le hpl, valL] at h
            rw [← HR.out, ← h])
          go_wp2_with fail
          go_ret2
          exact ⟨by rw [HR2.out]; rfl, Below.then HB2.out hI.2⟩
  · have hR : valueX s.data.toList = (0, 40) := by unfold valueX; rw [if_neg (by exact hI)]
    rw [hR]
    have hI : isK 11 s.data.toList = false := by simpa using hI
    rw [hI] at I1
    have I1 := Lib.hid I1
    clear hI hR
    go_enter Tryd.func44, Tryd.ntmps44
    go_wp2_with fail
    refine (I1.out _).mono ?_
    rintro e w1 ⟨rfl, hb1⟩
    have HB1 := Lib.hid hb1
    clear hb1
    go_wp2_with fail
    go_ret2
    exact ⟨rfl, HB1.out⟩
end Go.Proofs.YtikkdkacflkifaaDoor
