/- DERIVED. The walks of the document's whole, parts and Value of numbers. -/
import Derived.Test.YtikkdkacflkifaaDoorRefNumD
import Derived.Test.YtikkdkacflkifaaDoorNumV
set_option linter.unusedSimpArgs false
set_option linter.unusedVariables false
namespace Go.Proofs.YtikkdkacflkifaaDoor
open Go.RowKit

set_option maxHeartbeats 2000000 in
theorem whole_any (s : ByteArray) (k : Int) (w : World) (hk : k ≠ 0) (hs : s.size ≤ 1152921504606846976) :
    Calls Tryd.prog 57 #[.string s, .int .i64 k] w fun e w' => e = .returned (.bool (isK k s.data.toList)) ∧ w = w' := by
  have S1 := fun w => refScan_any s 0 w hs
  obtain ⟨R, hR⟩ : ∃ R, isK k s.data.toList = R := ⟨_, rfl⟩
  rw [hR]
  by_cases h0 : s.size = 0
  · have hl : s.data.toList = [] := List.length_eq_zero_iff.1 (by rw [← Lib.size_eq]; exact h0)
    have hx : scanX [] = (0, 0) := by decide
    have hS : scanI s.data.toList 0 = (0, 0) := by rw [hl]; rfl
    rw [hS] at S1
    have HR := Lib.hid (show R = false from by rw [← hR, hl]; unfold isK; rw [hx]; simp; exact fun h => hk h.symm)
    have S1 := Lib.hid S1
    have t0 : decide (0 < s.size) = false := decide_eq_false (by omega)
    clear hR h0 hl hx hS
    go_enter Tryd.func57, Tryd.ntmps57
    go_wp2_with fail
    refine (S1.out _).mono ?_
    rintro e w' ⟨rfl, rfl⟩
    unfold pairV
    go_wp2_with fail
    go_ret
    exact ⟨by rw [HR.out]; rfl, rfl⟩
  · have hS : scanI s.data.toList 0 = if (scanX s.data.toList).1 = 0 then (0, 0) else ((scanX s.data.toList).1, 0 + (scanX s.data.toList).2) := by
      unfold scanI; rw [if_pos ⟨by omega, by rw [← Lib.size_eq]; omega⟩]; rfl
    rw [hS] at S1
    unfold isK at hR
    rw [← Lib.size_eq] at hR
    generalize scanX s.data.toList = p at *
    obtain ⟨j, n⟩ := p
    simp only at S1 hR
    have t0 : decide (0 < s.size) = true := by simp; omega
    by_cases hj : j = 0
    · rw [if_pos hj] at S1
      have t1 : ((0 : Int) == k) = false := by simpa using fun h => hk h.symm
      have HR := Lib.hid (show R = false from by rw [← hR, decide_eq_false (by omega), Bool.false_and])
      have S1 := Lib.hid S1
      clear hR h0 hS hj
      go_enter Tryd.func57, Tryd.ntmps57
      go_wp2_with fail
      refine (S1.out _).mono ?_
      rintro e w' ⟨rfl, rfl⟩
      unfold pairV
      go_wp2_with fail
      go_ret
      exact ⟨by rw [HR.out]; rfl, rfl⟩
    · rw [if_neg hj, Nat.zero_add] at S1
      have S1 := Lib.hid S1
      by_cases hjk : j = k
      · have t1 : (j == k) = true := by simpa using hjk
        rw [decide_eq_true hjk, Bool.true_and] at hR
        have t2 : ((n : Int) == s.size) = R := by rw [← hR, Bool.eq_iff_iff, beq_iff_eq, decide_eq_true_eq]; omega
        have H2 := Lib.hid t2
        clear hR h0 hS hj hjk t2
        cases R with
        | true =>
          have t2 := H2.out
          go_enter Tryd.func57, Tryd.ntmps57
          go_wp2_with fail
          refine (S1.out _).mono ?_
          rintro e w' ⟨rfl, rfl⟩
          unfold pairV
          go_wp2_with fail
          go_ret
          exact ⟨rfl, rfl⟩
        | false =>
          have t2 := H2.out
          go_enter Tryd.func57, Tryd.ntmps57
          go_wp2_with fail
          refine (S1.out _).mono ?_
          rintro e w' ⟨rfl, rfl⟩
          unfold pairV
          go_wp2_with fail
          go_ret
          exact ⟨rfl, rfl⟩
      · have t1 : (j == k) = false := by simpa using hjk
        have HR := Lib.hid (show R = false from by rw [← hR, decide_eq_false hjk, Bool.false_and])
        clear hR h0 hS hj hjk
        go_enter Tryd.func57, Tryd.ntmps57
        go_wp2_with fail
        refine (S1.out _).mono ?_
        rintro e w' ⟨rfl, rfl⟩
        unfold pairV
        go_wp2_with fail
        go_ret
        exact ⟨by rw [HR.out]; rfl, rfl⟩

set_option maxHeartbeats 2000000 in
theorem parts_any (s : ByteArray) (w : World) (hI : isK 11 s.data.toList = true) (hs : s.size ≤ 1152921504606846976) :
    Calls Tryd.prog 58 #[.string s] w fun e w' => e = .returned (pairV (prefX s.data.toList)) ∧ w = w' := by
  have h0 : 0 < s.size := by
    apply Nat.pos_of_ne_zero; intro h
    have hl : s.data.toList = [] := List.length_eq_zero_iff.1 (by rw [← Lib.size_eq]; exact h)
    rw [hl] at hI; revert hI; decide
  obtain ⟨hall, hn⟩ := whole_dig _ hI
  have hpc := pre_cases s 0 h0
  rw [List.drop_zero] at hpc
  by_cases h2 : 2 < s.size
  · have t0 : decide ((2 : Int) < s.size) = true := by simp; omega
    have i1 : 1 < s.size := by omega
    obtain ⟨y0, n0⟩ := byteK s[0] 48 48 rfl (by decide)
    obtain ⟨y1, n1⟩ := byteK s[1] 111 111 rfl (by decide)
    obtain ⟨y2, n2⟩ := byteK s[1] 79 79 rfl (by decide)
    obtain ⟨y3, n3⟩ := byteK s[1] 120 120 rfl (by decide)
    obtain ⟨y4, n4⟩ := byteK s[1] 88 88 rfl (by decide)
    rcases hpc with ⟨hp, hh⟩ | ⟨b, hp, h48, _, hf, hb⟩
    · rw [hp] at hall ⊢
      simp only [List.drop_zero] at hall
      obtain ⟨hl1, hd1⟩ := digN_all 10 s.data.toList 1 (by rw [hall, ← Lib.size_eq]; omega)
      have hs1 : s.data.toList[1] = s[1] := rfl
      rw [hs1] at hd1
      have hn : s[1] ≠ 111 ∧ s[1] ≠ 79 ∧ s[1] ≠ 120 ∧ s[1] ≠ 88 := by
        refine ⟨fun h => ?_, fun h => ?_, fun h => ?_, fun h => ?_⟩ <;> rw [h] at hd1 <;> revert hd1 <;> decide
      have q1 := (n1 hn.1).1
      have q2 := (n2 hn.2.1).1
      have q3 := (n3 hn.2.2.1).1
      have q4 := (n4 hn.2.2.2).1
      have hq : ((s[0].toNat : Int) == 48) = true ∨ ((s[0].toNat : Int) == 48) = false := by cases ((s[0].toNat : Int) == 48) <;> simp
      clear hall hh hp hl1 hd1 hs1 hn y0 n0 y1 n1 y2 n2 y3 n3 y4 n4 hI
      rcases hq with q0 | q0
      all_goals
        go_enter Tryd.func58, Tryd.ntmps58
        go_wp2_with fail
        go_ret2
        exact ⟨rfl, rfl⟩
    · rw [hp]
      simp only [some_at h0, some_at i1, Nat.zero_add] at h48 hb
      have q0 := (y0 h48).1
      have hq : (b = 8 ∧ (((s[1].toNat : Int) == 111) = true ∨ (((s[1].toNat : Int) == 111) = false ∧ ((s[1].toNat : Int) == 79) = true))) ∨
          (b = 16 ∧ (((s[1].toNat : Int) == 120) = true ∨ (((s[1].toNat : Int) == 120) = false ∧ ((s[1].toNat : Int) == 88) = true)) ∧ ((s[1].toNat : Int) == 111) = false ∧ ((s[1].toNat : Int) == 79) = false) := by
        rcases hb with ⟨hb, hc⟩ | ⟨hb, hc⟩
        · left
          refine ⟨hb, ?_⟩
          by_cases h : s[1] = 111
          · exact .inl (y1 h).1
          · exact .inr ⟨(n1 h).1, (y2 (hc.resolve_left h)).1⟩
        · right
          have hn : s[1] ≠ 111 ∧ s[1] ≠ 79 := by
            refine ⟨fun h => ?_, fun h => ?_⟩ <;> rcases hc with hc | hc <;> rw [h] at hc <;> revert hc <;> decide
          refine ⟨hb, ?_, (n1 hn.1).1, (n2 hn.2).1⟩
          by_cases h : s[1] = 120
          · exact .inl (y3 h).1
          · exact .inr ⟨(n3 h).1, (y4 (hc.resolve_left h)).1⟩
      clear hall hp h48 hf hb y0 n0 y1 n1 y2 n2 y3 n3 y4 n4 hI hn
      rcases hq with ⟨rfl, q1 | ⟨q1, q2⟩⟩ | ⟨rfl, q1 | ⟨q1, q2⟩, q3, q4⟩
      all_goals
        go_enter Tryd.func58, Tryd.ntmps58
        go_wp2_with fail
        go_ret2
        exact ⟨rfl, rfl⟩
  · have hp : prefX s.data.toList = (10, 0) := by
      rcases hpc with ⟨hp, _⟩ | ⟨b, _, _, h9, _⟩
      · exact hp
      · omega
    rw [hp]
    have t0 : decide ((2 : Int) < s.size) = false := by simp; omega
    clear hpc hp hall hn hI h2
    go_enter Tryd.func58, Tryd.ntmps58
    go_wp2_with fail
    go_ret2
    exact ⟨rfl, rfl⟩

set_option maxRecDepth 20000 in
set_option maxHeartbeats 4000000 in
theorem refValue_any (s : ByteArray) (w : World) (hs : s.size ≤ 1152921504606846976) :
    Calls Tryd.prog 45 #[.string s] w fun e w' => e = .returned (valueV (valueX s.data.toList)) ∧ w = w' := by
  have I1 := fun w => whole_any s 11 w (by decide) hs
  by_cases hI : isK 11 s.data.toList = true
  · obtain ⟨hall, hn⟩ := whole_dig _ hI
    have P1 := fun w => parts_any s w hI hs
    obtain ⟨R, hR⟩ : ∃ R, valueX s.data.toList = R := ⟨_, rfl⟩
    rw [hR]
    unfold valueX at hR
    have hI2 : isInt s.data.toList = true := hI
    rw [if_pos hI2] at hR
    have hb := prefX_base s.data.toList
    obtain ⟨⟨base, n⟩, hp⟩ : ∃ p, prefX s.data.toList = p := ⟨_, rfl⟩
    rw [hp] at hall hn P1 hR hb
    simp only at hall hn hR
    rw [← Lib.size_eq] at hn
    rw [hI] at I1
    have I1 := Lib.hid I1
    have P1 := Lib.hid P1
    obtain ⟨V, hV⟩ : ∃ V, valL base (s.data.toList.drop n) 0 = V := ⟨_, rfl⟩
    rw [hV] at hR
    have HR := Lib.hid hR
    have HV := Lib.hid hV
    have HA := Lib.hid hall
    have hbb : base = 8 ∨ base = 10 ∨ base = 16 := by rcases hb with h | h | h <;> injection h with h1 h2 <;> omega
    clear hI hI2 hR hV hall hp hb
    rcases hbb with rfl | rfl | rfl
    · go_enter Tryd.func45, Tryd.ntmps45
      go_wp2_with fail
      refine (I1.out _).mono ?_
      rintro e w1 ⟨rfl, rfl⟩
      go_wp2_with fail
      refine (P1.out _).mono ?_
      rintro e w2 ⟨rfl, rfl⟩
      unfold pairV
      go_wp2_with fail
      go_loop [5, 6] (fun i v => ∃ (k : Nat) (x : Int), i = .int .i64 k ∧ v = .int .i64 x ∧ n ≤ k ∧ k ≤ s.size ∧ 0 ≤ x ∧ x ≤ 4611686018427387904 ∧ Hid (valL 8 (s.data.toList.drop k) x = V)) (fun i _ => s.size - (intOf i).toNat)
      case atStart => exact ⟨n, 0, rfl, rfl, Nat.le_refl _, hn, by omega, by omega, HV⟩
      case round =>
        obtain ⟨k, x, rfl, rfl, hnk, hk, hx0, hx1, HL⟩ := hrel
        by_cases hlt : k < s.size
        · have hdrop := drop_at s k hlt
          obtain ⟨hl1, hdg⟩ := digN_all 8 (s.data.toList.drop n) (k - n) (by rw [HA.out, List.length_drop, ← Lib.size_eq]; omega)
          have hbe : (s.data.toList.drop n)[k - n] = s[k] := by
            rw [List.getElem_drop]
            have e : n + (k - n) = k := by omega
            simp only [e]; rfl
          rw [hbe] at hdg
          have hwr := wrap64_u8 s[k]
          have hL2 := HL.out
          rw [hdrop, valL_cons] at hL2
          have hd0 : 0 ≤ dig (s[k].toNat : Int) 8 := by unfold isDig at hdg; simpa using hdg
          have hd1 := dig_lt _ _ hd0
          have DG := fun w => refDigit_any (s[k].toNat : Int) 8 w
          obtain ⟨d, hd⟩ : ∃ d, dig (s[k].toNat : Int) 8 = d := ⟨_, rfl⟩
          rw [hd] at hL2 hd0 hd1 DG
          have DG := Lib.hid DG
          clear hdrop hdg hd hl1 hbe
          by_cases ho : (4611686018427387904 - d) / 8 < x
          · rw [if_pos ho] at hL2
            have HR2 := Lib.hid (show R = (0, 3) from by rw [← HR.out, ← hL2])
            clear hL2
            go_wp2_with (go_at_call 59; refine (DG.out _).mono ?_; rintro e w' ⟨rfl, rfl⟩)
            go_ret2
            exact ⟨by rw [HR2.out]; rfl, rfl⟩
          · rw [if_neg ho] at hL2
            have HL2 := Lib.hid hL2
            have hm : x * 8 + d ≤ 4611686018427387904 := by omega
            have hm0 : 0 ≤ x * 8 := by omega
            clear hL2
            go_wp2_with (go_at_call 59; refine (DG.out _).mono ?_; rintro e w' ⟨rfl, rfl⟩)
            go_round
            case rel => exact ⟨k + 1, x * 8 + d, by go_num, rfl, by omega, by omega, by omega, hm, HL2⟩
            case measure => simp [intOf]; omega
        · have HR2 := Lib.hid (show R = (x, 0) from by
            have h := HL.out
            rw [List.drop_eq_nil_of_le (by rw [← Lib.size_eq]; omega), valL] at h
            rw [← HR.out, ← h])
          have t3 : decide (k < s.size) = false := by simp; omega
          go_wp2_with fail
          go_ret2
          exact ⟨by rw [HR2.out]; rfl, rfl⟩
    · go_enter Tryd.func45, Tryd.ntmps45
      go_wp2_with fail
      refine (I1.out _).mono ?_
      rintro e w1 ⟨rfl, rfl⟩
      go_wp2_with fail
      refine (P1.out _).mono ?_
      rintro e w2 ⟨rfl, rfl⟩
      unfold pairV
      go_wp2_with fail
      go_loop [5, 6] (fun i v => ∃ (k : Nat) (x : Int), i = .int .i64 k ∧ v = .int .i64 x ∧ n ≤ k ∧ k ≤ s.size ∧ 0 ≤ x ∧ x ≤ 4611686018427387904 ∧ Hid (valL 10 (s.data.toList.drop k) x = V)) (fun i _ => s.size - (intOf i).toNat)
      case atStart => exact ⟨n, 0, rfl, rfl, Nat.le_refl _, hn, by omega, by omega, HV⟩
      case round =>
        obtain ⟨k, x, rfl, rfl, hnk, hk, hx0, hx1, HL⟩ := hrel
        by_cases hlt : k < s.size
        · have hdrop := drop_at s k hlt
          obtain ⟨hl1, hdg⟩ := digN_all 10 (s.data.toList.drop n) (k - n) (by rw [HA.out, List.length_drop, ← Lib.size_eq]; omega)
          have hbe : (s.data.toList.drop n)[k - n] = s[k] := by
            rw [List.getElem_drop]
            have e : n + (k - n) = k := by omega
            simp only [e]; rfl
          rw [hbe] at hdg
          have hwr := wrap64_u8 s[k]
          have hL2 := HL.out
          rw [hdrop, valL_cons] at hL2
          have hd0 : 0 ≤ dig (s[k].toNat : Int) 10 := by unfold isDig at hdg; simpa using hdg
          have hd1 := dig_lt _ _ hd0
          have DG := fun w => refDigit_any (s[k].toNat : Int) 10 w
          obtain ⟨d, hd⟩ : ∃ d, dig (s[k].toNat : Int) 10 = d := ⟨_, rfl⟩
          rw [hd] at hL2 hd0 hd1 DG
          have DG := Lib.hid DG
          clear hdrop hdg hd hl1 hbe
          by_cases ho : (4611686018427387904 - d) / 10 < x
          · rw [if_pos ho] at hL2
            have HR2 := Lib.hid (show R = (0, 3) from by rw [← HR.out, ← hL2])
            clear hL2
            go_wp2_with (go_at_call 59; refine (DG.out _).mono ?_; rintro e w' ⟨rfl, rfl⟩)
            go_ret2
            exact ⟨by rw [HR2.out]; rfl, rfl⟩
          · rw [if_neg ho] at hL2
            have HL2 := Lib.hid hL2
            have hm : x * 10 + d ≤ 4611686018427387904 := by omega
            have hm0 : 0 ≤ x * 10 := by omega
            clear hL2
            go_wp2_with (go_at_call 59; refine (DG.out _).mono ?_; rintro e w' ⟨rfl, rfl⟩)
            go_round
            case rel => exact ⟨k + 1, x * 10 + d, by go_num, rfl, by omega, by omega, by omega, hm, HL2⟩
            case measure => simp [intOf]; omega
        · have HR2 := Lib.hid (show R = (x, 0) from by
            have h := HL.out
            rw [List.drop_eq_nil_of_le (by rw [← Lib.size_eq]; omega), valL] at h
            rw [← HR.out, ← h])
          have t3 : decide (k < s.size) = false := by simp; omega
          go_wp2_with fail
          go_ret2
          exact ⟨by rw [HR2.out]; rfl, rfl⟩
    · go_enter Tryd.func45, Tryd.ntmps45
      go_wp2_with fail
      refine (I1.out _).mono ?_
      rintro e w1 ⟨rfl, rfl⟩
      go_wp2_with fail
      refine (P1.out _).mono ?_
      rintro e w2 ⟨rfl, rfl⟩
      unfold pairV
      go_wp2_with fail
      go_loop [5, 6] (fun i v => ∃ (k : Nat) (x : Int), i = .int .i64 k ∧ v = .int .i64 x ∧ n ≤ k ∧ k ≤ s.size ∧ 0 ≤ x ∧ x ≤ 4611686018427387904 ∧ Hid (valL 16 (s.data.toList.drop k) x = V)) (fun i _ => s.size - (intOf i).toNat)
      case atStart => exact ⟨n, 0, rfl, rfl, Nat.le_refl _, hn, by omega, by omega, HV⟩
      case round =>
        obtain ⟨k, x, rfl, rfl, hnk, hk, hx0, hx1, HL⟩ := hrel
        by_cases hlt : k < s.size
        · have hdrop := drop_at s k hlt
          obtain ⟨hl1, hdg⟩ := digN_all 16 (s.data.toList.drop n) (k - n) (by rw [HA.out, List.length_drop, ← Lib.size_eq]; omega)
          have hbe : (s.data.toList.drop n)[k - n] = s[k] := by
            rw [List.getElem_drop]
            have e : n + (k - n) = k := by omega
            simp only [e]; rfl
          rw [hbe] at hdg
          have hwr := wrap64_u8 s[k]
          have hL2 := HL.out
          rw [hdrop, valL_cons] at hL2
          have hd0 : 0 ≤ dig (s[k].toNat : Int) 16 := by unfold isDig at hdg; simpa using hdg
          have hd1 := dig_lt _ _ hd0
          have DG := fun w => refDigit_any (s[k].toNat : Int) 16 w
          obtain ⟨d, hd⟩ : ∃ d, dig (s[k].toNat : Int) 16 = d := ⟨_, rfl⟩
          rw [hd] at hL2 hd0 hd1 DG
          have DG := Lib.hid DG
          clear hdrop hdg hd hl1 hbe
          by_cases ho : (4611686018427387904 - d) / 16 < x
          · rw [if_pos ho] at hL2
            have HR2 := Lib.hid (show R = (0, 3) from by rw [← HR.out, ← hL2])
            clear hL2
            go_wp2_with (go_at_call 59; refine (DG.out _).mono ?_; rintro e w' ⟨rfl, rfl⟩)
            go_ret2
            exact ⟨by rw [HR2.out]; rfl, rfl⟩
          · rw [if_neg ho] at hL2
            have HL2 := Lib.hid hL2
            have hm : x * 16 + d ≤ 4611686018427387904 := by omega
            have hm0 : 0 ≤ x * 16 := by omega
            clear hL2
            go_wp2_with (go_at_call 59; refine (DG.out _).mono ?_; rintro e w' ⟨rfl, rfl⟩)
            go_round
            case rel => exact ⟨k + 1, x * 16 + d, by go_num, rfl, by omega, by omega, by omega, hm, HL2⟩
            case measure => simp [intOf]; omega
        · have HR2 := Lib.hid (show R = (x, 0) from by
            have h := HL.out
            rw [List.drop_eq_nil_of_le (by rw [← Lib.size_eq]; omega), valL] at h
            rw [← HR.out, ← h])
          have t3 : decide (k < s.size) = false := by simp; omega
          go_wp2_with fail
          go_ret2
          exact ⟨by rw [HR2.out]; rfl, rfl⟩
  · have hR : valueX s.data.toList = (0, 40) := by unfold valueX; rw [if_neg (by exact hI)]
    rw [hR]
    have hI : isK 11 s.data.toList = false := by simpa using hI
    rw [hI] at I1
    have I1 := Lib.hid I1
    clear hI hR
    go_enter Tryd.func45, Tryd.ntmps45
    go_wp2_with fail
    refine (I1.out _).mono ?_
    rintro e w1 ⟨rfl, rfl⟩
    go_wp2_with fail
    go_ret2
    exact ⟨rfl, rfl⟩
end Go.Proofs.YtikkdkacflkifaaDoor
