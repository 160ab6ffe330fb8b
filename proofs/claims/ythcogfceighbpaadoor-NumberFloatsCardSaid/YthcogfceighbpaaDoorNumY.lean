/- DERIVED. The walk of number's Decimal. -/
import Derived.Test.YthcogfceighbpaaDoorNumX
set_option linter.unusedSimpArgs false
set_option linter.unusedVariables false
namespace Go.Proofs.YthcogfceighbpaaDoor
open Go.RowKit

theorem OwnsL.at {w w' : World} {B : Nat} {v : Value} {l : List Nat} (h : OwnsL w B v l) (hw : ∀ k, B ≤ k → k < w.heap.size → w'.heap[k]? = w.heap[k]?) : OwnsL w' B v l := by
  obtain ⟨e, ⟨a, b⟩ | ⟨g, cap, cur, a, b, c, d⟩⟩ := h
  · exact ⟨e, .inl ⟨a, b⟩⟩
  · exact ⟨e, .inr ⟨g, cap, cur, a, b, (hw g b (Array.getElem?_eq_some_iff.1 c).1).trans c, d⟩⟩
theorem timesL_len (by_ : Nat) (l : List Nat) (c : Nat) : (timesL by_ l c).length ≤ l.length + 1 := by
  unfold timesL
  have := mulA_len by_ l c
  split
  · rw [List.length_append, this]; exact Nat.le_refl _
  · omega
theorem good_nil : Good [] := ⟨(fun x hx => by cases hx), (fun x hx => by cases hx)⟩
def textV (p : List UInt8 × Int) : Value := .tuple #[.string ⟨p.1.toArray⟩, .int .i64 p.2]
set_option maxRecDepth 20000 in
set_option maxHeartbeats 4000000 in
theorem decimal_any (s : ByteArray) (w : World) (hs : s.size ≤ 1152921504606846976) (hT : Pow w) :
    Calls Tryd.prog 16 #[.string s] w fun e w' => e = .returned (textV (decimalX s.data.toList)) ∧ Below w.heap.size w w' := by
  have I1 := fun w => is_any s 11 w hs
  obtain ⟨R, hR⟩ : ∃ R, decimalX s.data.toList = R := ⟨_, rfl⟩
  rw [hR]
  unfold decimalX at hR
  by_cases hI : isK 11 s.data.toList = true
  · have hI2 : isInt s.data.toList = true := hI
    rw [if_pos hI2, ← Lib.size_eq] at hR
    rw [hI] at I1
    have I1 := Lib.hid I1
    by_cases hlong : 1000 < s.size
    · have HR := Lib.hid (show R = ([], 3) from by rw [← hR, if_pos hlong])
      have t0 : decide ((1000 : Int) < s.size) = true := by simp; omega
      clear hI hI2 hR hlong
      go_enter Tryd.func16, Tryd.ntmps16
      go_wp2_with fail
      refine (I1.out _).mono ?_
      rintro e w1 ⟨rfl, hb1⟩
      have HB1 := Lib.hid hb1
      clear hb1
      go_wp2_with fail
      go_ret2
      exact ⟨by rw [HR.out]; rfl, HB1.out⟩
    · have t0 : decide ((1000 : Int) < s.size) = false := by simp; omega
      rw [if_neg hlong] at hR
      obtain ⟨hall, hn⟩ := whole_dig _ hI
      have P1 := fun w => prefixed_any s w hs
      have hb := prefX_base s.data.toList
      obtain ⟨⟨base, n⟩, hp⟩ : ∃ p, prefX s.data.toList = p := ⟨_, rfl⟩
      rw [hp] at hall hn P1 hR hb
      simp only at hall hn hR
      rw [← Lib.size_eq] at hn
      obtain ⟨bn, rfl, hb1, hb2⟩ : ∃ bn : Nat, base = bn ∧ 1 ≤ bn ∧ bn ≤ 16 := by rcases hb with h | h | h <;> injection h with h1 h2 <;> exact ⟨base.toNat, by omega, by omega, by omega⟩
      have P1 := Lib.hid P1
      rw [← cut_data s n] at hall hR
      have HR := Lib.hid hR
      have HA := Lib.hid hall
      have hsz : (s.extract n s.size).size = s.size - n := cut_size s n hn
      have hcs : (s.extract n s.size).size ≤ 1000 := by omega
      have hd : ∀ pos, Utf8.decode (s.extract n s.size) pos = dec ((s.extract n s.size).data.toList.drop pos) := fun pos => decode_eq _ _
      have HD := Lib.hid hd
      have HT := Lib.hid hT
      clear hI hI2 hR hall hp hb hsz hd hlong hT
      go_enter Tryd.func16, Tryd.ntmps16
      go_wp2_with fail
      refine (I1.out _).mono ?_
      rintro e w1 ⟨rfl, hb1⟩
      have HB1 := Lib.hid hb1
      clear hb1
      go_wp2_with fail
      refine (P1.out _).mono ?_
      rintro e w2 ⟨rfl, hb2⟩
      have HB2 := Lib.hid (Below.then HB1.out hb2)
      clear hb2
      unfold pairV
      go_wp2_with fail
      generalize hc : s.extract n s.size = c at *
      clear hc
      go_loopw [6] (fun lv wr => ∃ (pos : Nat) (ls : List Nat), Iter w2 c pos wr ∧ pos ≤ c.size ∧ OwnsL wr (w2.heap.size + 1) lv ls ∧ Good ls ∧ limbV ls = natB bn (c.data.toList.take pos) ∧ ls.length ≤ pos) (fun _ wr => c.size - wr.iterPos w2.heap.size)
      case atStart => exact ⟨0, [], Iter.start _ _, Nat.zero_le _, ⟨rfl, .inl ⟨rfl, rfl⟩⟩, good_nil, rfl, Nat.le_refl _⟩
      case round =>
        obtain ⟨pos, ls, hI, hpl0, hO, hG, hL, hll⟩ := hrel
        have HP := Lib.hid (iterPos_at hI)
        have HO := Lib.hid hO
        have HG := Lib.hid hG
        have HL := Lib.hid hL
        clear hO hG hL
        by_cases hp : pos < c.size
        · have hpl : pos < c.data.toList.length := by rw [← Lib.size_eq]; exact hp
          have hnx : ∀ ty, (Instr.next (.pointer (some ⟨w2.heap.size, 0, none⟩)) true ty).run Tryd.prog wr = _ := fun ty => Lib.run_next_any_at wr w2.heap.size c pos ty hI.1 hp
          rw [HD.out] at hnx
          obtain ⟨_, hdg⟩ := digN_all bn c.data.toList pos (by rw [HA.out]; exact hpl)
          have hdrop := List.drop_eq_getElem_cons hpl
          have htake := List.take_succ_eq_append_getElem hpl
          generalize c.data.toList[pos] = b at hdg hdrop htake
          have hb128 := isDig_small _ _ hdg
          have hdec : dec (c.data.toList.drop pos) = (b.toNat, 1) := by rw [hdrop]; have := dec_ascii (b :: c.data.toList.drop (pos + 1)) (by simpa using hb128); simpa using this
          rw [hdec] at hnx
          have hI2 := hI.next (pos + 1)
          have hd0 : 0 ≤ dig (b.toNat : Int) bn := by unfold isDig at hdg; simpa using hdg
          have hd1 := (dig_bd (b.toNat : Int) bn).2
          have DG := fun w => digit_any (b.toNat : Int) bn w
          obtain ⟨d, hd⟩ := Int.eq_ofNat_of_zero_le hd0
          have hnat := natB_snoc bn (c.data.toList.take pos) b
          rw [← htake, hd, Int.toNat_natCast, Int.toNat_natCast, ← HL.out] at hnat
          rw [hd] at hd1 DG
          have HN := Lib.hid hnat
          have DG := Lib.hid DG
          obtain ⟨hg2, hv2⟩ := times_good bn ls d hb1 hb2 (by omega) HG.out
          have HG2 := Lib.hid hg2
          have HV2 := Lib.hid hv2
          have hln := timesL_len bn ls d
          have hlt : pos + 1 ≤ c.size := hp
          have HO2 := Lib.hid (show OwnsL (wr.iterAt w2.heap.size c (pos + 1)) (w2.heap.size + 1) _ ls from HO.out.at (fun k hk _ => Lib.iterAt_other _ _ _ _ _ (by omega)))
          have hsz : w2.heap.size + 1 ≤ (wr.iterAt w2.heap.size c (pos + 1)).heap.size := hI2.lt
          have T1 := Lib.hid fun v h => times_any ls v bn d (w2.heap.size + 1) (wr.iterAt w2.heap.size c (pos + 1)) h hsz hb2 (by omega) HG.out.lim (by omega)
          clear hdec hdrop hdg hd hpl hb128 hnat hg2 hv2 htake hd0
          go_wp2_with (go_at_call 26; refine (DG.out _).mono ?_; rintro e w' ⟨rfl, rfl⟩)
          refine (T1.out _ HO2.out).mono ?_
          rintro e w5 ⟨v5, rfl, hO5, hb5⟩
          have HO5 := Lib.hid hO5
          have hI5 : Iter w2 c (pos + 1) w5 := ⟨(hb5.block w2.heap.size (by omega)).trans hI2.1, hI2.2.trans (hb5.mono (by omega))⟩
          clear hO5 hb5
          go_wp2_with fail
          go_roundw
          case rel => exact ⟨pos + 1, _, hI5, hlt, HO5.out, HG2.out, by rw [HV2.out, HN.out], by omega⟩
          case measure =>
            rw [HP.out, iterPos_at hI5]
            omega
        · have hpl : c.data.toList.length ≤ pos := by rw [← Lib.size_eq]; omega
          have hnx : ∀ ty, (Instr.next (.pointer (some ⟨w2.heap.size, 0, none⟩)) true ty).run Tryd.prog wr = _ := fun ty => Lib.run_next_end_at wr w2.heap.size c pos ty hI.1 hp
          have HB3 := Lib.hid (Below.then HB2.out hI.2)
          have X1 := fun v h => text_any ls v (w2.heap.size + 1) wr h HG.out.lim (by omega) (HT.out.below HB3.out)
          have hlt := limb_text ls HG.out
          rw [HL.out, List.take_of_length_le hpl] at hlt
          rw [hlt] at X1
          have X1 := Lib.hid X1
          clear hlt
          go_wp2_with fail
          refine (X1.out _ HO.out).mono ?_
          rintro e w6 ⟨rfl, hb6⟩
          have HB6 := Lib.hid (Below.then HB3.out hb6)
          clear hb6
          go_wp2_with fail
          go_ret2
          exact ⟨by rw [← HR.out]; rfl, HB6.out⟩
  · have hI2 : ¬ isInt s.data.toList = true := hI
    have HR := Lib.hid (show R = ([], 40) from by rw [← hR, if_neg hI2])
    have hI : isK 11 s.data.toList = false := by simpa using hI
    rw [hI] at I1
    have I1 := Lib.hid I1
    clear hI hR hI2
    go_enter Tryd.func16, Tryd.ntmps16
    go_wp2_with fail
    refine (I1.out _).mono ?_
    rintro e w1 ⟨rfl, hb1⟩
    have HB1 := Lib.hid hb1
    clear hb1
    go_wp2_with fail
    go_ret2
    exact ⟨by rw [HR.out]; rfl, HB1.out⟩
end Go.Proofs.YthcogfceighbpaaDoor
