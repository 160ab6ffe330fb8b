/- DERIVED. The walks of the reference's Scan and Kind. -/
import Derived.Test.YthiljpnabgbabaaDoorRefWordD
set_option linter.unusedSimpArgs false
set_option linter.unusedVariables false
namespace Go.Proofs.YthiljpnabgbabaaDoor
open Go.RowKit

theorem scanW_plain (l : List UInt8) (h : (plainW l).1 ≠ 2) : scanW l = ((plainW l).1, (plainW l).2, 0) := by
  unfold scanW
  exact goOn_end _ _ _ _ _ (by rintro ⟨h1, _⟩; have := plainW_kind l; omega)

set_option maxHeartbeats 4000000 in
theorem refScan_any (s : ByteArray) (i : Int) (w : World) (hs : s.size ≤ 1152921504606846976) :
    Calls Tryd.prog 11 #[.string s, .int .i64 i] w fun e w' => e = .returned (.tuple #[.int .i64 (scanAt s.data.toList i).1, .int .i64 (scanAt s.data.toList i).2]) ∧ Below w.heap.size w w' := by
  have c1 := fun w => refClassAt_any s i w hs
  by_cases h : 0 ≤ i ∧ i < s.data.toList.length
  case neg =>
    have hc : classAt s.data.toList i = (0, 0) := by unfold classAt; rw [if_neg h]
    have hR : scanAt s.data.toList i = (0, 0) := by unfold scanAt; rw [if_neg h]
    rw [hc] at c1
    rw [hR]
    have C1 := Lib.hid c1
    clear c1 hc hR h
    go_enter Tryd.func11, Tryd.ntmps11
    go_wp2_with (go_at_call 20; refine (C1.out _).mono ?_; rintro e w' ⟨rfl, rfl⟩)
    go_ret2
    exact ⟨rfl, Below.refl _ _⟩
  obtain ⟨i, rfl⟩ := Int.eq_ofNat_of_zero_le h.1
  rw [← Lib.size_eq] at h
  have hi : i < s.size := by omega
  have hne : s.data.toList.drop i ≠ [] := drop_ne (by rw [← Lib.size_eq]; exact hi)
  have hlen : (s.data.toList.drop i).length = s.size - i := by rw [List.length_drop, ← Lib.size_eq]
  have hR : scanAt s.data.toList i = if (scanW (s.data.toList.drop i)).1 = 0 then (0, 0) else ((scanW (s.data.toList.drop i)).1, (i : Int) + (scanW (s.data.toList.drop i)).2.1) := by
    unfold scanAt; rw [if_pos ⟨by omega, by rw [← Lib.size_eq]; omega⟩, Int.toNat_natCast]
  rw [hR]
  have hc : classAt s.data.toList i = (firstC (s.data.toList.drop i), ((dec (s.data.toList.drop i)).2 : Int)) := by
    unfold classAt firstC; rw [if_pos ⟨by omega, by rw [← Lib.size_eq]; omega⟩, if_neg hne, Int.toNat_natCast]
  rw [hc] at c1
  have n1 := fun w => refName_any s i w hs (by omega)
  have r1 := fun w => refRun_any s i 5 w hs
  have hrl : runL s.data.toList i 5 = (i : Int) + (span (isCls 5) (s.data.toList.drop i) : Nat) := by
    unfold runL; rw [if_pos ⟨by omega, by rw [← Lib.size_eq]; omega⟩, Int.toNat_natCast]
  rw [hrl] at r1
  have hnl := span_le' inName (s.data.toList.drop i)
  have hsl := span_le' (isCls 5) (s.data.toList.drop i)
  rw [hlen] at hnl hsl
  have hpw : ∀ m, (s.extract i (i + m)).data.toList = (s.data.toList.drop i).take m := fun m => by
    rw [Lib.extract_data, Nat.add_sub_cancel_left]
  by_cases f3 : firstC (s.data.toList.drop i) = 3
  · have g1 := fun w => great_any s i w hs (by omega) f3
    have hk : (scanW (s.data.toList.drop i)).1 ≠ 0 := by
      have hpl : plainW (s.data.toList.drop i) = (2, nameLen (s.data.toList.drop i)) := by unfold plainW; rw [if_neg (by omega), if_neg (by omega), if_pos f3]
      have : ∀ (f : Nat) (l : List UInt8) (k : Int) (n a : Nat), k ≠ 0 → (goOn f l k n a).1 ≠ 0 := by
        intro f
        induction f with
        | zero => intro _ _ _ _ h; exact h
        | succ f ih =>
          intro l k n a h
          unfold goOn
          split
          · rename_i hc; exact ih _ _ _ _ hc.2.2
          · exact h
      exact this _ _ _ _ _ (by rw [hpl]; simp)
    rw [if_neg hk]
    rw [f3] at c1
    generalize scanW (s.data.toList.drop i) = R at *
    have C1 := Lib.hid c1; have GG := Lib.hid g1
    clear c1 g1 n1 r1 hrl hnl hsl hpw hR hc hk f3 hne hlen
    go_enter Tryd.func11, Tryd.ntmps11
    go_wp2_with (go_at_call 20; refine (C1.out _).mono ?_; rintro e w' ⟨rfl, rfl⟩)
    refine (GG.out _).mono ?_
    rintro e w1 ⟨rfl, hb⟩
    have HB := Lib.hid hb
    clear hb
    go_wp2_with fail
    go_ret2
    exact ⟨rfl, HB.out⟩
  have hp2 : (plainW (s.data.toList.drop i)).1 ≠ 2 := by
    unfold plainW
    split
    · simp
    split
    · unfold symK; (repeat' split) <;> simp
    split
    · simp only; split <;> simp
    · simp
  rw [scanW_plain _ hp2]
  clear hp2 hR
  by_cases f6 : firstC (s.data.toList.drop i) = 6
  · have hpl : plainW (s.data.toList.drop i) = (15, 1) := by unfold plainW; rw [if_pos f6]
    rw [hpl, if_neg (by simp)]
    rw [f6] at c1
    have C1 := Lib.hid c1
    clear c1 n1 r1 hrl hnl hsl hpw hc hpl f6 f3 hne hlen
    go_enter Tryd.func11, Tryd.ntmps11
    go_wp2_with (go_at_call 20; refine (C1.out _).mono ?_; rintro e w' ⟨rfl, rfl⟩)
    go_ret2
    exact ⟨rfl, Below.refl _ _⟩
  by_cases f5 : firstC (s.data.toList.drop i) = 5
  · have hpl : plainW (s.data.toList.drop i) = (symK ((s.data.toList.drop i).take (span (isCls 5) (s.data.toList.drop i))), span (isCls 5) (s.data.toList.drop i)) := by unfold plainW; rw [if_neg f6, if_pos f5]
    have hpos : 0 < span (isCls 5) (s.data.toList.drop i) := by
      have hd := dec_len _ hne
      have hcc : cls (dec (s.data.toList.drop i)).1 = 5 := by unfold firstC at f5; rw [if_neg hne] at f5; exact f5
      rw [span_yes _ _ hne (by unfold isCls; simpa using hcc)]
      omega
    have hsk : symK ((s.data.toList.drop i).take (span (isCls 5) (s.data.toList.drop i))) ≠ 0 := by
      unfold symK
      (repeat' split) <;> simp
    rw [hpl, if_neg hsk]
    rw [f5] at c1
    have o1 := fun w => operator_any (s.extract i (i + span (isCls 5) (s.data.toList.drop i))) w (by rw [ByteArray.size_extract]; omega)
    rw [hpw] at o1
    generalize span (isCls 5) (s.data.toList.drop i) = m at *
    generalize symK ((s.data.toList.drop i).take m) = sk at *
    have C1 := Lib.hid c1; have R1 := Lib.hid r1; have O1 := Lib.hid o1
    have hb4 : i + m ≤ s.size := by omega
    clear c1 n1 r1 o1 hrl hnl hsl hpw hc hpl f6 f5 f3 hne hlen hsk
    go_enter Tryd.func11, Tryd.ntmps11
    go_wp2_with (first | (go_at_call 20; refine (C1.out _).mono ?_; rintro e w' ⟨rfl, rfl⟩) | (go_at_call 21; refine (R1.out _).mono ?_; rintro e w' ⟨rfl, rfl⟩))
    refine (O1.out _).mono ?_
    rintro e w1 ⟨rfl, hb⟩
    have HB := Lib.hid hb
    clear hb
    go_wp2_with fail
    go_ret2
    exact ⟨rfl, HB.out⟩
  by_cases f2 : firstC (s.data.toList.drop i) = 2
  · have hpl : plainW (s.data.toList.drop i) = ((if resv ((s.data.toList.drop i).take (nameLen (s.data.toList.drop i))) then 9 else 1), nameLen (s.data.toList.drop i)) := by unfold plainW; rw [if_neg f6, if_neg f5, if_neg f3, if_pos f2]
    rw [hpl]
    rw [f2] at c1
    have a1 := fun b w hrow => amongWords_any b (s.extract i (i + nameLen (s.data.toList.drop i))) w hrow
    rw [hpw] at a1
    have hnl' : nameLen (s.data.toList.drop i) ≤ s.size - i := hnl
    generalize nameLen (s.data.toList.drop i) = m at *
    generalize resv ((s.data.toList.drop i).take m) = rv at *
    have C1 := Lib.hid c1; have N1 := Lib.hid n1; have A1 := Lib.hid a1
    clear c1 n1 r1 a1 hrl hnl hsl hpw hc hpl f6 f5 f3 f2 hne hlen
    have hb4 : i + m ≤ s.size := by omega
    have g4 : (i : Int) + m ≤ (s.size : Int) := by omega
    have g5 : ((i : Int) + m).toNat = i + m := by omega
    have g6 : (i : Int) ≤ (i : Int) + m := by omega
    have G5 := Lib.hid g5
    clear g5
    cases rv with
    | true =>
      rw [if_neg (by simp)]
      go_enter Tryd.func11, Tryd.ntmps11
      go_wp2_with (first | (go_at_call 20; refine (C1.out _).mono ?_; rintro e w' ⟨rfl, rfl⟩) | (go_at_call 23; refine (N1.out _).mono ?_; rintro e w' ⟨rfl, rfl⟩))
      have g5 := G5.out
      go_region_with (first | (go_at_call 25; refine (words_any _).mono ?_; rintro e w1 ⟨rfl, hrow, hb1⟩; have HROW := Lib.hid hrow; have HB1 := Lib.hid hb1; clear hrow hb1) | (go_at_call 24; refine (A1.out _ _ HROW.out).mono ?_; rintro e w' ⟨rfl, rfl⟩))
      all_goals go_wp2_with fail
      all_goals go_ret2
      all_goals exact ⟨rfl, (((Below.refl _ w).drew).trans (HB1.out.mono (Nat.le_refl _)))⟩
    | false =>
      rw [if_neg (by simp)]
      go_enter Tryd.func11, Tryd.ntmps11
      go_wp2_with (first | (go_at_call 20; refine (C1.out _).mono ?_; rintro e w' ⟨rfl, rfl⟩) | (go_at_call 23; refine (N1.out _).mono ?_; rintro e w' ⟨rfl, rfl⟩))
      have g5 := G5.out
      go_region_with (first | (go_at_call 25; refine (words_any _).mono ?_; rintro e w1 ⟨rfl, hrow, hb1⟩; have HROW := Lib.hid hrow; have HB1 := Lib.hid hb1; clear hrow hb1) | (go_at_call 24; refine (A1.out _ _ HROW.out).mono ?_; rintro e w' ⟨rfl, rfl⟩))
      all_goals go_wp2_with fail
      all_goals go_ret2
      all_goals exact ⟨rfl, (((Below.refl _ w).drew).trans (HB1.out.mono (Nat.le_refl _)))⟩
  have hpl : plainW (s.data.toList.drop i) = (0, 0) := by unfold plainW; rw [if_neg f6, if_neg f5, if_neg f3, if_neg f2]
  rw [hpl, if_pos rfl]
  generalize firstC (s.data.toList.drop i) = f at *
  have b3 : (f == 3) = false := beq_eq_false_iff_ne.2 f3
  have b2 : (f == 2) = false := beq_eq_false_iff_ne.2 f2
  have b5 : (f == 5) = false := beq_eq_false_iff_ne.2 f5
  have b6 : (f == 6) = false := beq_eq_false_iff_ne.2 f6
  have C1 := Lib.hid c1
  clear c1 n1 r1 hrl hnl hsl hpw hc hpl f6 f5 f3 f2 hne hlen
  go_enter Tryd.func11, Tryd.ntmps11
  go_wp2_with (go_at_call 20; refine (C1.out _).mono ?_; rintro e w' ⟨rfl, rfl⟩)
  go_ret2
  exact ⟨rfl, Below.refl _ _⟩

theorem scanAt_zero (l : List UInt8) (h : l ≠ []) : scanAt l 0 = if (scanW l).1 = 0 then (0, 0) else ((scanW l).1, ((scanW l).2.1 : Int)) := by
  have : 0 < l.length := List.length_pos_iff.2 h
  unfold scanAt
  rw [if_pos ⟨Int.le_refl _, by omega⟩]
  simp

set_option maxHeartbeats 1000000 in
theorem refKind_any (s : ByteArray) (w : World) (hs : s.size ≤ 1152921504606846976) :
    Calls Tryd.prog 14 #[.string s] w fun e w' => e = .returned (.int .i64 (kindW s.data.toList)) ∧ Below w.heap.size w w' := by
  have s1 := fun w => refScan_any s 0 w hs
  have hz : s.size = s.data.toList.length := Lib.size_eq s
  by_cases h0 : s.data.toList = []
  · have hk : kindW s.data.toList = 0 := by rw [h0]; rfl
    rw [hk]
    have hz0 : s.size = 0 := by rw [hz, h0]; rfl
    have S1 := Lib.hid s1
    have hb : ((s.size : Int) == 0) = true := beq_iff_eq.2 (by omega)
    have hb2 : (s.size == 0) = true := beq_iff_eq.2 hz0
    clear s1 hk h0 hz hz0
    generalize scanAt s.data.toList 0 = R at *
    go_enter Tryd.func14, Tryd.ntmps14
    go_wp2_with fail
    refine (S1.out _).mono ?_
    rintro e w1 ⟨rfl, hb1⟩
    have HB := Lib.hid hb1
    clear hb1
    go_wp2_with fail
    go_ret
    exact ⟨rfl, HB.out⟩
  · have hpos : 0 < s.size := by rw [hz]; exact List.length_pos_iff.2 h0
    have hsz := scanAt_zero _ h0
    have hk : kindW s.data.toList = if (scanAt s.data.toList 0).2 = s.size then (scanAt s.data.toList 0).1 else 0 := by
      unfold kindW
      rw [hsz, ← hz]
      by_cases hk0 : (scanW s.data.toList).1 = 0
      · rw [if_pos hk0, hk0]
        simp
      · rw [if_neg hk0]
        by_cases e : (scanW s.data.toList).2.1 = s.size
        · rw [if_pos e, if_pos (by simp only; omega)]
        · rw [if_neg e, if_neg (by simp only; omega)]
    rw [hk]
    have hb : ((s.size : Int) == 0) = false := beq_eq_false_iff_ne.2 (by omega)
    have hb2 : (s.size == 0) = false := beq_eq_false_iff_ne.2 (by omega)
    have S1 := Lib.hid s1
    clear s1 hsz hk h0 hz
    generalize scanAt s.data.toList 0 = R at *
    by_cases e : R.2 = (s.size : Int)
    · rw [if_pos e]
      have hc : (R.2 != (s.size : Int)) = false := by simpa using e
      clear e
      go_enter Tryd.func14, Tryd.ntmps14
      go_wp2_with fail
      refine (S1.out _).mono ?_
      rintro e w1 ⟨rfl, hb1⟩
      have HB := Lib.hid hb1
      clear hb1
      go_wp2_with fail
      go_ret
      exact ⟨rfl, HB.out⟩
    · rw [if_neg e]
      have hc : (R.2 != (s.size : Int)) = true := by simpa using e
      clear e
      go_enter Tryd.func14, Tryd.ntmps14
      go_wp2_with fail
      refine (S1.out _).mono ?_
      rintro e w1 ⟨rfl, hb1⟩
      have HB := Lib.hid hb1
      clear hb1
      go_wp2_with fail
      go_ret
      exact ⟨rfl, HB.out⟩
end Go.Proofs.YthiljpnabgbabaaDoor
