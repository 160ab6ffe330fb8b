/- DERIVED. The walks of number's Scan and is. -/
import Derived.Test.YthcogfceighbpaaDoorNumC
set_option linter.unusedSimpArgs false
set_option linter.unusedVariables false
namespace Go.Proofs.YthcogfceighbpaaDoor
open Go.RowKit

set_option maxHeartbeats 1000000 in
theorem scanAt_any (s : ByteArray) (i : Int) (w : World) (hs : s.size ≤ 1152921504606846976) :
    Calls Tryd.prog 11 #[.string s, .int .i64 i] w fun e w' => e = .returned (pairV (scanI s.data.toList i)) ∧ Below w.heap.size w w' := by
  by_cases h : 0 ≤ i ∧ i < s.size
  · obtain ⟨i, rfl⟩ := Int.eq_ofNat_of_zero_le h.1
    have hi : i < s.size := by omega
    have hF : scanI s.data.toList i = if (scanX (s.data.toList.drop i)).1 = 0 then (0, 0) else ((scanX (s.data.toList.drop i)).1, i + (scanX (s.data.toList.drop i)).2) := by
      unfold scanI; rw [if_pos ⟨by omega, by rw [← Lib.size_eq]; omega⟩, Int.toNat_natCast]
    rw [hF]
    obtain ⟨R, hR⟩ : ∃ R : Int × Nat, (if (scanX (s.data.toList.drop i)).1 = 0 then ((0, 0) : Int × Nat) else ((scanX (s.data.toList.drop i)).1, i + (scanX (s.data.toList.drop i)).2)) = R := ⟨_, rfl⟩
    rw [hR]
    have C := scan_any (s.extract i s.size) w (by rw [cut_size s i (by omega)]; omega)
    have hle := scanX_le (s.data.toList.drop i)
    rw [cut_data] at C
    rw [List.length_drop, ← Lib.size_eq] at hle
    have t0 : decide ((i : Int) < 0) = false := by simp
    have t1 : decide (s.size ≤ i) = false := by simp; omega
    clear hF h
    generalize scanX (s.data.toList.drop i) = p at *
    obtain ⟨k, n⟩ := p
    simp only at hle hR
    have hz : ((s.extract i s.size).extract 0 n).size = n := by rw [ByteArray.size_extract, cut_size s i (by omega)]; omega
    have HZ := Lib.hid hz
    have HC := Lib.hid C
    clear C hz
    by_cases hk : k = 0
    · subst hk
      have HR := Lib.hid (show R = (0, 0) from by rw [← hR]; rfl)
      clear hR
      go_enter Tryd.func11, Tryd.ntmps11
      go_wp2_with fail
      refine HC.out.mono ?_
      rintro e w1 ⟨rfl, hb1⟩
      have HB1 := Lib.hid hb1
      clear hb1
      unfold numV
      go_wp2_with fail
      go_ret2
      exact ⟨by rw [HR.out]; rfl, HB1.out⟩
    · have t2 : (k == 0) = false := by simpa using hk
      have HF := Lib.hid (show R = (k, i + n) from by rw [← hR, if_neg hk])
      clear hk hR
      go_enter Tryd.func11, Tryd.ntmps11
      go_wp2_with fail
      refine HC.out.mono ?_
      rintro e w1 ⟨rfl, hb1⟩
      have HB1 := Lib.hid hb1
      clear hb1
      unfold numV
      generalize hx : (s.extract i s.size).extract 0 n = x at *
      have HX := Lib.hid hx
      have hzz : x.size = n := HZ.out
      have HZ2 := Lib.hid hzz
      have hxs : x.size ≤ s.size - i := by omega
      clear hx hzz
      go_wp2_with fail
      go_ret2
      exact ⟨by rw [HF.out]; unfold pairV; simp only [HZ2.out]; first | rfl | go_num, HB1.out⟩
  · have hF : scanI s.data.toList i = (0, 0) := by unfold scanI; rw [if_neg (by rw [← Lib.size_eq]; exact h)]
    rw [hF]
    clear hF
    by_cases h0 : i < 0
    · clear h
      go_enter Tryd.func11, Tryd.ntmps11
      go_wp2_with fail
      go_ret2
      exact ⟨rfl, Below.refl _ _⟩
    · have h1 : (s.size : Int) ≤ i := by omega
      clear h
      go_enter Tryd.func11, Tryd.ntmps11
      go_wp2_with fail
      go_ret2
      exact ⟨rfl, Below.refl _ _⟩
/-- A text that is cut is itself only where nothing is cut. -/
theorem cut_self (s : ByteArray) (n : Nat) (h : n ≤ s.size) : ((s.extract 0 n).toList == s.toList) = decide (n = s.size) := by
  rw [Bool.eq_iff_iff, beq_iff_eq, decide_eq_true_eq, Lib.toList_data, Lib.toList_data]
  constructor
  · intro e
    have := congrArg List.length e
    rw [← Lib.size_eq, ← Lib.size_eq, ByteArray.size_extract] at this; omega
  · rintro rfl
    rw [Lib.extract_data, List.drop_zero, List.take_of_length_le (by rw [← Lib.size_eq]; omega)]
def isK (k : Int) (l : List UInt8) : Bool := decide ((scanX l).1 = k) && decide ((scanX l).2 = l.length)
set_option maxHeartbeats 1000000 in
theorem is_any (s : ByteArray) (k : Int) (w : World) (hs : s.size ≤ 1152921504606846976) :
    Calls Tryd.prog 24 #[.string s, .int .i64 k] w fun e w' => e = .returned (.bool (isK k s.data.toList)) ∧ Below w.heap.size w w' := by
  have C := scan_any s w hs
  have hle := scanX_le s.data.toList
  rw [← Lib.size_eq] at hle
  unfold isK
  rw [← Lib.size_eq]
  generalize scanX s.data.toList = p at *
  obtain ⟨j, n⟩ := p
  simp only at hle ⊢
  have hc := cut_self s n hle
  have HC := Lib.hid C
  clear C
  by_cases hj : j = k
  · have t0 : (j == k) = true := by simpa using hj
    rw [decide_eq_true hj, Bool.true_and, ← hc]
    clear hc hj
    go_enter Tryd.func24, Tryd.ntmps24
    go_wp2_with fail
    refine HC.out.mono ?_
    rintro e w1 ⟨rfl, hb1⟩
    have HB1 := Lib.hid hb1
    clear hb1
    unfold numV
    go_wp2_with fail
    go_ret
    exact ⟨rfl, HB1.out⟩
  · have t0 : (j == k) = false := by simpa using hj
    rw [decide_eq_false hj, Bool.false_and]
    clear hc hj
    go_enter Tryd.func24, Tryd.ntmps24
    go_wp2_with fail
    refine HC.out.mono ?_
    rintro e w1 ⟨rfl, hb1⟩
    have HB1 := Lib.hid hb1
    clear hb1
    unfold numV
    go_wp2_with fail
    go_ret
    exact ⟨rfl, HB1.out⟩
end Go.Proofs.YthcogfceighbpaaDoor
