/- DERIVED. The walk of layer 6's awake. -/
import Derived.Test.YthhlnahehpigeaaDoorNoteG
import Derived.Test.YthhlnahehpigeaaDoorNoteU
import Derived.Test.YthhlnahehpigeaaDoorPlaceI
set_option linter.unusedSimpArgs false
set_option linter.unusedVariables false
namespace Go.Proofs.YthhlnahehpigeaaDoor
open Go.RowKit

theorem scan_of_kindN (l : List UInt8) (h : kindN l ≠ 0) : scanN l 0 = ((l.length : Int), 0) := by
  by_cases hk : l = [] ∨ scanN l 0 ≠ ((l.length : Int), 0)
  · exact absurd (kind_not l hk) h
  · exact Classical.byContradiction fun hn => hk (.inr hn)
theorem aw_row : scanN (⟨#[45, 45, 32, 124, 120]⟩ : ByteArray).data.toList 0 = (5, 0) := by
  have h := kind_row 2 [32, 124, 120] (by decide) (span_no (isCls 5) [32, 124, 120] (by decide +kernel)) (by decide)
  have e : List.replicate 2 (45 : UInt8) ++ [32, 124, 120] = (⟨#[45, 45, 32, 124, 120]⟩ : ByteArray).data.toList := rfl
  rw [e] at h
  exact scan_of_kindN _ (by rw [h]; decide)
theorem aw_prag : kindN (⟨#[123, 45, 35, 32, 65, 32, 35, 45, 125]⟩ : ByteArray).data.toList = 3 := by
  show kindN [123, 45, 35, 32, 65, 32, 35, 45, 125] = 3
  have hn : nestI [123, 45, 35, 32, 65, 32, 35, 45, 125] 2 1 = some 9 := by
    rw [nestI_on _ _ _ (by decide) (by decide) (by decide), nestI_on _ _ _ (by decide) (by decide) (by decide), nestI_on _ _ _ (by decide) (by decide) (by decide), nestI_on _ _ _ (by decide) (by decide) (by decide), nestI_on _ _ _ (by decide) (by decide) (by decide), nestI_out _ _ _ (by decide) (by decide)]
    rfl
  rw [kind_nest _ (by decide) hn, if_pos ⟨[32, 65, 32], rfl⟩]
theorem aw_tidy : tidyN (⟨#[123, 45, 32, 97, 10, 9, 98, 32, 10, 45, 125]⟩ : ByteArray).data.toList 1 = ([123, 45, 32, 97, 10, 32, 32, 32, 98, 10, 32, 32, 32, 45, 125], 0) := by
  show tidyN [123, 45, 32, 97, 10, 9, 98, 32, 10, 45, 125] 1 = _
  have hn : nestI [123, 45, 32, 97, 10, 9, 98, 32, 10, 45, 125] 2 1 = some 11 := by
    rw [nestI_on _ _ _ (by decide) (by decide) (by decide), nestI_on _ _ _ (by decide) (by decide) (by decide), nestI_on _ _ _ (by decide) (by decide) (by decide), nestI_on _ _ _ (by decide) (by decide) (by decide), nestI_on _ _ _ (by decide) (by decide) (by decide), nestI_on _ _ _ (by decide) (by decide) (by decide), nestI_on _ _ _ (by decide) (by decide) (by decide), nestI_out _ _ _ (by decide) (by decide)]
    rfl
  have hk : kindN [123, 45, 32, 97, 10, 9, 98, 32, 10, 45, 125] ≠ 0 := by
    rw [kind_nest _ (by decide) hn]
    split <;> decide
  have hl := lines_join [[123, 45, 32, 97], [9, 98, 32], [45, 125]] (by decide) (by decide)
  have e : Lib.join [[123, 45, 32, 97], [9, 98, 32], [45, 125]] [10] = ([123, 45, 32, 97, 10, 9, 98, 32, 10, 45, 125] : List UInt8) := rfl
  rw [e] at hl
  have hs : linesN [123, 45, 32, 97, 10, 9, 98, 32, 10, 45, 125] = some [[123, 45, 32, 97], [98], [45, 125]] := by
    unfold linesN
    rw [if_neg hk, hl]
    decide +kernel
  unfold tidyN
  rw [if_neg (by decide), hs]
  rfl
set_option maxHeartbeats 1000000 in
theorem awake_any (w : World) (hT : Len0 w) :
    Calls Tryd.prog 13 #[] w fun e w' => e = .returned (.bool true) ∧ Below w.heap.size w w' := by
  have s1 := noteScan_any ⟨#[45, 45, 32, 124, 120]⟩ 0 w (by decide)
  rw [aw_row] at s1
  have hln : ∀ x ∈ linesL [] (⟨#[123, 45, 32, 97, 10, 9, 98, 32, 10, 45, 125]⟩ : ByteArray).data.toList, x.length ≤ 4294967280 := by
    intro x hx
    have := linesL_le _ _ [] (Nat.le_refl _) x hx
    exact Nat.le_trans this (by decide)
  have t1 := fun w hT => noteTidy_any ⟨#[123, 45, 32, 97, 10, 9, 98, 32, 10, 45, 125]⟩ 1 w (by decide) hln (by rw [aw_tidy]; decide) hT
  rw [aw_tidy] at t1
  have k1 := fun w => noteKind_any ⟨#[123, 45, 35, 32, 65, 32, 35, 45, 125]⟩ w (by decide)
  rw [aw_prag] at k1
  have HT := Lib.hid hT; have S1 := Lib.hid s1; have T1 := Lib.hid t1; have K1 := Lib.hid k1
  clear hT s1 t1 k1 hln
  unfold twoV at S1
  unfold tidyV strV at T1
  go_enter Tryd.func13, Tryd.ntmps13
  go_wp2_with fail
  refine S1.out.mono ?_
  rintro e w1 ⟨rfl, hb1⟩
  have HB1 := Lib.hid hb1; have HT1 := Lib.hid (HT.out.below HT.out.pos hb1)
  clear hb1
  go_wp2_with fail
  refine (T1.out _ HT1.out).mono ?_
  rintro e w2 ⟨rfl, hb2⟩
  have HB2 := Lib.hid (Below.then HB1.out hb2)
  clear hb2
  go_wp2_with fail
  refine (K1.out _).mono ?_
  rintro e w3 ⟨rfl, hb3⟩
  have HB3 := Lib.hid (Below.then HB2.out hb3)
  clear hb3
  go_wp2_with fail
  go_ret
  exact ⟨rfl, HB3.out⟩
end Go.Proofs.YthhlnahehpigeaaDoor
