/- DERIVED. The walk of layer 4's awake. -/
import Derived.Test.YthcogfceighbpaaDoorNumK
import Derived.Test.YthcogfceighbpaaDoorRefNumV
set_option linter.unusedSimpArgs false
set_option linter.unusedVariables false
namespace Go.Proofs.YthcogfceighbpaaDoor
open Go.RowKit

theorem aw_scan : scanI (⟨#[48, 120, 49, 70, 103]⟩ : ByteArray).data.toList 0 = (11, 4) := by decide +kernel
theorem aw_value : valueX (⟨#[48, 111, 49, 55]⟩ : ByteArray).data.toList = (15, 0) := by decide +kernel
theorem aw_ff : isInt [48, 120, 102, 102] = true ∧ natB (prefX [48, 120, 102, 102]).1 ([48, 120, 102, 102].drop (prefX [48, 120, 102, 102]).2) = 255 := by decide +kernel
theorem dec255 : Lib.decDigits 255 = [50, 53, 53] := by rw [Lib.decDigits, dif_neg (by decide), Lib.decDigits_two (by decide) (by decide)]; rfl
theorem dec10 : Lib.decDigits 10 = [49, 48] := by rw [Lib.decDigits_two (by decide) (by decide)]; rfl
theorem aw_decimal : decimalX (⟨#[48, 120, 102, 102]⟩ : ByteArray).data.toList = ([50, 53, 53], 0) := by
  show decimalX [48, 120, 102, 102] = _
  unfold decimalX
  rw [if_pos aw_ff.1, if_neg (by decide), aw_ff.2, dec255]
theorem aw_tenB : isInt [49, 48] = true ∧ natB (prefX [49, 48]).1 ([49, 48].drop (prefX [49, 48]).2) = 10 := by decide +kernel
theorem aw_ten : worthX (⟨#[49, 48]⟩ : ByteArray).data.toList = ([49], 1, true) := by
  show worthX [49, 48] = _
  have h : decimalX [49, 48] = ([49, 48], 0) := by
    unfold decimalX
    rw [if_pos aw_tenB.1, if_neg (by decide), aw_tenB.2, dec10]
  unfold worthX
  rw [h]
  decide +kernel
theorem aw_e1B : isInt [49, 101, 49] = false ∧ isK 12 [49, 101, 49] = true ∧ floatX [49, 101, 49] = ([49], 1, 0) := by decide +kernel
theorem aw_e1 : worthX (⟨#[49, 101, 49]⟩ : ByteArray).data.toList = ([49], 1, true) := by
  show worthX [49, 101, 49] = _
  have h : decimalX [49, 101, 49] = ([], 40) := by
    unfold decimalX
    rw [aw_e1B.1]; rfl
  unfold worthX
  rw [h, aw_e1B.2.2]
  rfl
set_option maxHeartbeats 1000000 in
theorem awake_any (w : World) (hT : Pow w) :
    Calls Tryd.prog 13 #[] w fun e w' => e = .returned (.bool true) ∧ Below w.heap.size w w' := by
  have s1 := scanAt_any ⟨#[48, 120, 49, 70, 103]⟩ 0 w (by decide)
  rw [aw_scan] at s1
  have v1 := fun w => value_any ⟨#[48, 111, 49, 55]⟩ w (by decide)
  rw [aw_value] at v1
  have d1 := fun w hT => decimal_any ⟨#[48, 120, 102, 102]⟩ w (by decide) hT
  rw [aw_decimal] at d1
  have m1 := fun w hT => same_any ⟨#[49, 101, 49]⟩ ⟨#[49, 48]⟩ w (by decide) (by decide) hT
  rw [aw_ten, aw_e1] at m1
  have HT := Lib.hid hT; have S1 := Lib.hid s1; have V1 := Lib.hid v1; have D1 := Lib.hid d1; have M1 := Lib.hid m1
  clear hT s1 v1 d1 m1
  unfold pairV at S1
  unfold valueV at V1
  unfold textV at D1
  go_enter Tryd.func13, Tryd.ntmps13
  go_wp2_with fail
  refine S1.out.mono ?_
  rintro e w1 ⟨rfl, hb1⟩
  have HB1 := Lib.hid hb1; have HT1 := Lib.hid (HT.out.below hb1)
  clear hb1
  go_wp2_with fail
  refine (V1.out _).mono ?_
  rintro e w2 ⟨rfl, hb2⟩
  have HB2 := Lib.hid (Below.then HB1.out hb2); have HT2 := Lib.hid (HT1.out.below hb2)
  clear hb2
  go_wp2_with fail
  refine (D1.out _ HT2.out).mono ?_
  rintro e w3 ⟨rfl, hb3⟩
  have HB3 := Lib.hid (Below.then HB2.out hb3); have HT3 := Lib.hid (HT2.out.below hb3)
  clear hb3
  go_wp2_with fail
  refine (M1.out _ HT3.out).mono ?_
  rintro e w4 ⟨rfl, hb4⟩
  have HB4 := Lib.hid (Below.then HB3.out hb4)
  clear hb4
  go_wp2_with fail
  go_ret
  exact ⟨rfl, HB4.out⟩
end Go.Proofs.YthcogfceighbpaaDoor
