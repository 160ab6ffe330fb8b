/- DERIVED. The walk of layer 3's awake. -/
import Derived.Test.YthiljpnabgbabaaDoorRefWordF
set_option linter.unusedSimpArgs false
set_option linter.unusedVariables false
namespace Go.Proofs.YthiljpnabgbabaaDoor
open Go.RowKit

theorem aw_scan : scanAt (⟨#[77, 46, 78, 46, 120, 32, 121]⟩ : ByteArray).data.toList 0 = (3, 5) := by decide +kernel
theorem aw_split : splitW (⟨#[77, 46, 78, 46, 43]⟩ : ByteArray).data.toList = some (3, 4) := by decide +kernel
theorem aw_splitV : splitV ⟨#[77, 46, 78, 46, 43]⟩ (some (3, 4)) = .tuple #[.string ⟨#[77, 46, 78]⟩, .string ⟨#[43]⟩, .int .i64 0] := by
  unfold splitV
  simp only [Lib.extract_eq]
  rfl
theorem aw_kind : kindW (⟨#[58]⟩ : ByteArray).data.toList = 10 := by decide +kernel
theorem aw_apart : apartW (⟨#[120]⟩ : ByteArray).data.toList (⟨#[43]⟩ : ByteArray).data.toList = true := by decide +kernel

set_option maxHeartbeats 1000000 in
theorem awake_any (w : World) (hT : Tabs w) :
    Calls Tryd.prog 12 #[] w fun e w' => e = .returned (.bool true) ∧ Below w.heap.size w w' := by
  have s1 := scanTop_any ⟨#[77, 46, 78, 46, 120, 32, 121]⟩ 0 w (by decide) hT
  rw [aw_scan] at s1
  have p1 := fun w hT => split_any ⟨#[77, 46, 78, 46, 43]⟩ w (by decide) hT
  rw [aw_split, aw_splitV] at p1
  have k1 := fun w hT => kind_any ⟨#[58]⟩ w (by decide) hT
  rw [aw_kind] at k1
  have a1 := fun w hT => apart_any ⟨#[120]⟩ ⟨#[43]⟩ w (by decide) (by decide) hT
  rw [aw_apart] at a1
  have HT := Lib.hid hT; have S1 := Lib.hid s1; have P1 := Lib.hid p1; have K1 := Lib.hid k1; have A1 := Lib.hid a1
  clear hT s1 p1 k1 a1
  go_enter Tryd.func12, Tryd.ntmps12
  go_wp2_with fail
  refine S1.out.mono ?_
  rintro e w1 ⟨rfl, hb1⟩
  have HB1 := Lib.hid hb1; have HT1 := Lib.hid (HT.out.below hb1)
  clear hb1
  go_wp2_with fail
  refine (P1.out _ HT1.out).mono ?_
  rintro e w2 ⟨rfl, hb2⟩
  have HB2 := Lib.hid (Below.then HB1.out hb2); have HT2 := Lib.hid (HT1.out.below hb2)
  clear hb2
  go_wp2_with fail
  refine (K1.out _ HT2.out).mono ?_
  rintro e w3 ⟨rfl, hb3⟩
  have HB3 := Lib.hid (Below.then HB2.out hb3); have HT3 := Lib.hid (HT2.out.below hb3)
  clear hb3
  go_wp2_with fail
  refine (A1.out _ HT3.out).mono ?_
  rintro e w4 ⟨rfl, hb4⟩
  have HB4 := Lib.hid (Below.then HB3.out hb4)
  clear hb4
  go_wp2_with fail
  go_ret
  exact ⟨rfl, HB4.out⟩
end Go.Proofs.YthiljpnabgbabaaDoor
