/- DERIVED. The walk of layer 1's awake. -/
import Derived.Test.YtimcnmmkccdcdaaDoorCheck
import Derived.Test.YtimcnmmkccdcdaaDoorDigit
set_option linter.unusedSimpArgs false
set_option linter.unusedVariables false
namespace Go.Proofs.YtimcnmmkccdcdaaDoor
open Go.RowKit

theorem aw_next : nextL (⟨#[97, 195, 169]⟩ : ByteArray).data.toList 1 = (233, 2) := by decide +kernel
theorem aw_class : cls 955 = 2 := by decide +kernel
theorem aw_dig : dig 102 16 = 15 := by decide +kernel
theorem aw_run : runL (⟨#[43, 42, 97]⟩ : ByteArray).data.toList 0 5 = 2 := by decide +kernel

set_option maxHeartbeats 1000000 in
theorem awake_any (w : World) (hT : Tabs w) :
    Calls Tryd.prog 11 #[] w fun e w' => e = .returned (.bool true) ∧ Below w.heap.size w w' := by
  have n1 := next_any ⟨#[97, 195, 169]⟩ 1 w (by decide) hT
  rw [aw_next] at n1
  have HT := Lib.hid hT
  clear hT
  go_enter Tryd.func11, Tryd.ntmps11
  go_wp2_with fail
  refine n1.mono ?_
  rintro e w1 ⟨rfl, hb1⟩
  have c1 := class_any 955 w1
  rw [aw_class] at c1
  have d1 := digit_any 102 16 w1
  rw [aw_dig] at d1
  have r1 := run_any ⟨#[43, 42, 97]⟩ 0 5 w1 (by decide)
  rw [aw_run] at r1
  have C1 := Lib.hid c1; have D1 := Lib.hid d1; have R1 := Lib.hid r1; have HB := Lib.hid hb1
  clear n1 c1 d1 r1 hb1
  go_wp2_with fail
  refine C1.out.mono ?_
  rintro e w' ⟨rfl, rfl⟩
  go_wp2_with fail
  refine D1.out.mono ?_
  rintro e w' ⟨rfl, rfl⟩
  go_wp2_with fail
  refine R1.out.mono ?_
  rintro e w2 ⟨rfl, hb2⟩
  go_wp2_with fail
  go_ret
  exact ⟨rfl, Below.then HB.out hb2⟩
end Go.Proofs.YtimcnmmkccdcdaaDoor
