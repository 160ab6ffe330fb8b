/- DERIVED. The walk of layer 2's awake. -/
import Derived.Test.YtmbgfchbjedjnaaDoorPlaceG
set_option linter.unusedSimpArgs false
set_option linter.unusedVariables false
namespace Go.Proofs.YtmbgfchbjedjnaaDoor
open Go.RowKit

theorem aw_of : ofV ⟨#[97, 9, 98]⟩ 2 = .tuple #[.int .i64 1, .int .i64 9, .int .i64 0] := by
  have h : ofL (⟨#[97, 9, 98]⟩ : ByteArray).data.toList 2 1 1 = (1, 9) := by
    rw [ofL_on _ _ _ _ (by decide) (by decide +kernel), ofL_on _ _ _ _ (by decide +kernel) (by decide +kernel)]
    rw [show 2 - unit (⟨#[97, 9, 98]⟩ : ByteArray).data.toList - unit (List.drop (unit (⟨#[97, 9, 98]⟩ : ByteArray).data.toList) (⟨#[97, 9, 98]⟩ : ByteArray).data.toList) = 0 from by decide +kernel, ofL_end]
    decide +kernel
  unfold ofV
  rw [if_neg (by decide)]
  rw [show (2 : Int).toNat = 2 from rfl, h]
theorem aw_lines : linesL [] (⟨#[97, 13, 10]⟩ : ByteArray).data.toList = [[97], []] := by
  rw [linesL_on _ _ (by decide) (by decide +kernel), linesL_nl _ _ (by decide) (by decide +kernel)]
  rw [show List.drop (nl (List.drop 1 (⟨#[97, 13, 10]⟩ : ByteArray).data.toList)) (List.drop 1 (⟨#[97, 13, 10]⟩ : ByteArray).data.toList) = [] from by decide +kernel, linesL_nil]
  rfl
theorem aw_trim : Lib.trimRightS (⟨#[97, 32, 9, 10]⟩ : ByteArray).data.toList blanksL = [97] := by decide +kernel

set_option maxHeartbeats 1000000 in
theorem awake_any (w : World) (hT : Tabs w) :
    Calls Tryd.prog 12 #[] w fun e w' => e = .returned (.bool true) ∧ Below w.heap.size w w' := by
  have o1 := fun w hT => of_any ⟨#[97, 9, 98]⟩ 2 w (by decide) hT
  rw [aw_of] at o1
  have l1 := fun w => lines_any ⟨#[97, 13, 10]⟩ w (by decide)
  rw [aw_lines] at l1
  have t1 := fun w => trim_any ⟨#[97, 32, 9, 10]⟩ w (by decide)
  rw [aw_trim, show strV [97] = Value.string ⟨#[97]⟩ from rfl] at t1
  have HT := Lib.hid hT; have O1 := Lib.hid o1; have L1 := Lib.hid l1; have T1 := Lib.hid t1
  clear hT o1 l1 t1
  go_enter Tryd.func12, Tryd.ntmps12
  go_wp2_with fail
  refine (O1.out _ HT.out).mono ?_
  rintro e w1 ⟨rfl, hb1⟩
  have HB1 := Lib.hid hb1; have HT1 := Lib.hid (HT.out.below hb1)
  clear hb1
  go_wp2_with fail
  refine (L1.out _).mono ?_
  rintro e w2 ⟨v, rfl, hown, hb2⟩
  have HB2 := Lib.hid (Below.then HB1.out hb2); have HT2 := Lib.hid (HT1.out.below hb2)
  clear hb2
  replace hown : w2.ownsRow w1.heap.size 9 1 v 2 [.string ⟨#[97]⟩, .string ⟨#[]⟩] := hown
  obtain ⟨g, cap, hv⟩ : ∃ g cap, v = .slice (some ⟨g, 0, none⟩) 2 cap := by
    rcases hown.2 with ⟨_, h⟩ | ⟨g, cap, _, h, _⟩
    · cases h
    · exact ⟨g, cap, h⟩
  subst hv
  have e0 : w2.cell? ⟨g, 0, none⟩ = some (.string ⟨#[97]⟩) := hown.cellAt 0 (by decide)
  have e1 : w2.cell? ⟨g, 1, none⟩ = some (.string ⟨#[]⟩) := hown.cellAt 1 (by decide)
  clear hown
  go_wp2_with fail
  refine (T1.out _).mono ?_
  rintro e w3 ⟨rfl, hb3⟩
  have HB3 := Lib.hid (Below.then HB2.out hb3)
  clear hb3
  go_wp2_with fail
  go_ret
  exact ⟨rfl, HB3.out⟩
end Go.Proofs.YtmbgfchbjedjnaaDoor
