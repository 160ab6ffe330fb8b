/- DERIVED. The walk of the law TreeShows. -/
import Derived.Test.YtjdpbfjfcbjlfaaDoorL10Awake
import Derived.Test.YtjdpbfjfcbjlfaaDoorRefShowC
set_option linter.unusedSimpArgs false
set_option linter.unusedVariables false
namespace Go.Proofs.YtjdpbfjfcbjlfaaDoor
open Go.RowKit

set_option maxHeartbeats 1000000 in
theorem treeShows_walk (t : Tr) (kv : Value) (w : World) (hs : t.blk ≤ 274877906944) (hl : Lies w t kv) :
    Calls Tryd.prog 5 #[nodeV t kv] w fun e w' => e = .returned (.bool true) ∧ Below w.heap.size w w' := by
  obtain ⟨xa, cap, rfl⟩ := hl.shape
  obtain ⟨a, b, hv⟩ : ∃ a b, showV t = .tuple #[.string a, .int .i64 b] := by unfold showV; split <;> exact ⟨_, _, rfl⟩
  have S1 := fun w h => show2_any t (.slice xa t.kids.length cap) w hs h
  have S2 := fun w h => refShow_any t (.slice xa t.kids.length cap) w hs h
  rw [hv] at S1 S2
  have S1 := Lib.hid S1
  have S2 := Lib.hid S2
  have HL := Lib.hid hl
  clear hl hv hs
  unfold nodeV
  go_enter Tryd.func5, Tryd.ntmps5
  go_wp2_with fail
  refine (S1.out _ (HL.out.keep ((Below.refl _ _).alloc (Nat.le_refl _) _))).mono ?_
  rintro e w1 ⟨rfl, hb1⟩
  have hx := (boxed_new w t (.slice xa t.kids.length cap) _ rfl).below hb1
  have HB1 := Lib.hid (((Below.refl _ _).alloc (Nat.le_refl _) _).trans (hb1.mono (by simp)))
  have d0 := hx.c0
  have d1 := hx.c1
  have d2 := hx.c2
  have d3 := hx.c3
  have d4 := hx.c4
  have d5 := hx.c5
  clear hb1 hx
  go_wp2_with fail
  refine (S2.out _ (HL.out.keep HB1.out)).mono ?_
  rintro e w2 ⟨rfl, hb2⟩
  have HB2 := Lib.hid (Below.then HB1.out hb2)
  clear hb2 d0 d1 d2 d3 d4 d5
  go_wp2_with fail
  refine (awake_any _).mono ?_
  rintro e w3 ⟨rfl, hb3⟩
  have HB3 := Lib.hid (Below.then HB2.out hb3)
  clear hb3
  go_wp2_with fail
  go_ret
  exact ⟨rfl, HB3.out⟩
end Go.Proofs.YtjdpbfjfcbjlfaaDoor
