/- DERIVED. The walk of the reference's Show. -/
import Derived.Test.YtjdpbfjfcbjlfaaDoorRefShowB
set_option linter.unusedSimpArgs false
set_option linter.unusedVariables false
namespace Go.Proofs.YtjdpbfjfcbjlfaaDoor
open Go.RowKit

set_option maxHeartbeats 1000000 in
theorem refShow_any (t : Tr) (kv : Value) (w : World) (hs : t.blk ≤ 274877906944) (hl : Lies w t kv) :
    Calls Tryd.prog 21 #[nodeV t kv] w fun e w' => e = .returned (showV t) ∧ Below w.heap.size w w' := by
  obtain ⟨xa, cap, rfl⟩ := hl.shape
  have hsb := size_le_blk _ t (Nat.le_refl _)
  have HL := Lib.hid hl
  have hmm := fun kv w => right_any t.size t kv w (Nat.le_refl _) (by omega)
  clear hl
  unfold nodeV
  by_cases hm : t.may = true
  · have hv : showV t = .tuple #[.string ⟨t.showL.toArray⟩, .int .i64 0] := by unfold showV; rw [if_pos hm]
    rw [hv]
    simp only [hm] at hmm
    have HMY := Lib.hid hm
    have HM := Lib.hid hmm
    clear hmm hm hv
    go_enter Tryd.func21, Tryd.ntmps21
    go_wp2_with fail
    refine (HM.out _ _ (HL.out.keep ((Below.refl _ _).alloc (Nat.le_refl _) _))).mono ?_
    rintro e w1 ⟨rfl, hb1⟩
    have hx := (boxed_new w t (.slice xa t.kids.length cap) _ rfl).below hb1
    have HB1 := Lib.hid (((Below.refl _ _).alloc (Nat.le_refl _) _).trans (hb1.mono (by simp)))
    have d0 := hx.c0
    have d1 := hx.c1
    have d2 := hx.c2
    have d3 := hx.c3
    have d4 := hx.c4
    have d5 := hx.c5
    have hst := HB1.out.size
    clear hb1 hx
    go_wp2_with fail
    refine (refShow1_any t.size t _ (.slice none 0 0) [] w w1 (Nat.le_refl _) HMY.out (by simp only [List.length_nil]; omega) HL.out (Buf.nil _ _ _ HB1.out hst)).mono ?_
    intro e w2 hp
    obtain ⟨v2, rfl, hI2, _⟩ := hp
    have hcv := hI2.text
    have HI2 := Lib.hid hI2
    clear hI2
    rw [List.nil_append] at hcv
    go_wp2_with fail
    go_ret2
    exact ⟨rfl, HI2.out.below⟩
  · have hv : showV t = .tuple #[.string ⟨#[]⟩, .int .i64 100] := by unfold showV; rw [if_neg hm]
    rw [hv]
    simp only [show t.may = false by simpa using hm] at hmm
    have HM := Lib.hid hmm
    clear hmm hm hv
    go_enter Tryd.func21, Tryd.ntmps21
    go_wp2_with fail
    refine (HM.out _ _ (HL.out.keep ((Below.refl _ _).alloc (Nat.le_refl _) _))).mono ?_
    rintro e w1 ⟨rfl, hb1⟩
    have HB1 := Lib.hid (((Below.refl _ _).alloc (Nat.le_refl _) _).trans (hb1.mono (by simp)))
    clear hb1
    go_wp2_with fail
    go_ret2
    exact ⟨rfl, HB1.out⟩
end Go.Proofs.YtjdpbfjfcbjlfaaDoor
