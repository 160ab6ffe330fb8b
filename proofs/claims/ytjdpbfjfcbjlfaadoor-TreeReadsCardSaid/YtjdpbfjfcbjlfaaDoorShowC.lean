/- DERIVED. The walk of Show. -/
import Derived.Test.YtjdpbfjfcbjlfaaDoorShowB
set_option linter.unusedSimpArgs false
set_option linter.unusedVariables false
namespace Go.Proofs.YtjdpbfjfcbjlfaaDoor
open Go.RowKit

/-- What Show answers. -/
def showV (t : Tr) : Value := if t.may = true then .tuple #[.string ⟨t.showL.toArray⟩, .int .i64 0] else .tuple #[.string ⟨#[]⟩, .int .i64 100]
set_option maxHeartbeats 1000000 in
theorem show2_any (t : Tr) (kv : Value) (w : World) (hs : t.blk ≤ 274877906944) (hl : Lies w t kv) :
    Calls Tryd.prog 20 #[nodeV t kv] w fun e w' => e = .returned (showV t) ∧ Below w.heap.size w w' := by
  obtain ⟨xa, cap, rfl⟩ := hl.shape
  have hsb := size_le_blk _ t (Nat.le_refl _)
  have HL := Lib.hid hl
  have hmm := fun kv w => may_any t.size t kv w (Nat.le_refl _) (by omega)
  clear hl
  unfold nodeV
  by_cases hm : t.may = true
  · have hv : showV t = .tuple #[.string ⟨t.showL.toArray⟩, .int .i64 0] := by unfold showV; rw [if_pos hm]
    rw [hv]
    simp only [hm] at hmm
    have HMY := Lib.hid hm
    have HM := Lib.hid hmm
    clear hmm hm hv
    go_enter Tryd.func20, Tryd.ntmps20
    go_wp2_with fail
    refine (HM.out _ _ (HL.out.keep ((Below.refl _ _).alloc (Nat.le_refl _) _))).mono ?_
    rintro e w1 ⟨rfl, hb1⟩
    have hx := (boxed_new w t (.slice xa t.kids.length cap) _ rfl).below hb1
    have HB1 := Lib.hid (((Below.refl _ _).alloc (Nat.le_refl _) _).trans (hb1.mono (by simp)))
    have d0 := fun o => (hx.alloc o).c0
    have d1 := fun o => (hx.alloc o).c1
    have d2 := fun o => (hx.alloc o).c2
    have d3 := fun o => (hx.alloc o).c3
    have d4 := fun o => (hx.alloc o).c4
    have d5 := fun o => (hx.alloc o).c5
    have hst := HB1.out.size
    clear hb1 hx
    go_wp2_with fail
    refine (show_any t.size t _ w _ w1.heap.size w1.heap.size [] (Nat.le_refl _) HMY.out (by simp only [List.length_nil]; omega) HL.out (HB1.out.alloc (by omega) _) hst (fresh_IsB w1)).mono ?_
    rintro e w2 ⟨rfl, hb2, hI2⟩
    have HB2 := Lib.hid hb2
    have HI2 := Lib.hid hI2
    clear hb2 hI2
    go_wp2_with fail
    refine (bString_any _ _ _ _ HI2.out HI2.out.base2).mono ?_
    rintro e w3 ⟨rfl, _, hb3, _⟩
    have HB3 := Lib.hid (HB2.out.trans (hb3.mono hst))
    clear hb3
    go_wp2_with fail
    go_ret2
    exact ⟨by simp, HB3.out⟩
  · have hv : showV t = .tuple #[.string ⟨#[]⟩, .int .i64 100] := by unfold showV; rw [if_neg hm]
    rw [hv]
    simp only [show t.may = false by simpa using hm] at hmm
    have HM := Lib.hid hmm
    clear hmm hm hv
    go_enter Tryd.func20, Tryd.ntmps20
    go_wp2_with fail
    refine (HM.out _ _ (HL.out.keep ((Below.refl _ _).alloc (Nat.le_refl _) _))).mono ?_
    rintro e w1 ⟨rfl, hb1⟩
    have HB1 := Lib.hid (((Below.refl _ _).alloc (Nat.le_refl _) _).trans (hb1.mono (by simp)))
    clear hb1
    go_wp2_with fail
    go_ret2
    exact ⟨rfl, HB1.out⟩
end Go.Proofs.YtjdpbfjfcbjlfaaDoor
