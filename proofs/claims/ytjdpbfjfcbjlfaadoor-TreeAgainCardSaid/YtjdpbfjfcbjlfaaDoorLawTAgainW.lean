/- DERIVED. The walk of the law TreeAgain. -/
import Derived.Test.YtjdpbfjfcbjlfaaDoorL10Awake
import Derived.Test.YtjdpbfjfcbjlfaaDoorTreeP
import Derived.Test.YtjdpbfjfcbjlfaaDoorTreeOpen
set_option linter.unusedSimpArgs false
set_option linter.unusedVariables false
namespace Go.Proofs.YtjdpbfjfcbjlfaaDoor
open Go.RowKit

set_option maxHeartbeats 4000000 in
theorem treeAgain_walk (s : ByteArray) (w : World) :
    Calls Tryd.prog 8 #[.string s] w fun e w' => e = .returned (.bool true) ∧ Below w.heap.size w w' := by
  cases hR : readGo s with
  | error x =>
    have R1 := fun w => read_any s w
    rw [hR] at R1
    have R1 := Lib.hid R1
    clear hR
    go_enter Tryd.func8, Tryd.ntmps8
    go_wp2_with fail
    refine (awake_any _).mono ?_
    rintro e w1 ⟨rfl, hb1⟩
    have HB1 := Lib.hid hb1
    clear hb1
    go_wp2_with fail
    refine (R1.out _).mono ?_
    intro e w2 hp
    obtain ⟨hb2, rfl, hx⟩ := hp
    have HB2 := Lib.hid (Below.then HB1.out hb2)
    have hst := HB2.out.size
    have x0 : (x == 0) = false := by rw [beq_eq_false_iff_ne]; omega
    have x1 : (x != 0) = true := by rw [bne_iff_ne]; omega
    clear hb2 hx
    unfold nodeV
    simp only [zeroT, Tr.kind, Tr.form, Tr.text, Tr.line, Tr.col]
    go_wp2_with fail
    refine (same_any 1 zeroT zeroT (.slice none 0 0) (.slice none 0 0) _ (by decide) (Lies.leaf ..) (Lies.leaf ..)).mono ?_
    rw [same_refl _ _ (Nat.le_refl _)]
    rintro e w3 ⟨rfl, hb3⟩
    have HB3 := Lib.hid (Below.then (HB2.out.alloc hst _) hb3)
    clear hb3
    go_wp2_with fail
    go_ret
    exact ⟨rfl, HB3.out⟩
  | ok t =>
    obtain ⟨hm, rfl, hlen⟩ := show_read s t hR
    have hblk := blk_show _ t (Nat.le_refl _) hm
    have R1 := fun w => read_any ⟨t.showL.toArray⟩ w
    rw [hR] at R1
    have R1 := Lib.hid R1
    have S1 := fun kv w h => show2_any t kv w (by omega) h
    have hv : showV t = .tuple #[.string ⟨t.showL.toArray⟩, .int .i64 0] := by unfold showV; rw [if_pos hm]
    rw [hv] at S1
    have S1 := Lib.hid S1
    generalize (⟨t.showL.toArray⟩ : ByteArray) = s at *
    clear hR hm hlen hblk hv
    go_enter Tryd.func8, Tryd.ntmps8
    go_wp2_with fail
    refine (awake_any _).mono ?_
    rintro e w1 ⟨rfl, hb1⟩
    have HB1 := Lib.hid hb1
    clear hb1
    go_wp2_with fail
    refine (R1.out _).mono ?_
    intro e w2 hp
    obtain ⟨hb2, kv, rfl, hl⟩ := hp
    obtain ⟨kx, kc, rfl⟩ := hl.shape
    have HB2 := Lib.hid (Below.then HB1.out hb2)
    have HL2 := Lib.hid hl.lies
    have hst := HB2.out.size
    clear hb2 hl
    unfold nodeV
    go_wp2_with fail
    refine (S1.out _ _ (HL2.out.keep ((Below.refl _ _).alloc (Nat.le_refl _) _))).mono ?_
    rintro e w3 ⟨rfl, hb3⟩
    have HB3 := Lib.hid (Below.then (HB2.out.alloc hst _) hb3)
    clear hb3
    go_wp2_with fail
    go_ret
    exact ⟨rfl, HB3.out⟩
end Go.Proofs.YtjdpbfjfcbjlfaaDoor
