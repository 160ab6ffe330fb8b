/- DERIVED. The walk of the law TreeCounts. -/
import Derived.Test.YtjdpbfjfcbjlfaaDoorL10Awake
import Derived.Test.YtjdpbfjfcbjlfaaDoorTreeJ
import Derived.Test.YtjdpbfjfcbjlfaaDoorBoxRead
set_option linter.unusedSimpArgs false
set_option linter.unusedVariables false
namespace Go.Proofs.YtjdpbfjfcbjlfaaDoor
open Go.RowKit

set_option maxHeartbeats 4000000 in
theorem treeCounts_walk (t : Tr) (kv : Value) (w : World) (hl : Lies w t kv) (hs : t.size ≤ 1048576) :
    Calls Tryd.prog 4 #[nodeV t kv] w fun e w' => e = .returned (.bool true) ∧ Below w.heap.size w w' := by
  have S1 := Lib.hid fun w h => size_any t kv w (by omega) h
  have S2 := Lib.hid fun w h => refSize_any t.size t kv w (Nat.le_refl _) (by omega) h
  have D1 := Lib.hid fun w h => depth_any t.size t kv w (Nat.le_refl _) (by omega) h
  have D2 := Lib.hid fun w h => refDepth_any t.size t kv w (Nat.le_refl _) (by omega) h
  have L1 := Lib.hid fun w h => leaves_any t kv w (by omega) h
  have L2 := Lib.hid fun w h => refLeaves_any t.size t kv w (Nat.le_refl _) (by omega) h
  have hll := leaves_size t.size t (Nat.le_refl _)
  have T1 := Lib.hid fun va vb B1 B2 w h1 h2 => toks_any va vb t.leaves B1 B2 w h1 h2 (by omega)
  obtain ⟨xa, cap, rfl⟩ := hl.shape
  have HL := Lib.hid hl
  generalize t.size = sz at *
  generalize t.depth = dp at *
  generalize t.leaves = lv at *
  clear hl hs hll
  unfold nodeV
  go_enter Tryd.func4, Tryd.ntmps4
  go_wp2_with fail
  have X0 := Lib.hid (boxed_new w t (.slice xa t.kids.length cap) _ rfl)
  have B0 := Lib.hid ((Below.refl w.heap.size w).alloc (Nat.le_refl _) (.cells #[.int .i64 t.kind, .int .i64 t.form, .string t.text, .int .i64 t.line, .int .i64 t.col, .slice xa t.kids.length cap] 24))
  have r0 := Boxed.read0 t (.slice xa t.kids.length cap) w.heap.size
  have r1 := Boxed.read1 t (.slice xa t.kids.length cap) w.heap.size
  have r2 := Boxed.read2 t (.slice xa t.kids.length cap) w.heap.size
  have r3 := Boxed.read3 t (.slice xa t.kids.length cap) w.heap.size
  have r4 := Boxed.read4 t (.slice xa t.kids.length cap) w.heap.size
  have r5 := Boxed.read5 t (.slice xa t.kids.length cap) w.heap.size
  go_region_held3 (fun w' => Boxed w' w.heap.size t (.slice xa t.kids.length cap) ∧ Below w.heap.size w w')
    (first
      | exact ⟨X0.out.below (Below.refl _ _).drew, B0.out.drew⟩
      | (go_split_ands; exact ⟨Boxed.below (by assumption) hb1, Below.then (by assumption) hb1⟩))
    (first
      | (go_at_call 10; refine (awake_any _).mono ?_; rintro e w1 ⟨rfl, hb1⟩)
      | (go_at_call 13; go_split_ands; refine (S1.out _ (HL.out.keep (by assumption))).mono ?_; rintro e w1 ⟨rfl, hb1⟩)
      | (go_at_call 14; go_split_ands; refine (S2.out _ (HL.out.keep (by assumption))).mono ?_; rintro e w1 ⟨rfl, hb1⟩)
      | (go_at_call 15; go_split_ands; refine (D1.out _ (HL.out.keep (by assumption))).mono ?_; rintro e w1 ⟨rfl, hb1⟩)
      | (go_at_call 16; go_split_ands; refine (D2.out _ (HL.out.keep (by assumption))).mono ?_; rintro e w1 ⟨rfl, hb1⟩)
      | (go_at_call 18; go_split_ands; refine (L1.out _ (HL.out.keep (by assumption))).mono ?_; rintro e w1 ⟨va, rfl, hva, hb1⟩; (try have hvb' := OwnsK.below hvb hb1))
      | (go_at_call 19; go_split_ands; refine (L2.out _ (HL.out.keep (by assumption))).mono ?_; rintro e w1 ⟨vb, rfl, hvb, hb1⟩; (try have hva' := OwnsK.below hva hb1))
      | (go_at_call 17; go_split_ands; refine (T1.out _ _ _ _ _ (by assumption) (by assumption)).mono ?_; rintro e w1 ⟨rfl, hb1⟩))
  all_goals
    go_wp2_with fail
    go_ret
    go_split_ands
    exact ⟨rfl, by assumption⟩
end Go.Proofs.YtjdpbfjfcbjlfaaDoor
