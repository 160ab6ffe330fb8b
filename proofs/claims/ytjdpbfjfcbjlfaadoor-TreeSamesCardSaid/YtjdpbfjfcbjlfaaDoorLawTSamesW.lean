/- DERIVED. The walk of the law TreeSames. -/
import Derived.Test.YtjdpbfjfcbjlfaaDoorL10Awake
import Derived.Test.YtjdpbfjfcbjlfaaDoorTreeE
import Derived.Test.YtjdpbfjfcbjlfaaDoorTreeOpen
import Derived.Deep.RegionHeld3
set_option linter.unusedSimpArgs false
set_option linter.unusedVariables false
namespace Go.Proofs.YtjdpbfjfcbjlfaaDoor
open Go.RowKit

theorem Boxed.read (t : Tr) (kv : Value) (b : Nat) : ∀ w, Boxed w b t kv → w.cell? ⟨b, 0, none⟩ = some (.int .i64 t.kind) ∧ w.cell? ⟨b, 1, none⟩ = some (.int .i64 t.form) ∧ w.cell? ⟨b, 2, none⟩ = some (.string t.text) ∧ w.cell? ⟨b, 3, none⟩ = some (.int .i64 t.line) ∧ w.cell? ⟨b, 4, none⟩ = some (.int .i64 t.col) ∧ w.cell? ⟨b, 5, none⟩ = some kv :=
  fun _ h => ⟨h.c0, h.c1, h.c2, h.c3, h.c4, h.c5⟩
set_option maxHeartbeats 2000000 in
theorem treeSames_walk (t u : Tr) (kv jv : Value) (w : World) (hl : Lies w t kv) (hu : Lies w u jv) :
    Calls Tryd.prog 3 #[nodeV t kv, nodeV u jv] w fun e w' => e = .returned (.bool true) ∧ Below w.heap.size w w' := by
  have S1 := Lib.hid fun w => same_any t.size t u kv jv w (Nat.le_refl _)
  have S2 := Lib.hid fun w => refSame_any t.size t u kv jv w (Nat.le_refl _)
  have S3 := fun w => same_any t.size t t kv kv w (Nat.le_refl _)
  rw [same_refl _ t (Nat.le_refl _)] at S3
  have S3 := Lib.hid S3
  obtain ⟨xa, cap, rfl⟩ := hl.shape
  obtain ⟨ya, cbp, rfl⟩ := hu.shape
  have HL := Lib.hid hl
  have HU := Lib.hid hu
  generalize t.same u = r at *
  clear hl hu
  unfold nodeV
  go_enter Tryd.func3, Tryd.ntmps3
  go_wp2_with fail
  have X0 := Lib.hid ((boxed_new w t (.slice xa t.kids.length cap) _ rfl).alloc (.cells #[.int .i64 u.kind, .int .i64 u.form, .string u.text, .int .i64 u.line, .int .i64 u.col, .slice ya u.kids.length cbp] 24))
  have Y0 := Lib.hid (boxed_new (w.alloc (.cells #[.int .i64 t.kind, .int .i64 t.form, .string t.text, .int .i64 t.line, .int .i64 t.col, .slice xa t.kids.length cap] 24)) u (.slice ya u.kids.length cbp) (w.heap.size + 1) (by simp))
  have B0 := Lib.hid (((Below.refl w.heap.size w).alloc (Nat.le_refl _) (.cells #[.int .i64 t.kind, .int .i64 t.form, .string t.text, .int .i64 t.line, .int .i64 t.col, .slice xa t.kids.length cap] 24)).alloc (by simp) (.cells #[.int .i64 u.kind, .int .i64 u.form, .string u.text, .int .i64 u.line, .int .i64 u.col, .slice ya u.kids.length cbp] 24))
  have r0 := fun w' h => (Boxed.read t (.slice xa t.kids.length cap) w.heap.size w' h).1
  have r1 := fun w' h => (Boxed.read t (.slice xa t.kids.length cap) w.heap.size w' h).2.1
  have r2 := fun w' h => (Boxed.read t (.slice xa t.kids.length cap) w.heap.size w' h).2.2.1
  have r3 := fun w' h => (Boxed.read t (.slice xa t.kids.length cap) w.heap.size w' h).2.2.2.1
  have r4 := fun w' h => (Boxed.read t (.slice xa t.kids.length cap) w.heap.size w' h).2.2.2.2.1
  have r5 := fun w' h => (Boxed.read t (.slice xa t.kids.length cap) w.heap.size w' h).2.2.2.2.2
  have q0 := fun w' h => (Boxed.read u (.slice ya u.kids.length cbp) (w.heap.size + 1) w' h).1
  have q1 := fun w' h => (Boxed.read u (.slice ya u.kids.length cbp) (w.heap.size + 1) w' h).2.1
  have q2 := fun w' h => (Boxed.read u (.slice ya u.kids.length cbp) (w.heap.size + 1) w' h).2.2.1
  have q3 := fun w' h => (Boxed.read u (.slice ya u.kids.length cbp) (w.heap.size + 1) w' h).2.2.2.1
  have q4 := fun w' h => (Boxed.read u (.slice ya u.kids.length cbp) (w.heap.size + 1) w' h).2.2.2.2.1
  have q5 := fun w' h => (Boxed.read u (.slice ya u.kids.length cbp) (w.heap.size + 1) w' h).2.2.2.2.2
  go_region_held3 (fun w' => Boxed w' w.heap.size t (.slice xa t.kids.length cap) ∧ Boxed w' (w.heap.size + 1) u (.slice ya u.kids.length cbp) ∧ Below w.heap.size w w')
    (first
      | exact ⟨X0.out.below (Below.refl _ _).drew, Y0.out.below (Below.refl _ _).drew, B0.out.drew⟩
      | (go_split_ands; exact ⟨Boxed.below (by assumption) hb1, Boxed.below (by assumption) hb1, Below.then (by assumption) hb1⟩))
    (first
      | (go_at_call 10; refine (awake_any _).mono ?_; rintro e w1 ⟨rfl, hb1⟩)
      | (go_at_call 12; go_split_ands; refine (S2.out _ (HL.out.keep (by assumption)) (HU.out.keep (by assumption))).mono ?_; rintro e w1 ⟨rfl, hb1⟩)
      | (go_at_call_of 11 u.kind; go_split_ands; refine (S1.out _ (HL.out.keep (by assumption)) (HU.out.keep (by assumption))).mono ?_; rintro e w1 ⟨rfl, hb1⟩)
      | (go_at_call 11; go_split_ands; refine (S3.out _ (HL.out.keep (by assumption)) (HL.out.keep (by assumption))).mono ?_; rintro e w1 ⟨rfl, hb1⟩))
  all_goals
    go_wp2_with fail
    go_ret
    go_split_ands
    exact ⟨rfl, by assumption⟩
end Go.Proofs.YtjdpbfjfcbjlfaaDoor
