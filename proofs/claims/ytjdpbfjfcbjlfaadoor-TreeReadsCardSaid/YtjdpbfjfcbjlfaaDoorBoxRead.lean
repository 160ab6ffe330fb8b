/- DERIVED. A boxed tree, read in whatever world. -/
import Derived.Test.YtjdpbfjfcbjlfaaDoorTreeB
import Derived.Deep.RegionHeld3
set_option linter.unusedSimpArgs false
set_option linter.unusedVariables false
namespace Go.Proofs.YtjdpbfjfcbjlfaaDoor
open Go.RowKit

theorem Boxed.read (t : Tr) (kv : Value) (b : Nat) : ∀ w, Boxed w b t kv → w.cell? ⟨b, 0, none⟩ = some (.int .i64 t.kind) ∧ w.cell? ⟨b, 1, none⟩ = some (.int .i64 t.form) ∧ w.cell? ⟨b, 2, none⟩ = some (.string t.text) ∧ w.cell? ⟨b, 3, none⟩ = some (.int .i64 t.line) ∧ w.cell? ⟨b, 4, none⟩ = some (.int .i64 t.col) ∧ w.cell? ⟨b, 5, none⟩ = some kv :=
  fun _ h => ⟨h.c0, h.c1, h.c2, h.c3, h.c4, h.c5⟩
theorem Boxed.read0 (t : Tr) (kv : Value) (b : Nat) : ∀ w, Boxed w b t kv → w.cell? ⟨b, 0, none⟩ = some (.int .i64 t.kind) := fun _ h => h.c0
theorem Boxed.read1 (t : Tr) (kv : Value) (b : Nat) : ∀ w, Boxed w b t kv → w.cell? ⟨b, 1, none⟩ = some (.int .i64 t.form) := fun _ h => h.c1
theorem Boxed.read2 (t : Tr) (kv : Value) (b : Nat) : ∀ w, Boxed w b t kv → w.cell? ⟨b, 2, none⟩ = some (.string t.text) := fun _ h => h.c2
theorem Boxed.read3 (t : Tr) (kv : Value) (b : Nat) : ∀ w, Boxed w b t kv → w.cell? ⟨b, 3, none⟩ = some (.int .i64 t.line) := fun _ h => h.c3
theorem Boxed.read4 (t : Tr) (kv : Value) (b : Nat) : ∀ w, Boxed w b t kv → w.cell? ⟨b, 4, none⟩ = some (.int .i64 t.col) := fun _ h => h.c4
theorem Boxed.read5 (t : Tr) (kv : Value) (b : Nat) : ∀ w, Boxed w b t kv → w.cell? ⟨b, 5, none⟩ = some kv := fun _ h => h.c5
end Go.Proofs.YtjdpbfjfcbjlfaaDoor
