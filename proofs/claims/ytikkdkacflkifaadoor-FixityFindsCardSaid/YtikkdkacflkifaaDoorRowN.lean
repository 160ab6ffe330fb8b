/- DERIVED. A block that holds one node. -/
import Derived.Test.YtikkdkacflkifaaDoorLiesP
import Derived.Test.YtikkdkacflkifaaDoorBut
import Derived.Laws.ResultCell
set_option linter.unusedSimpArgs false
set_option linter.unusedVariables false
namespace Go.Proofs.YtikkdkacflkifaaDoor
open Go.RowKit

theorem results_ct_row {P : Program} {fn : Func} {p u : Tmp} {ty : TypeId} (h : fn.results = #[.cell p ty, .tmp u]) (tmps : Array Value) (w : World) (g : Nat) (t : TypeId) (cs : Array Value) (fr : Nat × Nat) (d : TypeDesc)
    (hp : tmps.getD p undef = .pointer (some ⟨g, 0, none⟩)) (hg : w.heap[g]? = some (.cells cs t fr))
    (hu : P.underlying ty = some d) (hd : (match d with | .struct _ | .array _ _ => true | _ => false) = true) (hi : (P.info? ty).map (·.size) = some cs.size) :
    (results fn tmps).run P w = .ok (.tuple #[.agg cs, tmps.getD u undef]) w := by
  rw [results_cell_tmp h]
  have hp' : tmps[p]?.getD undef = .pointer (some ⟨g, 0, none⟩) := by simpa using hp
  simp [hp', asAddr, run_loadVar_row w g t ty cs fr d hg hu hd hi, Result.andThen]

/-- A block that holds one node. -/
def RowN (w : World) (g : Nat) (t : Tr) (kv : Value) : Prop := w.heap[g]? = some (.cells #[.int .i64 t.kind, .int .i64 t.form, .string t.text, .int .i64 t.line, .int .i64 t.col, kv] 32 (0, 0))
def zeroT : Tr := .mk 0 0 ⟨#[]⟩ 0 0 []
theorem RowN.lt {w : World} {g : Nat} {t : Tr} {kv : Value} (h : RowN w g t kv) : g < w.heap.size := (Array.getElem?_eq_some_iff.1 h).1
theorem RowN.cells {w : World} {g : Nat} {t : Tr} {kv : Value} (h : RowN w g t kv) :
    w.cell? ⟨g, 0, none⟩ = some (.int .i64 t.kind) ∧ w.cell? ⟨g, 1, none⟩ = some (.int .i64 t.form) ∧ w.cell? ⟨g, 2, none⟩ = some (.string t.text) ∧ w.cell? ⟨g, 3, none⟩ = some (.int .i64 t.line) ∧ w.cell? ⟨g, 4, none⟩ = some (.int .i64 t.col) ∧ w.cell? ⟨g, 5, none⟩ = some kv :=
  ⟨cell_of_row _ _ _ _ _ _ h, cell_of_row _ _ _ _ _ _ h, cell_of_row _ _ _ _ _ _ h, cell_of_row _ _ _ _ _ _ h, cell_of_row _ _ _ _ _ _ h, cell_of_row _ _ _ _ _ _ h⟩
theorem RowN.frozen {w : World} {g : Nat} {t : Tr} {kv : Value} (h : RowN w g t kv) (j : Nat) : w.frozen? ⟨g, j, none⟩ = false := frozen_of_row _ _ _ _ _ h
theorem RowN.keep {w w' : World} {g : Nat} {t : Tr} {kv : Value} (h : RowN w g t kv) (hb : w'.heap[g]? = w.heap[g]?) : RowN w' g t kv := hb.trans h
theorem RowN.but {w w' : World} {b g : Nat} {t : Tr} {kv : Value} (h : RowN w g t kv) (hb : But b w w') (hg : g ≠ b) : RowN w' g t kv := (hb.block g h.lt hg).trans h
theorem RowN.alloc {w : World} {g : Nat} {t : Tr} {kv : Value} (h : RowN w g t kv) (o : Obj) : RowN (w.alloc o) g t kv := (Below.heap_alloc w o g h.lt).trans h
theorem rowN_new (w : World) (t : Tr) (kv : Value) : RowN (w.alloc (.cells #[.int .i64 t.kind, .int .i64 t.form, .string t.text, .int .i64 t.line, .int .i64 t.col, kv] 32)) w.heap.size t kv := heap_alloc_new _ _
/-- The world behind the store of a whole node. -/
def set6 (w : World) (g : Nat) (t : Tr) (kv : Value) : World :=
  (((((w.setCell ⟨g, 0, none⟩ (.int .i64 t.kind)).setCell ⟨g, 1, none⟩ (.int .i64 t.form)).setCell ⟨g, 2, none⟩ (.string t.text)).setCell ⟨g, 3, none⟩ (.int .i64 t.line)).setCell ⟨g, 4, none⟩ (.int .i64 t.col)).setCell ⟨g, 5, none⟩ kv
theorem RowN.set {w : World} {g : Nat} {t : Tr} {kv : Value} (h : RowN w g t kv) (u : Tr) (jv : Value) : RowN (set6 w g u jv) g u jv := by
  have h0 := heap_setCell_same _ _ 0 _ _ (.int .i64 u.kind) h
  have h1 := heap_setCell_same _ _ 1 _ _ (.int .i64 u.form) h0
  have h2 := heap_setCell_same _ _ 2 _ _ (.string u.text) h1
  have h3 := heap_setCell_same _ _ 3 _ _ (.int .i64 u.line) h2
  have h4 := heap_setCell_same _ _ 4 _ _ (.int .i64 u.col) h3
  exact heap_setCell_same _ _ 5 _ _ jv h4
theorem set6_other (w : World) (g : Nat) (t : Tr) (kv : Value) (k : Nat) (hk : k ≠ g) : (set6 w g t kv).heap[k]? = w.heap[k]? := by
  unfold set6
  rw [Below.heap_setCell _ _ _ _ hk, Below.heap_setCell _ _ _ _ hk, Below.heap_setCell _ _ _ _ hk, Below.heap_setCell _ _ _ _ hk, Below.heap_setCell _ _ _ _ hk, Below.heap_setCell _ _ _ _ hk]
theorem set6_below {B : Nat} {w w1 : World} (h : Below B w w1) (g : Nat) (hg : B ≤ g) (t : Tr) (kv : Value) : Below B w (set6 w1 g t kv) :=
  (((((h.setCell (p := ⟨g, 0, none⟩) hg _).setCell (p := ⟨g, 1, none⟩) hg _).setCell (p := ⟨g, 2, none⟩) hg _).setCell (p := ⟨g, 3, none⟩) hg _).setCell (p := ⟨g, 4, none⟩) hg _).setCell (p := ⟨g, 5, none⟩) hg _

end Go.Proofs.YtikkdkacflkifaaDoor
