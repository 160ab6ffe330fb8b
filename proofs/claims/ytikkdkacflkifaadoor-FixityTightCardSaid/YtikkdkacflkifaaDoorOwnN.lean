/- DERIVED. Rows of nodes that the call has made. -/
import Derived.Test.YtikkdkacflkifaaDoorTree
import Derived.Deep.AppendLies
set_option linter.unusedSimpArgs false
set_option linter.unusedVariables false
namespace Go.Proofs.YtikkdkacflkifaaDoor
open Go.RowKit

/-- The cells of a row of nodes. -/
def nodeCells (x : Tr × Value) : List Value := [.int .i64 x.1.kind, .int .i64 x.1.form, .string x.1.text, .int .i64 x.1.line, .int .i64 x.1.col, x.2]
/-- A row of nodes that the call has made, and what they hold. -/
structure OwnsN (w : World) (B b : Nat) (v : Value) (ts : List (Tr × Value)) : Prop where
  row : w.ownsRow b 32 6 v ts.length (ts.flatMap nodeCells)
  lies : ∀ x ∈ ts, LiesP (fun k => B ≤ k ∧ some k ≠ v.ownBlock) w x.1 x.2
theorem nodes_len (l : List (Tr × Value)) : (l.flatMap nodeCells).length = l.length * 6 := by
  induction l with
  | nil => rfl
  | cons x r ih => rw [List.flatMap_cons, List.length_append, ih]; simp [nodeCells]; omega
theorem nodes_at (l : List (Tr × Value)) : ∀ (i : Nat) (hi : i < l.length) (j : Nat), j < 6 → (l.flatMap nodeCells)[i * 6 + j]? = (nodeCells l[i])[j]? := by
  induction l with
  | nil => intro i hi; simp at hi
  | cons x r ih =>
    intro i hi j hj
    rw [List.flatMap_cons]
    cases i with
    | zero => rw [List.getElem?_append_left (by simp [nodeCells]; omega)]; simp
    | succ i =>
      rw [List.getElem?_append_right (by simp [nodeCells]; omega)]
      have := ih i (by simpa using hi) j hj
      rw [show (i + 1) * 6 + j - (nodeCells x).length = i * 6 + j from by simp [nodeCells]; omega, this]
      simp
/-- The row, as a tree's kids. -/
theorem OwnsN.tree {w : World} {B b : Nat} {v : Value} {ts : List (Tr × Value)} (h : OwnsN w B b v ts) (hB : B ≤ b) (kd fm : Int) (tx : ByteArray) (ln cl : Int) :
    LiesP (B ≤ ·) w (.mk kd fm tx ln cl (ts.map (·.1))) v := by
  rcases h.row.2 with ⟨rfl, h0⟩ | ⟨g, cap, cur, rfl, hg, hgg, hnc, hcm, _⟩
  · have : ts = [] := List.eq_nil_of_length_eq_zero h0
    subst this
    exact LiesP.leaf ..
  · have hc : ∀ i (hi : i < ts.length) (j : Nat), j < 6 → w.cell? ⟨g, i * 6 + j, none⟩ = (nodeCells ts[i])[j]? := fun i hi j hj => by
      rw [World.ownsRow.cellAt h.row (i * 6 + j) (by omega), nodes_at ts i hi j hj]
    have e : (ts.map (·.1)).length = ts.length := List.length_map _
    rw [← e]
    refine LiesP.mk (P := fun k => B ≤ k) kd fm tx ln cl (ts.map (·.1)) (some ⟨g, 0, none⟩) cap g 0 (fun i => ((ts[i]?).map (·.2)).getD .nilIface) ⟨by rw [e]; exact hnc, hcm⟩ (fun _ => ⟨rfl, Nat.le_trans hB hg⟩) (fun i hi => ?_) (fun i hi => ?_)
    · rw [e] at hi
      have h0 := hc i hi 0 (by omega); have h1 := hc i hi 1 (by omega); have h2 := hc i hi 2 (by omega); have h3 := hc i hi 3 (by omega); have h4 := hc i hi 4 (by omega); have h5 := hc i hi 5 (by omega)
      simp only [nodeCells, List.getElem?_cons_zero, List.getElem?_cons_succ] at h0 h1 h2 h3 h4 h5
      rw [List.getElem_map, List.getElem?_eq_getElem hi]
      simp only [Nat.zero_add]
      exact ⟨h0, h1, h2, h3, h4, h5⟩
    · rw [e] at hi
      rw [List.getElem_map, List.getElem?_eq_getElem hi]
      exact (h.lies ts[i] (List.getElem_mem hi)).mono (fun k _ hk => hk.1)
/-- The row in a later world. -/
theorem OwnsN.keep {w w' : World} {B b : Nat} {v : Value} {ts : List (Tr × Value)} (h : OwnsN w B b v ts) (hB : B ≤ b) (hw : ∀ k, k < w.heap.size → B ≤ k → w'.heap[k]? = w.heap[k]?) : OwnsN w' B b v ts := by
  refine ⟨?_, fun x hx => (h.lies x hx).keep (fun k hk hp => hw k hk hp.1)⟩
  obtain ⟨e, ⟨a, c⟩ | ⟨g, cap, cur, a, hg, hgg, d⟩⟩ := h.row
  · exact ⟨e, .inl ⟨a, c⟩⟩
  · exact ⟨e, .inr ⟨g, cap, cur, a, hg, (hw g (Array.getElem?_eq_some_iff.1 hgg).1 (by omega)).trans hgg, d⟩⟩
/-- The row behind an append. -/
theorem OwnsN.more {w w' : World} {B b g cap H n : Nat} {v : Value} {ts : List (Tr × Value)} {x : Tr × Value} (h : OwnsN w B b v ts)
    (hr : w'.ownsRow b 32 6 (.slice (some ⟨g, 0, none⟩) n cap) n (ts.flatMap nodeCells ++ [x].flatMap nodeCells)) (hn : n = ts.length + 1)
    (hg : w.grownBy w' v.ownBlock) (hat : v.ownBlock = some g ∨ g = H) (hH : w.heap.size = H)
    (hx : LiesP (fun k => B ≤ k ∧ some k ≠ v.ownBlock) w x.1 x.2) : OwnsN w' B b (.slice (some ⟨g, 0, none⟩) n cap) (ts ++ [x]) := by
  have key : ∀ y : Tr × Value, LiesP (fun k => B ≤ k ∧ some k ≠ v.ownBlock) w y.1 y.2 → LiesP (fun k => B ≤ k ∧ some k ≠ (Value.slice (some ⟨g, 0, none⟩) n cap).ownBlock) w' y.1 y.2 := fun y hy => by
    have h1 : LiesP (fun k => (B ≤ k ∧ some k ≠ v.ownBlock) ∧ k < w.heap.size) w y.1 y.2 := hy.mono (fun k hk hp => ⟨hp, hk⟩)
    have h2 := h1.keep (w' := w') (fun k hk hp => hg.block k hk hp.1.2)
    refine h2.mono (fun k _ hp => ⟨hp.1.1, fun e => ?_⟩)
    simp only [Value.ownBlock, Option.some.injEq] at e
    subst e
    rcases hat with hat | hat
    · exact hp.1.2 hat.symm
    · omega
  subst hn
  refine ⟨by rw [List.length_append, List.flatMap_append]; exact hr, fun y hy => ?_⟩
  rw [List.mem_append] at hy
  rcases hy with hy | hy
  · exact key y (h.lies y hy)
  · have : y = x := by simpa using hy
    subst this; exact key y hx
theorem node_info : ∃ i z, Tryd.prog.info? 32 = some i ∧ i.zero = some z ∧ i.size = 6 ∧ i.bytes = 72 ∧ z.cells.size = 6 := by
  have h : (Tryd.prog.info? 32).map (fun i => (i.zero.map (·.cells.size), i.size, i.bytes)) = some (some 6, 6, 72) := by kernel_rfl
  cases e : Tryd.prog.info? 32 with
  | none => rw [e] at h; cases h
  | some i =>
    rw [e] at h
    simp only [Option.map_some, Option.some.injEq, Prod.mk.injEq] at h
    cases hz : i.zero with
    | none => rw [hz] at h; simp at h
    | some z =>
      rw [hz] at h
      exact ⟨i, z, rfl, hz, h.2.1, h.2.2, by simpa using h.1⟩
theorem new_node (w : World) (t : Tr) (kv : Value) (n : Nat) (hn : n = w.heap.size) : ∀ j u, ([(t, kv)].flatMap nodeCells)[j]? = some u → (w.alloc (.cells #[.int .i64 t.kind, .int .i64 t.form, .string t.text, .int .i64 t.line, .int .i64 t.col, kv] 32)).cell? ((⟨n, 0, none⟩ : Addr).add j) = some u := by
  subst hn
  intro j u hj
  exact World.news_of_block (heap_alloc_new w (.cells #[.int .i64 t.kind, .int .i64 t.form, .string t.text, .int .i64 t.line, .int .i64 t.col, kv] 32 (0, 0))) j u (by simpa [nodeCells] using hj)
theorem node_one (t : Tr) (x : Option Addr) (n c : Nat) : ∀ u ∈ [(t, Value.slice x n c)].flatMap nodeCells, u.oneCell' = true := by
  intro u hu
  simp [nodeCells] at hu
  rcases hu with rfl | rfl | rfl | rfl | rfl | rfl <;> rfl

/-- A tree that lies beside the row, behind an append to it. -/
theorem lies_grown {w w' : World} {B g cap H n : Nat} {v : Value} {t : Tr} {tv : Value} (hy : LiesP (fun k => B ≤ k ∧ some k ≠ v.ownBlock) w t tv)
    (hg : w.grownBy w' v.ownBlock) (hat : v.ownBlock = some g ∨ g = H) (hH : w.heap.size = H) : LiesP (fun k => B ≤ k ∧ some k ≠ (Value.slice (some ⟨g, 0, none⟩) n cap).ownBlock) w' t tv := by
  have h1 : LiesP (fun k => (B ≤ k ∧ some k ≠ v.ownBlock) ∧ k < w.heap.size) w t tv := hy.mono (fun k hk hp => ⟨hp, hk⟩)
  have h2 := h1.keep (w' := w') (fun k hk hp => hg.block k hk hp.1.2)
  refine h2.mono (fun k _ hp => ⟨hp.1.1, fun e => ?_⟩)
  simp only [Value.ownBlock, Option.some.injEq] at e
  subst e
  rcases hat with hat | hat
  · exact hp.1.2 hat.symm
  · omega
/-- The row in a later world, what else there is below B changed or not. -/
theorem OwnsN.keepAt {w w' : World} {B b : Nat} {v : Value} {ts : List (Tr × Value)} (h : OwnsN w B b v ts) (hr : ∀ k, k < w.heap.size → v.ownBlock = some k → w'.heap[k]? = w.heap[k]?) (hw : ∀ k, k < w.heap.size → B ≤ k → w'.heap[k]? = w.heap[k]?) : OwnsN w' B b v ts := by
  refine ⟨?_, fun x hx => (h.lies x hx).keep (fun k hk hp => hw k hk hp.1)⟩
  obtain ⟨e, ⟨a, c⟩ | ⟨g, cap, cur, a, hg, hgg, d⟩⟩ := h.row
  · exact ⟨e, .inl ⟨a, c⟩⟩
  · exact ⟨e, .inr ⟨g, cap, cur, a, hg, (hr g (Array.getElem?_eq_some_iff.1 hgg).1 (by rw [a]; rfl)).trans hgg, d⟩⟩
theorem OwnsN.below {w w' : World} {B b : Nat} {v : Value} {ts : List (Tr × Value)} (h : OwnsN w B b v ts) (hb : Below w.heap.size w w') : OwnsN w' B b v ts := h.keepAt (fun k hk _ => hb.block k hk) (fun k hk _ => hb.block k hk)
/-- The row as a tree's kids, wherever it lies. -/
theorem OwnsN.kids {w : World} {B b : Nat} {v : Value} {ts : List (Tr × Value)} (h : OwnsN w B b v ts) (kd fm : Int) (tx : ByteArray) (ln cl : Int) :
    Lies w (.mk kd fm tx ln cl (ts.map (·.1))) v :=
  (OwnsN.tree (B := 0) (b := b) ⟨h.row, fun x hx => (h.lies x hx).mono (fun _ _ hk => ⟨Nat.zero_le _, hk.2⟩)⟩ (Nat.zero_le _) kd fm tx ln cl).lies
theorem OwnsN.shape {w : World} {B b : Nat} {v : Value} {ts : List (Tr × Value)} (h : OwnsN w B b v ts) : ∃ a c, v = .slice a ts.length c := by
  rcases h.row.2 with ⟨rfl, h0⟩ | ⟨g, cap, cur, rfl, _⟩
  · exact ⟨none, 0, by rw [h0]⟩
  · exact ⟨_, _, rfl⟩
theorem OwnsN.lt {w : World} {B b : Nat} {v : Value} {ts : List (Tr × Value)} (h : OwnsN w B b v ts) : ∀ k, v.ownBlock = some k → b ≤ k ∧ k < w.heap.size := fun k hk => h.row.lt k hk
end Go.Proofs.YtikkdkacflkifaaDoor
