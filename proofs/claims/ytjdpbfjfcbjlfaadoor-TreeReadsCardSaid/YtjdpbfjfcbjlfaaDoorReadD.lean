/- DERIVED. What node reads; trees in memory of the call's own. -/
import Derived.Test.YtjdpbfjfcbjlfaaDoorReadC
import Derived.Test.YtjdpbfjfcbjlfaaDoorTree
import Derived.Laws.ResultCell
set_option linter.unusedSimpArgs false
set_option linter.unusedVariables false
namespace Go.Proofs.YtjdpbfjfcbjlfaaDoor
open Go.RowKit

/-- Kids: each behind a blank. -/
def kidsGo (f : List UInt8 → Except Int (Tr × List UInt8)) : Nat → List UInt8 → Except Int (List Tr × List UInt8)
  | 0, l => .ok ([], l)
  | n + 1, l =>
    if l[0]? = some 32 then
      match f (l.drop 1) with
      | .error e => .error e
      | .ok (t, r) =>
        match kidsGo f n r with
        | .error e => .error e
        | .ok (ts, q) => .ok (t :: ts, q)
    else .ok ([], l)
/-- The tree that begins a text, within so many levels; or why there is none. -/
def nodeGo : Nat → List UInt8 → Except Int (Tr × List UInt8)
  | 0, _ => .error 2
  | d + 1, l =>
    if l[0]? = some 40 then
      if numOk (l.drop 1) 54 = false ∨ (numGo 3 (l.drop 1) 0).1 ≤ 1 then .error 100
      else
        let l1 := (l.drop 1).drop (numGo 3 (l.drop 1) 0).2
        let fm : Int := if l1[0]? = some 33 then 1 else 0
        let l2 := if l1[0]? = some 33 then l1.drop 1 else l1
        match kidsGo (nodeGo d) l2.length l2 with
        | .error e => .error e
        | .ok (ts, q) => if q[0]? = some 41 then .ok (.mk (numGo 3 (l.drop 1) 0).1 fm ⟨#[]⟩ 0 0 ts, q.drop 1) else .error 100
    else
      if numOk l 22 = false then .error 100
      else match textL (l.drop (numGo 3 l 0).2) with
        | none => .error 100
        | some (t, n) => .ok (.mk 1 (numGo 3 l 0).1 ⟨t.toArray⟩ 0 0 [], (l.drop (numGo 3 l 0).2).drop n)

/-- The slice kv holds a tree's kids, in blocks of a kind. -/
inductive LiesP (P : Nat → Prop) (w : World) : Tr → Value → Prop
  | mk (kd fm : Int) (tx : ByteArray) (ln cl : Int) (ks : List Tr) (xa : Option Addr) (cap b o : Nat) (K : Nat → Value)
    (hlen : ks.length ≤ 9223372036854775807)
    (hxa : 0 < ks.length → xa = some ⟨b, o, none⟩ ∧ P b)
    (hc : ∀ i (h : i < ks.length), Cells6 w b (o + i * 6) ks[i] (K i))
    (hk : ∀ i (h : i < ks.length), LiesP P w ks[i] (K i)) :
    LiesP P w (.mk kd fm tx ln cl ks) (.slice xa ks.length cap)
theorem LiesP.lies {P : Nat → Prop} {w : World} {t : Tr} {kv : Value} (h : LiesP P w t kv) : Lies w t kv := by
  induction h with
  | mk kd fm tx ln cl ks xa cap b o K hlen hxa hc hk ih => exact .mk kd fm tx ln cl ks xa cap b o K hlen (fun h => (hxa h).1) hc ih
theorem LiesP.mono {P Q : Nat → Prop} {w : World} {t : Tr} {kv : Value} (h : LiesP P w t kv) (hq : ∀ k, k < w.heap.size → P k → Q k) : LiesP Q w t kv := by
  induction h with
  | mk kd fm tx ln cl ks xa cap b o K hlen hxa hc hk ih => exact .mk kd fm tx ln cl ks xa cap b o K hlen (fun h => ⟨(hxa h).1, hq _ (lt_of_cell (hc 0 h).c0) (hxa h).2⟩) hc ih
theorem Cells6.same {w w' : World} {b o : Nat} {t : Tr} {kv : Value} (h : Cells6 w b o t kv) (hb : w'.heap[b]? = w.heap[b]?) : Cells6 w' b o t kv :=
  ⟨(World.cell?_of_block (w := w) hb).trans h.c0, (World.cell?_of_block (w := w) hb).trans h.c1, (World.cell?_of_block (w := w) hb).trans h.c2, (World.cell?_of_block (w := w) hb).trans h.c3, (World.cell?_of_block (w := w) hb).trans h.c4, (World.cell?_of_block (w := w) hb).trans h.c5⟩
theorem LiesP.keep {P : Nat → Prop} {w w' : World} {t : Tr} {kv : Value} (h : LiesP P w t kv) (hw : ∀ k, k < w.heap.size → P k → w'.heap[k]? = w.heap[k]?) : LiesP P w' t kv := by
  induction h with
  | mk kd fm tx ln cl ks xa cap b o K hlen hxa hc hk ih =>
    exact .mk kd fm tx ln cl ks xa cap b o K hlen hxa (fun i h => (hc i h).same (hw b (lt_of_cell (hc i h).c0) (hxa (by omega)).2)) ih
theorem LiesP.shape {P : Nat → Prop} {w : World} {t : Tr} {kv : Value} (h : LiesP P w t kv) : ∃ xa cap, kv = .slice xa t.kids.length cap := h.lies.shape
theorem LiesP.leaf {P : Nat → Prop} {w : World} (kd fm : Int) (tx : ByteArray) (ln cl : Int) : LiesP P w (.mk kd fm tx ln cl []) (.slice none 0 0) :=
  .mk kd fm tx ln cl [] none 0 0 0 (fun _ => .nilIface) (by simp) (fun h => by simp at h) (fun i h => by simp at h) (fun i h => by simp at h)

/-- The cells of a row of nodes. -/
def nodeCells (x : Tr × Value) : List Value := [.int .i64 x.1.kind, .int .i64 x.1.form, .string x.1.text, .int .i64 x.1.line, .int .i64 x.1.col, x.2]
/-- A row of nodes that the call has made, and what they hold. -/
structure OwnsN (w : World) (B b : Nat) (v : Value) (ts : List (Tr × Value)) : Prop where
  row : w.ownsRow b 24 6 v ts.length (ts.flatMap nodeCells)
  lies : ∀ x ∈ ts, LiesP (fun k => B ≤ k ∧ some k ≠ v.ownBlock) w x.1 x.2
theorem nodes_len (l : List (Tr × Value)) : (l.flatMap nodeCells).length = l.length * 6 := by
  induction l with
  | nil => rfl
  | cons x r ih => rw [List.flatMap_cons, List.length_append, ih]; simp [nodeCells]; omega
theorem nodes_at (l : List (Tr × Value)) : ∀ (i : Nat) (hi : i < l.length) (j : Nat), j < 6 → (l.flatMap nodeCells)[i * 6 + j]? = (nodeCells l[i])[j]? := by
  induction l with
  | nil => intro i hi; simp at hi
  | cons x r ih =>
    intro i hi j hj
    rw [List.flatMap_cons]
    cases i with
    | zero => rw [List.getElem?_append_left (by simp [nodeCells]; omega)]; simp
    | succ i =>
      rw [List.getElem?_append_right (by simp [nodeCells]; omega)]
      have := ih i (by simpa using hi) j hj
      rw [show (i + 1) * 6 + j - (nodeCells x).length = i * 6 + j from by simp [nodeCells]; omega, this]
      simp
/-- The row, as a tree's kids. -/
theorem OwnsN.tree {w : World} {B b : Nat} {v : Value} {ts : List (Tr × Value)} (h : OwnsN w B b v ts) (hB : B ≤ b) (kd fm : Int) (tx : ByteArray) (ln cl : Int) :
    LiesP (B ≤ ·) w (.mk kd fm tx ln cl (ts.map (·.1))) v := by
  rcases h.row.2 with ⟨rfl, h0⟩ | ⟨g, cap, cur, rfl, hg, hgg, hnc, hcm, _⟩
  · have : ts = [] := List.eq_nil_of_length_eq_zero h0
    subst this
    exact LiesP.leaf ..
  · have hc : ∀ i (hi : i < ts.length) (j : Nat), j < 6 → w.cell? ⟨g, i * 6 + j, none⟩ = (nodeCells ts[i])[j]? := fun i hi j hj => by
      rw [World.ownsRow.cellAt h.row (i * 6 + j) (by omega), nodes_at ts i hi j hj]
    have e : (ts.map (·.1)).length = ts.length := List.length_map _
    rw [← e]
    refine LiesP.mk (P := fun k => B ≤ k) kd fm tx ln cl (ts.map (·.1)) (some ⟨g, 0, none⟩) cap g 0 (fun i => ((ts[i]?).map (·.2)).getD .nilIface) (by rw [e]; unfold maxLen at hcm; omega) (fun _ => ⟨rfl, Nat.le_trans hB hg⟩) (fun i hi => ?_) (fun i hi => ?_)
    · rw [e] at hi
      have h0 := hc i hi 0 (by omega); have h1 := hc i hi 1 (by omega); have h2 := hc i hi 2 (by omega); have h3 := hc i hi 3 (by omega); have h4 := hc i hi 4 (by omega); have h5 := hc i hi 5 (by omega)
      simp only [nodeCells, List.getElem?_cons_zero, List.getElem?_cons_succ] at h0 h1 h2 h3 h4 h5
      rw [List.getElem_map, List.getElem?_eq_getElem hi]
      simp only [Nat.zero_add]
      exact ⟨h0, h1, h2, h3, h4, h5⟩
    · rw [e] at hi
      rw [List.getElem_map, List.getElem?_eq_getElem hi]
      exact (h.lies ts[i] (List.getElem_mem hi)).mono (fun k _ hk => hk.1)
/-- The row in a later world. -/
theorem OwnsN.keep {w w' : World} {B b : Nat} {v : Value} {ts : List (Tr × Value)} (h : OwnsN w B b v ts) (hB : B ≤ b) (hw : ∀ k, k < w.heap.size → B ≤ k → w'.heap[k]? = w.heap[k]?) : OwnsN w' B b v ts := by
  refine ⟨?_, fun x hx => (h.lies x hx).keep (fun k hk hp => hw k hk hp.1)⟩
  obtain ⟨e, ⟨a, c⟩ | ⟨g, cap, cur, a, hg, hgg, d⟩⟩ := h.row
  · exact ⟨e, .inl ⟨a, c⟩⟩
  · exact ⟨e, .inr ⟨g, cap, cur, a, hg, (hw g (Array.getElem?_eq_some_iff.1 hgg).1 (by omega)).trans hgg, d⟩⟩
/-- The row behind an append. -/
theorem OwnsN.more {w w' : World} {B b g cap H n : Nat} {v : Value} {ts : List (Tr × Value)} {x : Tr × Value} (h : OwnsN w B b v ts)
    (hr : w'.ownsRow b 24 6 (.slice (some ⟨g, 0, none⟩) n cap) n (ts.flatMap nodeCells ++ [x].flatMap nodeCells)) (hn : n = ts.length + 1)
    (hg : w.grownBy w' v.ownBlock) (hat : v.ownBlock = some g ∨ g = H) (hH : w.heap.size = H)
    (hx : LiesP (fun k => B ≤ k ∧ some k ≠ v.ownBlock) w x.1 x.2) : OwnsN w' B b (.slice (some ⟨g, 0, none⟩) n cap) (ts ++ [x]) := by
  have key : ∀ y : Tr × Value, LiesP (fun k => B ≤ k ∧ some k ≠ v.ownBlock) w y.1 y.2 → LiesP (fun k => B ≤ k ∧ some k ≠ (Value.slice (some ⟨g, 0, none⟩) n cap).ownBlock) w' y.1 y.2 := fun y hy => by
    have h1 : LiesP (fun k => (B ≤ k ∧ some k ≠ v.ownBlock) ∧ k < w.heap.size) w y.1 y.2 := hy.mono (fun k hk hp => ⟨hp, hk⟩)
    have h2 := h1.keep (w' := w') (fun k hk hp => hg.block k hk hp.1.2)
    refine h2.mono (fun k _ hp => ⟨hp.1.1, fun e => ?_⟩)
    simp only [Value.ownBlock, Option.some.injEq] at e
    subst e
    rcases hat with hat | hat
    · exact hp.1.2 hat.symm
    · omega
  subst hn
  refine ⟨by rw [List.length_append, List.flatMap_append]; exact hr, fun y hy => ?_⟩
  rw [List.mem_append] at hy
  rcases hy with hy | hy
  · exact key y (h.lies y hy)
  · have : y = x := by simpa using hy
    subst this; exact key y hx
end Go.Proofs.YtjdpbfjfcbjlfaaDoor
