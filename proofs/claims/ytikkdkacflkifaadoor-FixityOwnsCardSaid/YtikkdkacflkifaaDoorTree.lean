/- DERIVED. Trees, and what a value of the type Node is in memory. DERIVED. Trees in memory, in blocks of a kind. DERIVED. All blocks but one are as they were. DERIVED. A block that holds one node. DERIVED. How much a tree holds. -/
import Derived.Test.YtikkdkacflkifaaDoorBase
import Derived.Laws.ResultCell
set_option linter.unusedSimpArgs false
set_option linter.unusedVariables false
namespace Go.Proofs.YtikkdkacflkifaaDoor
open Go.RowKit

/-- A tree. -/
inductive Tr where
  | mk (kind form : Int) (text : ByteArray) (line col : Int) (kids : List Tr)
def Tr.kind : Tr → Int | .mk k _ _ _ _ _ => k
def Tr.form : Tr → Int | .mk _ f _ _ _ _ => f
def Tr.text : Tr → ByteArray | .mk _ _ t _ _ _ => t
def Tr.line : Tr → Int | .mk _ _ _ l _ _ => l
def Tr.col : Tr → Int | .mk _ _ _ _ c _ => c
def Tr.kids : Tr → List Tr | .mk _ _ _ _ _ k => k

mutual
/-- How many nodes. -/
def Tr.size : Tr → Nat
  | .mk _ _ _ _ _ ks => sizes ks + 1
def sizes : List Tr → Nat
  | [] => 0
  | k :: r => k.size + sizes r
end
theorem Tr.size_def (t : Tr) : t.size = sizes t.kids + 1 := by cases t; rw [Tr.size]; rfl
theorem sizes_get (ks : List Tr) : ∀ (i : Nat) (h : i < ks.length), (ks[i]).size ≤ sizes ks := by
  induction ks with
  | nil => intro i h; simp at h
  | cons k r ih =>
    intro i h
    rw [sizes]
    cases i with
    | zero => simp
    | succ i => have := ih i (by simpa using h); simp only [List.getElem_cons_succ]; omega
theorem Tr.size_kid (t : Tr) (i : Nat) (h : i < t.kids.length) : (t.kids[i]).size < t.size := by
  have := sizes_get t.kids i h
  rw [Tr.size_def t]; omega
theorem sizes_len (ks : List Tr) : ks.length ≤ sizes ks := by
  induction ks with
  | nil => simp
  | cons k r ih => rw [sizes, Tr.size_def]; simp only [List.length_cons]; omega

/-- The six cells of a node, from an address on. -/
structure Cells6 (w : World) (b o : Nat) (t : Tr) (kv : Value) : Prop where
  c0 : w.cell? ⟨b, o, none⟩ = some (.int .i64 t.kind)
  c1 : w.cell? ⟨b, o + 1, none⟩ = some (.int .i64 t.form)
  c2 : w.cell? ⟨b, o + 2, none⟩ = some (.string t.text)
  c3 : w.cell? ⟨b, o + 3, none⟩ = some (.int .i64 t.line)
  c4 : w.cell? ⟨b, o + 4, none⟩ = some (.int .i64 t.col)
  c5 : w.cell? ⟨b, o + 5, none⟩ = some kv
/-- The value of a node. -/
def nodeV (t : Tr) (kv : Value) : Value := .agg #[.int .i64 t.kind, .int .i64 t.form, .string t.text, .int .i64 t.line, .int .i64 t.col, kv]

/-- The slice kv holds a tree's kids. -/
inductive Lies (w : World) : Tr → Value → Prop
  | mk (kd fm : Int) (tx : ByteArray) (ln cl : Int) (ks : List Tr) (xa : Option Addr) (cap b o : Nat) (K : Nat → Value)
    (hlen : ks.length ≤ cap ∧ cap ≤ maxLen)
    (hxa : 0 < ks.length → xa = some ⟨b, o, none⟩)
    (hc : ∀ i (h : i < ks.length), Cells6 w b (o + i * 6) ks[i] (K i))
    (hk : ∀ i (h : i < ks.length), Lies w ks[i] (K i)) :
    Lies w (.mk kd fm tx ln cl ks) (.slice xa ks.length cap)

theorem Cells6.below {w w' : World} {b o : Nat} {t : Tr} {kv : Value} (h : Cells6 w b o t kv) (hb : Below w.heap.size w w') : Cells6 w' b o t kv := by
  have hl : b < w.heap.size := lt_of_cell h.c0
  exact ⟨(hb.cell (by exact hl)).trans h.c0, (hb.cell (by exact hl)).trans h.c1, (hb.cell (by exact hl)).trans h.c2, (hb.cell (by exact hl)).trans h.c3, (hb.cell (by exact hl)).trans h.c4, (hb.cell (by exact hl)).trans h.c5⟩
theorem Lies.keep {w w' : World} {t : Tr} {kv : Value} (h : Lies w t kv) (hb : Below w.heap.size w w') : Lies w' t kv := by
  induction h with
  | mk kd fm tx ln cl ks xa cap b o K hlen hxa hc hk ih => exact .mk kd fm tx ln cl ks xa cap b o K hlen hxa (fun i h => (hc i h).below hb) ih
/-- What lies behind the slice of a node's kids. -/
theorem Lies.kidsOf {w : World} {t : Tr} {kv : Value} (h : Lies w t kv) :
    ∃ (xa : Option Addr) (cap b o : Nat) (K : Nat → Value), kv = .slice xa t.kids.length cap ∧ (0 < t.kids.length → xa = some ⟨b, o, none⟩) ∧
      (∀ i (h : i < t.kids.length), Cells6 w b (o + i * 6) t.kids[i] (K i) ∧ Lies w t.kids[i] (K i)) := by
  cases h with
  | mk kd fm tx ln cl ks xa cap b o K hlen hxa hc hk => exact ⟨xa, cap, b, o, K, rfl, hxa, fun i h => ⟨hc i h, hk i h⟩⟩
theorem Lies.short {w : World} {t : Tr} {kv : Value} (h : Lies w t kv) : t.kids.length ≤ 9223372036854775807 := by
  cases h with
  | mk kd fm tx ln cl ks xa cap b o K hlen hxa hc hk => have h := Nat.le_trans hlen.1 hlen.2; unfold maxLen at h; exact h
theorem Lies.room {w : World} {t : Tr} {xa : Option Addr} {n cap : Nat} (h : Lies w t (.slice xa n cap)) : n ≤ cap ∧ cap ≤ maxLen := by
  cases h with
  | mk kd fm tx ln cl ks xa cap b o K hlen hxa hc hk => exact hlen
theorem Lies.shape {w : World} {t : Tr} {kv : Value} (h : Lies w t kv) : ∃ xa cap, kv = .slice xa t.kids.length cap := by
  cases h with
  | mk kd fm tx ln cl ks xa cap b o K hlen hxa hc hk => exact ⟨xa, cap, rfl⟩
/-- One kid, read in a later world. -/
theorem kid_at {w w' : World} {b o i : Nat} {t : Tr} {K : Nat → Value} (hk : ∀ i (h : i < t.kids.length), Cells6 w b (o + i * 6) t.kids[i] (K i) ∧ Lies w t.kids[i] (K i)) (hb : Below w.heap.size w w') (h : i < t.kids.length) :
    ∃ x c, Cells6 w' b (o + i * 6) t.kids[i] (.slice x t.kids[i].kids.length c) ∧ Lies w' t.kids[i] (.slice x t.kids[i].kids.length c) ∧ b < w.heap.size := by
  obtain ⟨h1, h2⟩ := hk i h
  obtain ⟨x, c, e⟩ := h2.shape
  rw [e] at h1 h2
  exact ⟨x, c, h1.below hb, h2.keep hb, lt_of_cell h1.c0⟩
theorem Lies.leaf {w : World} (kd fm : Int) (tx : ByteArray) (ln cl : Int) : Lies w (.mk kd fm tx ln cl []) (.slice none 0 0) :=
  .mk kd fm tx ln cl [] none 0 0 0 (fun _ => .nilIface) ⟨Nat.le_refl _, Nat.zero_le _⟩ (fun h => by simp at h) (fun i h => by simp at h) (fun i h => by simp at h)
end Go.Proofs.YtikkdkacflkifaaDoor

namespace Go.Proofs.YtikkdkacflkifaaDoor
open Go.RowKit

/-- The slice kv holds a tree's kids, in blocks of a kind. -/
inductive LiesP (P : Nat → Prop) (w : World) : Tr → Value → Prop
  | mk (kd fm : Int) (tx : ByteArray) (ln cl : Int) (ks : List Tr) (xa : Option Addr) (cap b o : Nat) (K : Nat → Value)
    (hlen : ks.length ≤ cap ∧ cap ≤ maxLen)
    (hxa : 0 < ks.length → xa = some ⟨b, o, none⟩ ∧ P b)
    (hc : ∀ i (h : i < ks.length), Cells6 w b (o + i * 6) ks[i] (K i))
    (hk : ∀ i (h : i < ks.length), LiesP P w ks[i] (K i)) :
    LiesP P w (.mk kd fm tx ln cl ks) (.slice xa ks.length cap)
theorem LiesP.lies {P : Nat → Prop} {w : World} {t : Tr} {kv : Value} (h : LiesP P w t kv) : Lies w t kv := by
  induction h with
  | mk kd fm tx ln cl ks xa cap b o K hlen hxa hc hk ih => exact .mk kd fm tx ln cl ks xa cap b o K hlen (fun h => (hxa h).1) hc ih
theorem LiesP.mono {P Q : Nat → Prop} {w : World} {t : Tr} {kv : Value} (h : LiesP P w t kv) (hq : ∀ k, k < w.heap.size → P k → Q k) : LiesP Q w t kv := by
  induction h with
  | mk kd fm tx ln cl ks xa cap b o K hlen hxa hc hk ih => exact .mk kd fm tx ln cl ks xa cap b o K hlen (fun h => ⟨(hxa h).1, hq _ (lt_of_cell (hc 0 h).c0) (hxa h).2⟩) hc ih
theorem Cells6.same {w w' : World} {b o : Nat} {t : Tr} {kv : Value} (h : Cells6 w b o t kv) (hb : w'.heap[b]? = w.heap[b]?) : Cells6 w' b o t kv :=
  ⟨(World.cell?_of_block (w := w) hb).trans h.c0, (World.cell?_of_block (w := w) hb).trans h.c1, (World.cell?_of_block (w := w) hb).trans h.c2, (World.cell?_of_block (w := w) hb).trans h.c3, (World.cell?_of_block (w := w) hb).trans h.c4, (World.cell?_of_block (w := w) hb).trans h.c5⟩
theorem LiesP.keep {P : Nat → Prop} {w w' : World} {t : Tr} {kv : Value} (h : LiesP P w t kv) (hw : ∀ k, k < w.heap.size → P k → w'.heap[k]? = w.heap[k]?) : LiesP P w' t kv := by
  induction h with
  | mk kd fm tx ln cl ks xa cap b o K hlen hxa hc hk ih =>
    exact .mk kd fm tx ln cl ks xa cap b o K hlen hxa (fun i h => (hc i h).same (hw b (lt_of_cell (hc i h).c0) (hxa (by omega)).2)) ih
theorem LiesP.shape {P : Nat → Prop} {w : World} {t : Tr} {kv : Value} (h : LiesP P w t kv) : ∃ xa cap, kv = .slice xa t.kids.length cap := h.lies.shape
theorem LiesP.leaf {P : Nat → Prop} {w : World} (kd fm : Int) (tx : ByteArray) (ln cl : Int) : LiesP P w (.mk kd fm tx ln cl []) (.slice none 0 0) :=
  .mk kd fm tx ln cl [] none 0 0 0 (fun _ => .nilIface) ⟨Nat.le_refl _, Nat.zero_le _⟩ (fun h => by simp at h) (fun i h => by simp at h) (fun i h => by simp at h)

end Go.Proofs.YtikkdkacflkifaaDoor

namespace Go.Proofs.YtikkdkacflkifaaDoor
open Go.RowKit

/-- All but one block is as it was. -/
structure But (b : Nat) (w w' : World) : Prop where
  os : w'.os = w.os
  tape : w'.tape = w.tape
  output : w'.output = w.output
  size : w.heap.size ≤ w'.heap.size
  block : ∀ k, k < w.heap.size → k ≠ b → w'.heap[k]? = w.heap[k]?
theorem But.refl (b : Nat) (w : World) : But b w w := ⟨rfl, rfl, rfl, Nat.le_refl _, fun _ _ _ => rfl⟩
theorem But.trans {b : Nat} {w1 w2 w3 : World} (h : But b w1 w2) (k : But b w2 w3) : But b w1 w3 :=
  ⟨k.os.trans h.os, k.tape.trans h.tape, k.output.trans h.output, Nat.le_trans h.size k.size, fun i hi hb => (k.block i (Nat.lt_of_lt_of_le hi h.size) hb).trans (h.block i hi hb)⟩
theorem But.of {b : Nat} {w w' : World} (h : Below w.heap.size w w') : But b w w' := ⟨h.os, h.tape, h.output, h.size, fun k hk _ => h.block k hk⟩
theorem But.alloc {b : Nat} {w w' : World} (h : But b w w') (o : Obj) : But b w (w'.alloc o) := h.trans (.of ((Below.refl _ _).alloc (Nat.le_refl _) _))
theorem But.set {b : Nat} {w w' : World} (h : But b w w') (j : Nat) (v : Value) : But b w (w'.setCell ⟨b, j, none⟩ v) :=
  h.trans ⟨rfl, rfl, rfl, by simp, fun k _ hk => Below.heap_setCell w' ⟨b, j, none⟩ v k hk⟩
theorem But.below {B b : Nat} {w w' : World} (h : But b w w') (hb : B ≤ b) (hB : B ≤ w.heap.size) : Below B w w' := ⟨h.os, h.tape, h.output, h.size, fun k hk => h.block k (by omega) (by omega)⟩
/-- A draw. -/
theorem But.drewN {b : Nat} {w w' : World} (h : But b w w') (n : Nat) : But b w (w'.drewN n) := ⟨h.os, h.tape, h.output, h.size, h.block⟩

end Go.Proofs.YtikkdkacflkifaaDoor

namespace Go.Proofs.YtikkdkacflkifaaDoor
open Go.RowKit

theorem results_ct_row {P : Program} {fn : Func} {p u : Tmp} {ty : TypeId} (h : fn.results = #[.cell p ty, .tmp u]) (tmps : Array Value) (w : World) (g : Nat) (t : TypeId) (cs : Array Value) (fr : Nat × Nat) (d : TypeDesc)
    (hp : tmps.getD p undef = .pointer (some ⟨g, 0, none⟩)) (hg : w.heap[g]? = some (.cells cs t fr))
    (hu : P.underlying ty = some d) (hd : (match d with | .struct _ | .array _ _ => true | _ => false) = true) (hi : (P.info? ty).map (·.size) = some cs.size) :
    (results fn tmps).run P w = .ok (.tuple #[.agg cs, tmps.getD u undef]) w := by
  rw [results_cell_tmp h]
  have hp' : tmps[p]?.getD undef = .pointer (some ⟨g, 0, none⟩) := by simpa using hp
  simp [hp', asAddr, run_loadVar_row w g t ty cs fr d hg hu hd hi, Result.andThen]

/-- A block that holds one node. -/
def RowN (w : World) (g : Nat) (t : Tr) (kv : Value) : Prop := w.heap[g]? = some (.cells #[.int .i64 t.kind, .int .i64 t.form, .string t.text, .int .i64 t.line, .int .i64 t.col, kv] 32 (0, 0))
def zeroT : Tr := .mk 0 0 ⟨#[]⟩ 0 0 []
theorem RowN.lt {w : World} {g : Nat} {t : Tr} {kv : Value} (h : RowN w g t kv) : g < w.heap.size := (Array.getElem?_eq_some_iff.1 h).1
theorem RowN.cells {w : World} {g : Nat} {t : Tr} {kv : Value} (h : RowN w g t kv) :
    w.cell? ⟨g, 0, none⟩ = some (.int .i64 t.kind) ∧ w.cell? ⟨g, 1, none⟩ = some (.int .i64 t.form) ∧ w.cell? ⟨g, 2, none⟩ = some (.string t.text) ∧ w.cell? ⟨g, 3, none⟩ = some (.int .i64 t.line) ∧ w.cell? ⟨g, 4, none⟩ = some (.int .i64 t.col) ∧ w.cell? ⟨g, 5, none⟩ = some kv :=
  ⟨cell_of_row _ _ _ _ _ _ h, cell_of_row _ _ _ _ _ _ h, cell_of_row _ _ _ _ _ _ h, cell_of_row _ _ _ _ _ _ h, cell_of_row _ _ _ _ _ _ h, cell_of_row _ _ _ _ _ _ h⟩
theorem RowN.frozen {w : World} {g : Nat} {t : Tr} {kv : Value} (h : RowN w g t kv) (j : Nat) : w.frozen? ⟨g, j, none⟩ = false := frozen_of_row _ _ _ _ _ h
theorem RowN.keep {w w' : World} {g : Nat} {t : Tr} {kv : Value} (h : RowN w g t kv) (hb : w'.heap[g]? = w.heap[g]?) : RowN w' g t kv := hb.trans h
theorem RowN.but {w w' : World} {b g : Nat} {t : Tr} {kv : Value} (h : RowN w g t kv) (hb : But b w w') (hg : g ≠ b) : RowN w' g t kv := (hb.block g h.lt hg).trans h
theorem RowN.alloc {w : World} {g : Nat} {t : Tr} {kv : Value} (h : RowN w g t kv) (o : Obj) : RowN (w.alloc o) g t kv := (Below.heap_alloc w o g h.lt).trans h
theorem rowN_new (w : World) (t : Tr) (kv : Value) : RowN (w.alloc (.cells #[.int .i64 t.kind, .int .i64 t.form, .string t.text, .int .i64 t.line, .int .i64 t.col, kv] 32)) w.heap.size t kv := heap_alloc_new _ _
/-- The world behind the store of a whole node. -/
def set6 (w : World) (g : Nat) (t : Tr) (kv : Value) : World :=
  (((((w.setCell ⟨g, 0, none⟩ (.int .i64 t.kind)).setCell ⟨g, 1, none⟩ (.int .i64 t.form)).setCell ⟨g, 2, none⟩ (.string t.text)).setCell ⟨g, 3, none⟩ (.int .i64 t.line)).setCell ⟨g, 4, none⟩ (.int .i64 t.col)).setCell ⟨g, 5, none⟩ kv
theorem RowN.set {w : World} {g : Nat} {t : Tr} {kv : Value} (h : RowN w g t kv) (u : Tr) (jv : Value) : RowN (set6 w g u jv) g u jv := by
  have h0 := heap_setCell_same _ _ 0 _ _ (.int .i64 u.kind) h
  have h1 := heap_setCell_same _ _ 1 _ _ (.int .i64 u.form) h0
  have h2 := heap_setCell_same _ _ 2 _ _ (.string u.text) h1
  have h3 := heap_setCell_same _ _ 3 _ _ (.int .i64 u.line) h2
  have h4 := heap_setCell_same _ _ 4 _ _ (.int .i64 u.col) h3
  exact heap_setCell_same _ _ 5 _ _ jv h4
theorem set6_other (w : World) (g : Nat) (t : Tr) (kv : Value) (k : Nat) (hk : k ≠ g) : (set6 w g t kv).heap[k]? = w.heap[k]? := by
  unfold set6
  rw [Below.heap_setCell _ _ _ _ hk, Below.heap_setCell _ _ _ _ hk, Below.heap_setCell _ _ _ _ hk, Below.heap_setCell _ _ _ _ hk, Below.heap_setCell _ _ _ _ hk, Below.heap_setCell _ _ _ _ hk]
theorem set6_below {B : Nat} {w w1 : World} (h : Below B w w1) (g : Nat) (hg : B ≤ g) (t : Tr) (kv : Value) : Below B w (set6 w1 g t kv) :=
  (((((h.setCell (p := ⟨g, 0, none⟩) hg _).setCell (p := ⟨g, 1, none⟩) hg _).setCell (p := ⟨g, 2, none⟩) hg _).setCell (p := ⟨g, 3, none⟩) hg _).setCell (p := ⟨g, 4, none⟩) hg _).setCell (p := ⟨g, 5, none⟩) hg _

end Go.Proofs.YtikkdkacflkifaaDoor

namespace Go.Proofs.YtikkdkacflkifaaDoor
open Go.RowKit

mutual
/-- How much a tree holds. -/
def Tr.blk : Tr → Nat
  | .mk _ _ t _ _ ks => t.size + 7 + blks ks
def blks : List Tr → Nat
  | [] => 0
  | k :: r => k.blk + blks r
end
theorem Tr.blk_def (t : Tr) : t.blk = t.text.size + 7 + blks t.kids := by cases t; rw [Tr.blk]; rfl
theorem blks_append (a b : List Tr) : blks (a ++ b) = blks a + blks b := by
  induction a with
  | nil => simp [blks]
  | cons k r ih => simp only [List.cons_append, blks, ih]; omega
theorem blks_take (ks : List Tr) (i : Nat) (h : i < ks.length) : blks (ks.take (i + 1)) = blks (ks.take i) + (ks[i]).blk := by
  rw [List.take_add_one, List.getElem?_eq_getElem h, Option.toList_some, blks_append]; simp [blks]
theorem blks_take_le (ks : List Tr) (i : Nat) : blks (ks.take i) ≤ blks ks := by
  have := blks_append (ks.take i) (ks.drop i)
  rw [List.take_append_drop] at this; omega
theorem size_le_blk (n : Nat) : ∀ t : Tr, t.size ≤ n → t.size ≤ t.blk := by
  induction n with
  | zero => intro t h; rw [Tr.size_def] at h; omega
  | succ n ih =>
    intro t h
    rw [Tr.size_def] at h ⊢
    rw [Tr.blk_def]
    have key : ∀ ks : List Tr, sizes ks ≤ n → sizes ks ≤ blks ks := by
      intro ks
      induction ks with
      | nil => intro _; simp [sizes]
      | cons k r ihr =>
        intro hs
        rw [sizes] at hs ⊢
        rw [blks]
        have := ih k (by omega)
        have := ihr (by omega)
        omega
    have := key t.kids (by omega)
    omega
end Go.Proofs.YtikkdkacflkifaaDoor

