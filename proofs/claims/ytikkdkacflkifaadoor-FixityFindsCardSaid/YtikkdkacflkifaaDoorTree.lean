/- DERIVED. Trees, and what a value of the type Node is in memory. -/
import Derived.Test.YtikkdkacflkifaaDoorBase
set_option linter.unusedSimpArgs false
set_option linter.unusedVariables false
namespace Go.Proofs.YtikkdkacflkifaaDoor
open Go.RowKit

/-- A tree. -/
inductive Tr where
  | mk (kind form : Int) (text : ByteArray) (line col : Int) (kids : List Tr)
def Tr.kind : Tr → Int | .mk k _ _ _ _ _ => k
def Tr.form : Tr → Int | .mk _ f _ _ _ _ => f
def Tr.text : Tr → ByteArray | .mk _ _ t _ _ _ => t
def Tr.line : Tr → Int | .mk _ _ _ l _ _ => l
def Tr.col : Tr → Int | .mk _ _ _ _ c _ => c
def Tr.kids : Tr → List Tr | .mk _ _ _ _ _ k => k

mutual
/-- How many nodes. -/
def Tr.size : Tr → Nat
  | .mk _ _ _ _ _ ks => sizes ks + 1
def sizes : List Tr → Nat
  | [] => 0
  | k :: r => k.size + sizes r
end
theorem Tr.size_def (t : Tr) : t.size = sizes t.kids + 1 := by cases t; rw [Tr.size]; rfl
theorem sizes_get (ks : List Tr) : ∀ (i : Nat) (h : i < ks.length), (ks[i]).size ≤ sizes ks := by
  induction ks with
  | nil => intro i h; simp at h
  | cons k r ih =>
    intro i h
    rw [sizes]
    cases i with
    | zero => simp
    | succ i => have := ih i (by simpa using h); simp only [List.getElem_cons_succ]; omega
theorem Tr.size_kid (t : Tr) (i : Nat) (h : i < t.kids.length) : (t.kids[i]).size < t.size := by
  have := sizes_get t.kids i h
  rw [Tr.size_def t]; omega
theorem sizes_len (ks : List Tr) : ks.length ≤ sizes ks := by
  induction ks with
  | nil => simp
  | cons k r ih => rw [sizes, Tr.size_def]; simp only [List.length_cons]; omega

/-- The six cells of a node, from an address on. -/
structure Cells6 (w : World) (b o : Nat) (t : Tr) (kv : Value) : Prop where
  c0 : w.cell? ⟨b, o, none⟩ = some (.int .i64 t.kind)
  c1 : w.cell? ⟨b, o + 1, none⟩ = some (.int .i64 t.form)
  c2 : w.cell? ⟨b, o + 2, none⟩ = some (.string t.text)
  c3 : w.cell? ⟨b, o + 3, none⟩ = some (.int .i64 t.line)
  c4 : w.cell? ⟨b, o + 4, none⟩ = some (.int .i64 t.col)
  c5 : w.cell? ⟨b, o + 5, none⟩ = some kv
/-- The value of a node. -/
def nodeV (t : Tr) (kv : Value) : Value := .agg #[.int .i64 t.kind, .int .i64 t.form, .string t.text, .int .i64 t.line, .int .i64 t.col, kv]

/-- The slice kv holds a tree's kids. -/
inductive Lies (w : World) : Tr → Value → Prop
  | mk (kd fm : Int) (tx : ByteArray) (ln cl : Int) (ks : List Tr) (xa : Option Addr) (cap b o : Nat) (K : Nat → Value)
    (hlen : ks.length ≤ cap ∧ cap ≤ maxLen)
    (hxa : 0 < ks.length → xa = some ⟨b, o, none⟩)
    (hc : ∀ i (h : i < ks.length), Cells6 w b (o + i * 6) ks[i] (K i))
    (hk : ∀ i (h : i < ks.length), Lies w ks[i] (K i)) :
    Lies w (.mk kd fm tx ln cl ks) (.slice xa ks.length cap)

theorem Cells6.below {w w' : World} {b o : Nat} {t : Tr} {kv : Value} (h : Cells6 w b o t kv) (hb : Below w.heap.size w w') : Cells6 w' b o t kv := by
  have hl : b < w.heap.size := lt_of_cell h.c0
  exact ⟨(hb.cell (by exact hl)).trans h.c0, (hb.cell (by exact hl)).trans h.c1, (hb.cell (by exact hl)).trans h.c2, (hb.cell (by exact hl)).trans h.c3, (hb.cell (by exact hl)).trans h.c4, (hb.cell (by exact hl)).trans h.c5⟩
theorem Lies.keep {w w' : World} {t : Tr} {kv : Value} (h : Lies w t kv) (hb : Below w.heap.size w w') : Lies w' t kv := by
  induction h with
  | mk kd fm tx ln cl ks xa cap b o K hlen hxa hc hk ih => exact .mk kd fm tx ln cl ks xa cap b o K hlen hxa (fun i h => (hc i h).below hb) ih
/-- What lies behind the slice of a node's kids. -/
theorem Lies.kidsOf {w : World} {t : Tr} {kv : Value} (h : Lies w t kv) :
    ∃ (xa : Option Addr) (cap b o : Nat) (K : Nat → Value), kv = .slice xa t.kids.length cap ∧ (0 < t.kids.length → xa = some ⟨b, o, none⟩) ∧
      (∀ i (h : i < t.kids.length), Cells6 w b (o + i * 6) t.kids[i] (K i) ∧ Lies w t.kids[i] (K i)) := by
  cases h with
  | mk kd fm tx ln cl ks xa cap b o K hlen hxa hc hk => exact ⟨xa, cap, b, o, K, rfl, hxa, fun i h => ⟨hc i h, hk i h⟩⟩
theorem Lies.short {w : World} {t : Tr} {kv : Value} (h : Lies w t kv) : t.kids.length ≤ 9223372036854775807 := by
  cases h with
  | mk kd fm tx ln cl ks xa cap b o K hlen hxa hc hk => have h := Nat.le_trans hlen.1 hlen.2; unfold maxLen at h; exact h
theorem Lies.room {w : World} {t : Tr} {xa : Option Addr} {n cap : Nat} (h : Lies w t (.slice xa n cap)) : n ≤ cap ∧ cap ≤ maxLen := by
  cases h with
  | mk kd fm tx ln cl ks xa cap b o K hlen hxa hc hk => exact hlen
theorem Lies.shape {w : World} {t : Tr} {kv : Value} (h : Lies w t kv) : ∃ xa cap, kv = .slice xa t.kids.length cap := by
  cases h with
  | mk kd fm tx ln cl ks xa cap b o K hlen hxa hc hk => exact ⟨xa, cap, rfl⟩
/-- One kid, read in a later world. -/
theorem kid_at {w w' : World} {b o i : Nat} {t : Tr} {K : Nat → Value} (hk : ∀ i (h : i < t.kids.length), Cells6 w b (o + i * 6) t.kids[i] (K i) ∧ Lies w t.kids[i] (K i)) (hb : Below w.heap.size w w') (h : i < t.kids.length) :
    ∃ x c, Cells6 w' b (o + i * 6) t.kids[i] (.slice x t.kids[i].kids.length c) ∧ Lies w' t.kids[i] (.slice x t.kids[i].kids.length c) ∧ b < w.heap.size := by
  obtain ⟨h1, h2⟩ := hk i h
  obtain ⟨x, c, e⟩ := h2.shape
  rw [e] at h1 h2
  exact ⟨x, c, h1.below hb, h2.keep hb, lt_of_cell h1.c0⟩
theorem Lies.leaf {w : World} (kd fm : Int) (tx : ByteArray) (ln cl : Int) : Lies w (.mk kd fm tx ln cl []) (.slice none 0 0) :=
  .mk kd fm tx ln cl [] none 0 0 0 (fun _ => .nilIface) ⟨Nat.le_refl _, Nat.zero_le _⟩ (fun h => by simp at h) (fun i h => by simp at h) (fun i h => by simp at h)
end Go.Proofs.YtikkdkacflkifaaDoor
