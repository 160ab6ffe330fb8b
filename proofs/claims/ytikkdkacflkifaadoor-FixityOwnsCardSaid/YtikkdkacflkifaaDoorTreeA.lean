/- DERIVED. The walks of Depth and Size, both of them. DERIVED. The walks of the reference's Depth and Size, and of Size. -/
import Derived.Test.YtikkdkacflkifaaDoorTree
set_option linter.unusedSimpArgs false
set_option linter.unusedVariables false
namespace Go.Proofs.YtikkdkacflkifaaDoor
open Go.RowKit

mutual
/-- How deep a tree is. -/
def Tr.depth : Tr → Nat
  | .mk _ _ _ _ _ ks => depths ks + 1
def depths : List Tr → Nat
  | [] => 0
  | k :: r => max k.depth (depths r)
end
theorem Tr.depth_def (t : Tr) : t.depth = depths t.kids + 1 := by cases t; rw [Tr.depth]; rfl
theorem depths_append (a b : List Tr) : depths (a ++ b) = max (depths a) (depths b) := by
  induction a with
  | nil => simp [depths]
  | cons k r ih => simp only [List.cons_append, depths, ih]; omega
theorem depths_take (ks : List Tr) (i : Nat) (h : i < ks.length) : depths (ks.take (i + 1)) = max (depths (ks.take i)) (ks[i]).depth := by
  rw [List.take_add_one, List.getElem?_eq_getElem h, Option.toList_some, depths_append]; simp [depths]
theorem depth_le_size (n : Nat) : ∀ t : Tr, t.size ≤ n → t.depth ≤ t.size := by
  induction n with
  | zero => intro t h; rw [Tr.size_def] at h; omega
  | succ n ih =>
    intro t h
    rw [Tr.size_def] at h ⊢
    rw [Tr.depth_def]
    have key : ∀ ks : List Tr, sizes ks ≤ n → depths ks ≤ sizes ks := by
      intro ks
      induction ks with
      | nil => intro _; simp [depths]
      | cons k r ihr =>
        intro hs
        rw [sizes] at hs ⊢
        rw [depths]
        have := ih k (by omega)
        have := ihr (by omega)
        omega
    have := key t.kids (by omega)
    omega

end Go.Proofs.YtikkdkacflkifaaDoor

namespace Go.Proofs.YtikkdkacflkifaaDoor
open Go.RowKit

/-- A parameter that lies in a block of its own. -/
structure Boxed (w : World) (b : Nat) (t : Tr) (kv : Value) : Prop where
  c0 : w.cell? ⟨b, 0, none⟩ = some (.int .i64 t.kind)
  c1 : w.cell? ⟨b, 1, none⟩ = some (.int .i64 t.form)
  c2 : w.cell? ⟨b, 2, none⟩ = some (.string t.text)
  c3 : w.cell? ⟨b, 3, none⟩ = some (.int .i64 t.line)
  c4 : w.cell? ⟨b, 4, none⟩ = some (.int .i64 t.col)
  c5 : w.cell? ⟨b, 5, none⟩ = some kv
theorem Boxed.below {w w' : World} {b : Nat} {t : Tr} {kv : Value} (h : Boxed w b t kv) (hb : Below w.heap.size w w') : Boxed w' b t kv := by
  have hl : b < w.heap.size := lt_of_cell h.c0
  exact ⟨(hb.cell (by exact hl)).trans h.c0, (hb.cell (by exact hl)).trans h.c1, (hb.cell (by exact hl)).trans h.c2, (hb.cell (by exact hl)).trans h.c3, (hb.cell (by exact hl)).trans h.c4, (hb.cell (by exact hl)).trans h.c5⟩
theorem Boxed.alloc {w : World} {b : Nat} {t : Tr} {kv : Value} (h : Boxed w b t kv) (o : Obj) : Boxed (w.alloc o) b t kv := h.below ((Below.refl _ _).alloc (Nat.le_refl _) _)
theorem Boxed.lt {w : World} {b : Nat} {t : Tr} {kv : Value} (h : Boxed w b t kv) : b < w.heap.size := lt_of_cell h.c0
theorem boxed_new (w : World) (t : Tr) (kv : Value) (n : Nat) (hn : n = w.heap.size) : Boxed (w.alloc (.cells #[.int .i64 t.kind, .int .i64 t.form, .string t.text, .int .i64 t.line, .int .i64 t.col, kv] 32)) n t kv := by
  subst hn
  exact ⟨World.cell?_alloc_new _ _ _ _, World.cell?_alloc_new _ _ _ _, World.cell?_alloc_new _ _ _ _, World.cell?_alloc_new _ _ _ _, World.cell?_alloc_new _ _ _ _, World.cell?_alloc_new _ _ _ _⟩

theorem sizes_append (a b : List Tr) : sizes (a ++ b) = sizes a + sizes b := by
  induction a with
  | nil => simp [sizes]
  | cons k r ih => simp only [List.cons_append, sizes, ih]; omega
theorem sizes_take (ks : List Tr) (i : Nat) (h : i < ks.length) : sizes (ks.take (i + 1)) = sizes (ks.take i) + (ks[i]).size := by
  rw [List.take_add_one, List.getElem?_eq_getElem h, Option.toList_some, sizes_append]; simp [sizes]
theorem sizes_take_le (ks : List Tr) (i : Nat) : sizes (ks.take i) ≤ sizes ks := by
  have := sizes_append (ks.take i) (ks.drop i)
  rw [List.take_append_drop] at this; omega

end Go.Proofs.YtikkdkacflkifaaDoor

