/- DERIVED. The walks of Depth and Size, both of them. -/
import Derived.Test.YtikkdkacflkifaaDoorTree
set_option linter.unusedSimpArgs false
set_option linter.unusedVariables false
namespace Go.Proofs.YtikkdkacflkifaaDoor
open Go.RowKit

mutual
/-- How deep a tree is. -/
def Tr.depth : Tr → Nat
  | .mk _ _ _ _ _ ks => depths ks + 1
def depths : List Tr → Nat
  | [] => 0
  | k :: r => max k.depth (depths r)
end
theorem Tr.depth_def (t : Tr) : t.depth = depths t.kids + 1 := by cases t; rw [Tr.depth]; rfl
theorem depths_append (a b : List Tr) : depths (a ++ b) = max (depths a) (depths b) := by
  induction a with
  | nil => simp [depths]
  | cons k r ih => simp only [List.cons_append, depths, ih]; omega
theorem depths_take (ks : List Tr) (i : Nat) (h : i < ks.length) : depths (ks.take (i + 1)) = max (depths (ks.take i)) (ks[i]).depth := by
  rw [List.take_add_one, List.getElem?_eq_getElem h, Option.toList_some, depths_append]; simp [depths]
theorem depth_le_size (n : Nat) : ∀ t : Tr, t.size ≤ n → t.depth ≤ t.size := by
  induction n with
  | zero => intro t h; rw [Tr.size_def] at h; omega
  | succ n ih =>
    intro t h
    rw [Tr.size_def] at h ⊢
    rw [Tr.depth_def]
    have key : ∀ ks : List Tr, sizes ks ≤ n → depths ks ≤ sizes ks := by
      intro ks
      induction ks with
      | nil => intro _; simp [depths]
      | cons k r ihr =>
        intro hs
        rw [sizes] at hs ⊢
        rw [depths]
        have := ih k (by omega)
        have := ihr (by omega)
        omega
    have := key t.kids (by omega)
    omega

end Go.Proofs.YtikkdkacflkifaaDoor
