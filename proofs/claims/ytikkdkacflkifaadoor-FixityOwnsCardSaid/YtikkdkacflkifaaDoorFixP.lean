/- DERIVED. PLAIN: a row, taken up. DERIVED. PLAIN: a row, resolved. -/
import Derived.Test.YtikkdkacflkifaaDoorFixE
import Derived.Test.YtikkdkacflkifaaDoorTree
set_option linter.unusedSimpArgs false
set_option linter.unusedVariables false
namespace Go.Proofs.YtikkdkacflkifaaDoor

def nodeOf (k : Int) (ks : List Tr) : Tr := .mk k 0 ⟨#[]⟩ 0 0 ks
mutual
/-- What begins behind an operator, at the k-th kid: the tree, how far it comes, and whether it is wrong. -/
def pBegin (env : List Fx) (ks : List Tr) : Nat → Fx → Nat → Tr × Nat × Bool
  | 0, _, k => (nodeOf 0 [], k, true)
  | f + 1, o, k =>
    match ks[k]? with
    | none => (nodeOf 0 [], k, true)
    | some n =>
      if n.kind = 19 then
        if 6 ≤ o.prec then (n, k + 1, true)
        else pGo env ks f o (nodeOf 21 [n, (pBegin env ks f ⟨⟨#[]⟩, 1, 6⟩ (k + 1)).1]) (pBegin env ks f ⟨⟨#[]⟩, 1, 6⟩ (k + 1)).2.1 (pBegin env ks f ⟨⟨#[]⟩, 1, 6⟩ (k + 1)).2.2
      else pGo env ks f o n (k + 1) false
/-- What goes on behind an operator and a tree. -/
def pGo (env : List Fx) (ks : List Tr) : Nat → Fx → Tr → Nat → Bool → Tr × Nat × Bool
  | 0, _, n, k, w => (n, k, w)
  | f + 1, o, n, k, w =>
    if w = true then (n, k, true)
    else match ks[k]? with
    | none => (n, k, false)
    | some x =>
      if o.prec = (fixOf env x).prec ∧ (o.side ≠ (fixOf env x).side ∨ o.side = 3) then (n, k, true)
      else if (fixOf env x).prec < o.prec ∨ (o.prec = (fixOf env x).prec ∧ o.side = 1) then (n, k, false)
      else pGo env ks f o (nodeOf 20 [n, x, (pBegin env ks f (fixOf env x) (k + 1)).1]) (pBegin env ks f (fixOf env x) (k + 1)).2.1 (pBegin env ks f (fixOf env x) (k + 1)).2.2
end
theorem pBegin_s (env : List Fx) (ks : List Tr) (f k : Nat) (o : Fx) (h : k < ks.length) : pBegin env ks (f + 1) o k = if (ks[k]).kind = 19 then (if 6 ≤ o.prec then (ks[k], k + 1, true) else pGo env ks f o (nodeOf 21 [ks[k], (pBegin env ks f ⟨⟨#[]⟩, 1, 6⟩ (k + 1)).1]) (pBegin env ks f ⟨⟨#[]⟩, 1, 6⟩ (k + 1)).2.1 (pBegin env ks f ⟨⟨#[]⟩, 1, 6⟩ (k + 1)).2.2) else pGo env ks f o ks[k] (k + 1) false := by
  rw [pBegin, List.getElem?_eq_getElem h]
theorem pGo_w (env : List Fx) (ks : List Tr) (f k : Nat) (o : Fx) (n : Tr) : pGo env ks f o n k true = (n, k, true) := by
  cases f with
  | zero => rw [pGo]
  | succ f => rw [pGo, if_pos rfl]
theorem pGo_e (env : List Fx) (ks : List Tr) (f k : Nat) (o : Fx) (n : Tr) (h : ks.length ≤ k) : pGo env ks f o n k false = (n, k, false) := by
  cases f with
  | zero => rw [pGo]
  | succ f => rw [pGo, if_neg (by simp), List.getElem?_eq_none h]
theorem pGo_s (env : List Fx) (ks : List Tr) (f k : Nat) (o : Fx) (n : Tr) (h : k < ks.length) : pGo env ks (f + 1) o n k false =
    if o.prec = (fixOf env ks[k]).prec ∧ (o.side ≠ (fixOf env ks[k]).side ∨ o.side = 3) then (n, k, true)
    else if (fixOf env ks[k]).prec < o.prec ∨ (o.prec = (fixOf env ks[k]).prec ∧ o.side = 1) then (n, k, false)
    else pGo env ks f o (nodeOf 20 [n, ks[k], (pBegin env ks f (fixOf env ks[k]) (k + 1)).1]) (pBegin env ks f (fixOf env ks[k]) (k + 1)).2.1 (pBegin env ks f (fixOf env ks[k]) (k + 1)).2.2 := by
  rw [pGo, if_neg (by simp), List.getElem?_eq_getElem h]
/-- Is a row as it must be, where a reader has come to? -/
def Fine (ks : List Tr) (Q : Tr × Nat × Bool) (k : Nat) : Prop := k ≤ Q.2.1 ∧ Q.2.1 ≤ ks.length ∧ (Q.2.2 = true ∨ rowOk false (ks.drop Q.2.1) = true)
theorem rowOk_at (ks : List Tr) (k : Nat) (b : Bool) (h : k < ks.length) : ks.drop k = ks[k] :: ks.drop (k + 1) := List.drop_eq_getElem_cons h
theorem p_fine (env : List Fx) (ks : List Tr) (f : Nat) : (∀ (o : Fx) (k : Nat), 2 * (ks.length - k) ≤ f → rowOk true (ks.drop k) = true → Fine ks (pBegin env ks f o k) (k + 1)) ∧
    (∀ (o : Fx) (n : Tr) (k : Nat) (w : Bool), 2 * (ks.length - k) ≤ f → k ≤ ks.length → (w = true ∨ rowOk false (ks.drop k) = true) → Fine ks (pGo env ks f o n k w) k) := by
  induction f with
  | zero =>
    refine ⟨fun o k h hr => ?_, fun o n k w h hk hr => ?_⟩
    · rw [List.drop_eq_nil_of_le (by omega)] at hr; simp [rowOk] at hr
    · rw [pGo]; exact ⟨Nat.le_refl _, hk, hr⟩
  | succ f ih =>
    refine ⟨fun o k h hr => ?_, fun o n k w h hk hr => ?_⟩
    · by_cases hk : k < ks.length
      · rw [rowOk_at ks k true hk] at hr
        rw [pBegin_s env ks f k o hk]
        by_cases h19 : (ks[k]).kind = 19
        · rw [rowOk_m _ _ h19] at hr
          rw [if_pos h19]
          by_cases h6 : 6 ≤ o.prec
          · rw [if_pos h6]; exact ⟨Nat.le_refl _, by simp only; omega, .inl rfl⟩
          · rw [if_neg h6]
            obtain ⟨a, b, c⟩ := ih.1 ⟨⟨#[]⟩, 1, 6⟩ (k + 1) (by omega) hr
            obtain ⟨d, e, g⟩ := ih.2 o (nodeOf 21 [ks[k], (pBegin env ks f ⟨⟨#[]⟩, 1, 6⟩ (k + 1)).1]) _ _ (by omega) b c
            exact ⟨by omega, e, g⟩
        · rw [if_neg h19]
          by_cases h18 : (ks[k]).kind = 18
          · rw [rowOk_o _ _ h18] at hr; cases hr
          · rw [rowOk_n _ _ h19 h18] at hr
            exact ih.2 o ks[k] (k + 1) false (by omega) (by omega) (.inr hr)
      · rw [List.drop_eq_nil_of_le (by omega)] at hr; simp [rowOk] at hr
    · cases w with
      | true => rw [pGo_w]; exact ⟨Nat.le_refl _, hk, .inl rfl⟩
      | false =>
        by_cases hkl : k < ks.length
        · rw [pGo_s env ks f k o n hkl]
          have hr := hr.resolve_left (by simp)
          split
          · exact ⟨Nat.le_refl _, hk, .inl rfl⟩
          · split
            · exact ⟨Nat.le_refl _, hk, .inr hr⟩
            · rw [rowOk_at ks k true hkl, rowOk_f] at hr
              split at hr
              · obtain ⟨a, b, c⟩ := ih.1 (fixOf env ks[k]) (k + 1) (by omega) hr
                obtain ⟨d, e, g⟩ := ih.2 o (nodeOf 20 [n, ks[k], (pBegin env ks f (fixOf env ks[k]) (k + 1)).1]) _ _ (by omega) b c
                exact ⟨by omega, e, g⟩
              · cases hr
        · rw [pGo_e _ _ _ _ _ _ (by omega)]; exact ⟨Nat.le_refl _, hk, hr⟩
end Go.Proofs.YtikkdkacflkifaaDoor

namespace Go.Proofs.YtikkdkacflkifaaDoor
open Go.RowKit

/-- A row, resolved. -/
def resolveX (env : List Fx) (t : Tr) : Tr × Int :=
  if t.kind = 17 then
    if rowOk true t.kids = true then
      if (pBegin env t.kids (2 * t.kids.length) ⟨⟨#[]⟩, 3, -1⟩ 0).2.2 = true then (zeroT, 160) else ((pBegin env t.kids (2 * t.kids.length) ⟨⟨#[]⟩, 3, -1⟩ 0).1, 0)
    else (zeroT, 120)
  else (t, 0)
def ResolvePost (R : Tr × Int) (w : World) (e : Ending) (w' : World) : Prop :=
  ∃ kv, e = .returned (.tuple #[nodeV R.1 kv, .int .i64 R.2]) ∧ Lies w' R.1 kv ∧ Below w.heap.size w w'
theorem below_fresh {B : Nat} {w w1 w2 : World} {g : Nat} (h : Below B w w1) (hg : B ≤ g) (ho : ∀ j, j ≠ g → w2.heap[j]? = w1.heap[j]?) (hs : w2.heap.size = w1.heap.size) (h1 : w2.os = w1.os) (h2 : w2.tape = w1.tape) (h3 : w2.output = w1.output) : Below B w w2 :=
  ⟨h1.trans h.os, h2.trans h.tape, h3.trans h.output, by rw [hs]; exact h.size, fun k hk => (ho k (by omega)).trans (h.block k hk)⟩
end Go.Proofs.YtikkdkacflkifaaDoor

