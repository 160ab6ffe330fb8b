/- DERIVED. PLAIN: a row of operators that are all one, not told of and not known, is taken from the left. -/
import Derived.Test.YtikkdkacflkifaaDoorL16A
import Derived.Test.YtikkdkacflkifaaDoorTreeD
set_option linter.unusedSimpArgs false
set_option linter.unusedVariables false
namespace Go.Proofs.YtikkdkacflkifaaDoor

def opP : ByteArray := ⟨#[60, 43, 62]⟩
def flatK : List ByteArray → List Tr
  | [] => []
  | s :: r => operT opP :: leafT 1 s :: flatK r
def leftT : Tr → List ByteArray → Tr
  | n, [] => n
  | n, s :: r => leftT (nodeOf 20 [n, operT opP, leafT 1 s]) r
theorem flatK_len (r : List ByteArray) : (flatK r).length = 2 * r.length := by
  induction r with
  | nil => rfl
  | cons s r ih => simp only [flatK, List.length_cons, ih]; omega
theorem flatK_snoc (r : List ByteArray) (s : ByteArray) : flatK (r ++ [s]) = flatK r ++ [operT opP, leafT 1 s] := by
  induction r with
  | nil => rfl
  | cons x r ih => simp only [List.cons_append, flatK, ih]
theorem leftT_snoc (r : List ByteArray) : ∀ (n : Tr) (s : ByteArray), leftT n (r ++ [s]) = nodeOf 20 [leftT n r, operT opP, leafT 1 s] := by
  induction r with
  | nil => intro n s; rfl
  | cons x r ih => intro n s; simp only [List.cons_append, leftT, ih]
theorem fix_opP : fixOf [] (operT opP) = ⟨opP, 1, 9⟩ := by kernel_rfl
theorem name_opP : (nameX (operT opP)).isSome = true := by kernel_rfl
theorem leaf_kind (s : ByteArray) : (leafT 1 s).kind = 1 := rfl
theorem leaf_behind (ks : List Tr) (r : List ByteArray) (f k : Nat) (n : Tr) (h : ks.drop k = flatK r) : pGo [] ks f ⟨opP, 1, 9⟩ n k false = (n, k, false) := by
  cases f with
  | zero => rw [pGo]
  | succ f =>
    cases r with
    | nil => exact pGo_e _ _ _ _ _ _ (List.drop_eq_nil_iff.1 h)
    | cons s r =>
      have hk : k < ks.length := by
        apply Nat.lt_of_not_le; intro h2; rw [List.drop_eq_nil_of_le h2] at h; simp [flatK] at h
      have h0 : ks[k] = operT opP := by rw [rowOk_at ks k true hk, flatK] at h; injection h
      rw [pGo_s _ _ _ _ _ _ hk, h0, fix_opP, if_neg (by simp), if_pos (by simp)]
theorem lefts_go (ks : List Tr) (r : List ByteArray) : ∀ (f k : Nat) (n : Tr), ks.drop k = flatK r → r.length + 1 ≤ f → pGo [] ks f ⟨⟨#[]⟩, 3, -1⟩ n k false = (leftT n r, k + 2 * r.length, false) := by
  induction r with
  | nil => intro f k n h _; exact pGo_e _ _ _ _ _ _ (List.drop_eq_nil_iff.1 h)
  | cons s r ih =>
    intro f k n h hf
    obtain ⟨f, rfl⟩ : ∃ g, f = g + 1 := ⟨f - 1, by omega⟩
    obtain ⟨f, rfl⟩ : ∃ g, f = g + 1 := ⟨f - 1, by simp only [List.length_cons] at hf; omega⟩
    have hlen : ks.length - k = 2 * (r.length + 1) := by
      have h1 := congrArg List.length h
      rw [List.length_drop, flatK_len, List.length_cons] at h1; exact h1
    have hk : k < ks.length := by omega
    have hk1 : k + 1 < ks.length := by omega
    rw [rowOk_at ks k true hk, rowOk_at ks (k + 1) true hk1, flatK] at h
    injection h with h0 h
    injection h with h1 h2
    have hB : pBegin [] ks (f + 1) ⟨opP, 1, 9⟩ (k + 1) = (leafT 1 s, k + 2, false) := by
      rw [pBegin_s _ _ _ _ _ hk1, h1, leaf_kind, if_neg (by omega)]
      exact leaf_behind ks r f (k + 2) (leafT 1 s) h2
    rw [pGo_s _ _ _ _ _ _ hk, h0, fix_opP, if_neg (by simp), if_neg (by simp), hB]
    simp only
    rw [ih (f + 1) (k + 2) _ h2 (by simp only [List.length_cons] at hf; omega), leftT, List.length_cons]
    congr 2; omega
theorem rowOk_lefts (r : List ByteArray) : ∀ s, rowOk true (leafT 1 s :: flatK r) = true := by
  induction r with
  | nil => intro s; rw [rowOk_n _ _ (by rw [leaf_kind]; omega) (by rw [leaf_kind]; omega), flatK]; rfl
  | cons x r ih => intro s; rw [rowOk_n _ _ (by rw [leaf_kind]; omega) (by rw [leaf_kind]; omega), flatK, rowOk_f, name_opP, if_pos rfl]; exact ih x
theorem resolve_lefts (s : ByteArray) (r : List ByteArray) : resolveX [] (.mk 17 0 ⟨#[]⟩ 0 0 (leafT 1 s :: flatK r)) = (leftT (leafT 1 s) r, 0) := by
  have hp : pBegin [] (leafT 1 s :: flatK r) (2 * (leafT 1 s :: flatK r).length) ⟨⟨#[]⟩, 3, -1⟩ 0 = (leftT (leafT 1 s) r, 1 + 2 * r.length, false) := by
    have hl := flatK_len r
    obtain ⟨f, hf⟩ : ∃ f, 2 * (leafT 1 s :: flatK r).length = f + 1 := ⟨2 * (flatK r).length + 1, by simp only [List.length_cons]; omega⟩
    have hf2 : r.length + 1 ≤ f := by simp only [List.length_cons] at hf; omega
    rw [hf, pBegin_s _ _ _ _ _ (by simp)]
    rw [if_neg (by simp [leaf_kind])]
    exact lefts_go _ r f 1 _ rfl hf2
  unfold resolveX
  simp only [Tr.kids, Tr.kind, if_true, rowOk_lefts r s, hp]
  simp
theorem same_self (n : Nat) : ∀ t : Tr, t.size ≤ n → t.same t = true := by
  induction n with
  | zero => intro t h; rw [Tr.size_def] at h; omega
  | succ n ih =>
    intro t h
    have hs : ∀ ks : List Tr, sizes ks ≤ n → sames ks ks = true := by
      intro ks
      induction ks with
      | nil => intro _; rfl
      | cons k r ihr =>
        intro hk
        rw [sizes] at hk
        rw [sames, ih k (by omega), ihr (by omega)]; rfl
    rw [Tr.same_def, hs t.kids (by rw [Tr.size_def] at h; omega)]
    simp
end Go.Proofs.YtikkdkacflkifaaDoor
