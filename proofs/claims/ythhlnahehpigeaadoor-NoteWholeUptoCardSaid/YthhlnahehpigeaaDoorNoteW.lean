/- DERIVED. PLAIN: how long what is laid of a comment may be. -/
import Derived.Test.YthhlnahehpigeaaDoorNoteG
import Derived.Test.YthhlnahehpigeaaDoorNoteU
import Derived.Test.YthhlnahehpigeaaDoorPlaceI
set_option linter.unusedSimpArgs false
set_option linter.unusedVariables false
namespace Go.Proofs.YthhlnahehpigeaaDoor

theorem join_len (m : Nat) (ls : List (List UInt8)) (h : ∀ x ∈ ls, x.length ≤ m) : (Lib.join ls [10]).length ≤ ls.length * (m + 1) := by
  induction ls with
  | nil => exact Nat.zero_le _
  | cons x r ih =>
    have hx := h x List.mem_cons_self
    have ih := ih fun y hy => h y (List.mem_cons_of_mem _ hy)
    cases r with
    | nil => rw [Lib.join_one]; simp; omega
    | cons y r =>
      have e : Lib.join (x :: y :: r) [10] = x ++ 10 :: Lib.join (y :: r) [10] := by
        rw [Lib.join_cons, Lib.join_cons]; unfold Lib.joinTail; simp
      rw [e, List.length_cons, Nat.add_mul, List.length_append, List.length_cons]
      omega
/-- A text of at most so many lines, each at most so long. -/
def Bd (l : List UInt8) (n m : Nat) : Prop := (linesL [] l).length ≤ n ∧ ∀ x ∈ linesL [] l, x.length ≤ m
theorem linesL_many (n : Nat) : ∀ (l cur : List UInt8), l.length ≤ n → (linesL cur l).length ≤ l.length + 1 := by
  induction n with
  | zero =>
    intro l cur h
    obtain rfl := List.eq_nil_of_length_eq_zero (show l.length = 0 by omega)
    rw [linesL_nil]; simp
  | succ n ih =>
    intro l cur h
    by_cases h0 : l = []
    · subst h0; rw [linesL_nil]; simp
    · have hl := List.length_pos_iff.2 h0
      by_cases hn : 0 < nl l
      · rw [linesL_nl _ _ h0 hn]
        have := ih (l.drop (nl l)) [] (by rw [List.length_drop]; omega)
        rw [List.length_drop] at this
        simp only [List.length_cons]; omega
      · rw [linesL_on _ _ h0 hn]
        have := ih (l.drop 1) (cur ++ [l.getD 0 0]) (by rw [List.length_drop]; omega)
        rw [List.length_drop] at this
        omega
theorem bd_text (s : ByteArray) (n : Nat) (h : s.size ≤ n) : Bd s.data.toList (n + 1) n := by
  have h1 := linesL_many _ s.data.toList [] (Nat.le_refl _)
  have h2 := linesL_le _ s.data.toList [] (Nat.le_refl _)
  rw [← Lib.size_eq] at h1 h2
  exact ⟨by omega, fun x hx => by have := h2 x hx; simp at this; omega⟩
theorem linesN_bd {l : List UInt8} {n m : Nat} {ls : List (List UInt8)} (hb : Bd l n m) (h : linesN l = some ls) : ls.length ≤ n ∧ ∀ x ∈ ls, x.length ≤ m := by
  refine ⟨?_, linesN_len l ls m h hb.2⟩
  unfold linesN at h
  split at h
  · cases h
  · injection h with h
    rw [← h, List.length_map]; exact hb.1
theorem linesN_join {l : List UInt8} {n m : Nat} {ls : List (List UInt8)} (hb : Bd l n m) (h : linesN l = some ls) : (Lib.join ls [10]).length ≤ n * (m + 1) := by
  obtain ⟨h1, h2⟩ := linesN_bd hb h
  exact Nat.le_trans (join_len m ls h2) (Nat.mul_le_mul_right _ h1)
theorem indent_bd (col m : Nat) (ls : List (List UInt8)) (h : ∀ x ∈ ls, x.length ≤ m) : ∀ x ∈ indentN col ls, x.length ≤ m + (col + 2) := by
  cases ls with
  | nil => intro x hx; cases hx
  | cons y r =>
    intro x hx
    unfold indentN at hx
    rcases List.mem_cons.1 hx with rfl | hx
    · have := h x List.mem_cons_self; omega
    · obtain ⟨z, hz, rfl⟩ := List.mem_map.1 hx
      have := h z (List.mem_cons_of_mem _ hz)
      split
      · simp
      · rw [List.length_append, List.length_replicate]; omega
theorem indent_many (col : Nat) (ls : List (List UInt8)) : (indentN col ls).length = ls.length := by
  cases ls with
  | nil => rfl
  | cons y r => unfold indentN; simp
theorem indent_none (col : Nat) (ls : List (List UInt8)) (h : ls ≠ [] ∧ ∀ x ∈ ls, ∀ b ∈ x, isNL b = false) : indentN col ls ≠ [] ∧ ∀ x ∈ indentN col ls, ∀ b ∈ x, isNL b = false := by
  cases ls with
  | nil => exact absurd rfl h.1
  | cons y r =>
    refine ⟨by unfold indentN; simp, fun x hx => ?_⟩
    unfold indentN at hx
    rcases List.mem_cons.1 hx with rfl | hx
    · exact h.2 x List.mem_cons_self
    · obtain ⟨z, hz, rfl⟩ := List.mem_map.1 hx
      have := h.2 z (List.mem_cons_of_mem _ hz)
      split
      · intro b hb; cases hb
      · intro b hb
        rcases List.mem_append.1 hb with hb | hb
        · rw [List.eq_of_mem_replicate hb]; decide
        · exact this b hb
theorem tidyN_len {l : List UInt8} {n m : Nat} (col : Int) (hb : Bd l n m) : (tidyN l col).1.length ≤ n * (m + 65539) := by
  unfold tidyN
  split
  · exact Nat.zero_le _
  · next hc =>
    cases hl : linesN l with
    | none => exact Nat.zero_le _
    | some ls =>
      obtain ⟨h1, h2⟩ := linesN_bd hb hl
      have h3 := join_len _ _ (indent_bd col.toNat m ls h2)
      rw [indent_many] at h3
      refine Nat.le_trans h3 (Nat.le_trans (Nat.mul_le_mul_right _ h1) (Nat.mul_le_mul_left _ ?_))
      omega
theorem tidyN_bd {l : List UInt8} {n m : Nat} (col : Int) (hb : Bd l n m) (h : (tidyN l col).2 = 0) : Bd (tidyN l col).1 n (m + 65538) := by
  unfold tidyN at h ⊢
  split at h
  · exact absurd h (by decide)
  · next hc =>
    rw [if_neg hc]
    cases hl : linesN l with
    | none => rw [hl] at h; simp at h
    | some ls =>
      obtain ⟨h1, h2⟩ := linesN_bd hb hl
      obtain ⟨h3, h4⟩ := indent_none col.toNat ls (linesN_none _ _ hl)
      unfold Bd
      rw [lines_join _ h3 h4, indent_many]
      refine ⟨h1, fun x hx => ?_⟩
      have := indent_bd col.toNat m ls h2 x hx
      omega
end Go.Proofs.YthhlnahehpigeaaDoor
