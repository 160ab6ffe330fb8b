/- DERIVED. PLAIN: a comment that is laid anew is of the same kind, and has the same lines. -/
import Derived.Test.YthhlnahehpigeaaDoorNoteQ
set_option linter.unusedSimpArgs false
set_option linter.unusedVariables false
namespace Go.Proofs.YthhlnahehpigeaaDoor

theorem blanks_iff (b : UInt8) : blanksL.contains b = true ↔ b = 32 ∨ b = 9 ∨ b = 10 ∨ b = 11 ∨ b = 12 ∨ b = 13 := by
  simp [blanksL, or_assoc]
def isB (b : UInt8) : Bool := blanksL.contains b
theorem isB_iff (b : UInt8) : isB b = true ↔ b = 32 ∨ b = 9 ∨ b = 10 ∨ b = 11 ∨ b = 12 ∨ b = 13 := blanks_iff b
theorem isB_sp (b : UInt8) : isB (spB b) = isB b := by
  unfold spB
  split
  · next h => rcases h with rfl | rfl <;> decide
  · rfl
theorem sp_word (b : UInt8) (h : isB b = false) : spB b = b := by
  unfold spB
  rw [if_neg]
  rintro (rfl | rfl) <;> revert h <;> decide
theorem isB_nl (b : UInt8) (h : isNL b = true) : isB b = true := by
  unfold isNL at h
  simp only [Bool.or_eq_true, beq_iff_eq] at h
  rcases h with (rfl | rfl) | rfl <;> decide
theorem isB_small (b : UInt8) (h : isB b = true) : b.toNat < 128 := by
  rcases (isB_iff b).1 h with rfl | rfl | rfl | rfl | rfl | rfl <;> decide
/-- The words of a text; cur is what the first has already. -/
def wordsC (cur : List UInt8) : List UInt8 → List (List UInt8)
  | [] => if cur = [] then [] else [cur]
  | b :: t => if isB b = true then (if cur = [] then [] else [cur]) ++ wordsC [] t else wordsC (cur ++ [b]) t
theorem wordsC_nil (cur : List UInt8) : wordsC cur [] = if cur = [] then [] else [cur] := by rw [wordsC]
theorem wordsC_b (cur t : List UInt8) (b : UInt8) (h : isB b = true) : wordsC cur (b :: t) = wordsC cur [] ++ wordsC [] t := by
  conv => lhs; rw [wordsC, if_pos h]
  rw [wordsC_nil]
theorem wordsC_w (cur t : List UInt8) (b : UInt8) (h : isB b = false) : wordsC cur (b :: t) = wordsC (cur ++ [b]) t := by rw [wordsC, if_neg (by rw [h]; simp)]
theorem wordsC_cut (x : List UInt8) : ∀ (cur y : List UInt8) (b : UInt8), isB b = true → wordsC cur (x ++ b :: y) = wordsC cur x ++ wordsC [] y := by
  induction x with
  | nil => intro cur y b hb; rw [List.nil_append, wordsC_b _ _ _ hb]
  | cons a t ih =>
    intro cur y b hb
    rw [List.cons_append]
    by_cases ha : isB a = true
    · rw [wordsC_b _ _ _ ha, wordsC_b _ _ _ ha, ih [] y b hb, List.append_assoc]
    · have ha : isB a = false := by simpa using ha
      rw [wordsC_w _ _ _ ha, wordsC_w _ _ _ ha, ih _ y b hb]
theorem wordsC_pre (p : List UInt8) (h : ∀ b ∈ p, isB b = true) (l : List UInt8) : wordsC [] (p ++ l) = wordsC [] l := by
  induction p with
  | nil => rfl
  | cons a t ih =>
    rw [List.cons_append, wordsC_b _ _ _ (h a (by simp)), wordsC_nil, if_pos rfl, List.nil_append]
    exact ih (fun b hb => h b (by simp [hb]))
theorem wordsC_post (x : List UInt8) (p : List UInt8) (h : ∀ b ∈ p, isB b = true) (cur : List UInt8) : wordsC cur (x ++ p) = wordsC cur x := by
  cases p with
  | nil => rw [List.append_nil]
  | cons a t =>
    rw [wordsC_cut x cur t a (h a (by simp))]
    have := wordsC_pre t (fun b hb => h b (by simp [hb])) []
    rw [List.append_nil] at this
    rw [this, wordsC_nil, if_pos rfl, List.append_nil]
theorem wordsC_map (l : List UInt8) : ∀ cur, wordsC cur (l.map spB) = wordsC cur l := by
  induction l with
  | nil => intro cur; rfl
  | cons a t ih =>
    intro cur
    rw [List.map_cons]
    by_cases ha : isB a = true
    · rw [wordsC_b _ _ _ (by rw [isB_sp]; exact ha), wordsC_b _ _ _ ha, ih]
    · have ha : isB a = false := by simpa using ha
      rw [wordsC_w _ _ _ (by rw [isB_sp]; exact ha), wordsC_w _ _ _ ha, ih, sp_word a ha]
theorem trimR_split (l : List UInt8) : ∃ p, l = Lib.trimRightS l blanksL ++ p ∧ ∀ b ∈ p, isB b = true := by
  unfold Lib.trimRightS
  refine ⟨(l.reverse.takeWhile (blanksL.contains ·)).reverse, ?_, ?_⟩
  · rw [← List.reverse_append, List.takeWhile_append_dropWhile, List.reverse_reverse]
  · intro b hb
    rw [List.mem_reverse] at hb
    generalize l.reverse = m at hb
    induction m with
    | nil => cases hb
    | cons a t ih =>
      rw [List.takeWhile_cons] at hb
      split at hb
      · next h =>
        rw [List.mem_cons] at hb
        rcases hb with rfl | hb
        · exact h
        · exact ih hb
      · cases hb
theorem dropS_split (l : List UInt8) : ∃ p, l = p ++ l.dropWhile (· == 32) ∧ ∀ b ∈ p, isB b = true := by
  refine ⟨l.takeWhile (· == 32), List.takeWhile_append_dropWhile.symm, fun b hb => ?_⟩
  induction l with
  | nil => cases hb
  | cons a t ih =>
    rw [List.takeWhile_cons] at hb
    split at hb
    · next h =>
      rw [List.mem_cons] at hb
      rcases hb with rfl | hb
      · have : b = 32 := by simpa using h
        subst this; decide
      · exact ih hb
    · cases hb
theorem words_tidy (l : List UInt8) : wordsC [] (tidyL l) = wordsC [] l := by
  unfold tidyL
  obtain ⟨p, h1, h2⟩ := dropS_split (Lib.trimRightS (l.map spB) blanksL)
  obtain ⟨q, h3, h4⟩ := trimR_split (l.map spB)
  have e1 := wordsC_pre p h2 ((Lib.trimRightS (l.map spB) blanksL).dropWhile (· == 32))
  rw [← h1] at e1
  have e2 := wordsC_post (Lib.trimRightS (l.map spB) blanksL) q h4 []
  rw [← h3, wordsC_map] at e2
  rw [← e1, e2]
theorem words_lines (n : Nat) : ∀ (l cur : List UInt8), l.length ≤ n → (∀ b ∈ cur, isNL b = false) → wordsC [] (cur ++ l) = ((linesL cur l).map (wordsC [])).flatten := by
  induction n with
  | zero =>
    intro l cur hl _
    obtain rfl : l = [] := List.eq_nil_of_length_eq_zero (by omega)
    rw [linesL_nil, List.append_nil]; simp
  | succ n ih =>
    intro l cur hl hc
    cases l with
    | nil => rw [linesL_nil, List.append_nil]; simp
    | cons a t =>
      by_cases h : isNL a = true
      · have hn := (nl_cons a t).2 h
        have hle := nl_le (a :: t)
        rw [linesL_nl cur _ (by simp) hn, wordsC_cut cur [] t a (isB_nl a h), List.map_cons, List.flatten_cons]
        congr 1
        have hr := ih ((a :: t).drop (nl (a :: t))) [] (by rw [List.length_drop]; simp at hl ⊢; omega) (by simp)
        rw [← hr, List.nil_append]
        by_cases h2 : nl (a :: t) = 1
        · rw [h2]; rfl
        · have h2 : nl (a :: t) = 2 := by omega
          rw [h2]
          unfold nl at h2
          rw [if_neg (by simp)] at h2
          split at h2
          · next hq =>
            cases t with
            | nil => simp at hq
            | cons c u =>
              have : c = 10 := by simpa using hq.2.2
              subst this
              rw [wordsC_b _ _ _ (by decide)]; rfl
          · split at h2 <;> omega
      · have h' : isNL a = false := by simpa using h
        rw [linesL_on cur _ (by simp) (fun h2 => h ((nl_cons a t).1 h2))]
        have hr := ih ((a :: t).drop 1) (cur ++ [(a :: t).getD 0 0]) (by simp at hl ⊢; omega) (by
          intro b hb
          rw [List.mem_append, List.mem_singleton] at hb
          rcases hb with hb | rfl
          · exact hc b hb
          · exact h')
        rw [← hr]
        congr 1
        simp
theorem words_join (ls : List (List UInt8)) : wordsC [] (Lib.join ls [10]) = (ls.map (wordsC [])).flatten := by
  induction ls with
  | nil => rfl
  | cons x r ih =>
    cases r with
    | nil => rw [Lib.join_one]; simp
    | cons y r =>
      have e : Lib.join (x :: y :: r) [10] = x ++ (10 :: Lib.join (y :: r) [10]) := by rw [Lib.join_cons, Lib.join_cons]; simp [Lib.joinTail]
      rw [e, wordsC_cut x [] _ 10 (by decide), ih]; simp
theorem words_indent (col : Nat) (ls : List (List UInt8)) : (indentN col ls).map (wordsC []) = ls.map (wordsC []) := by
  cases ls with
  | nil => rfl
  | cons x r =>
    rw [indentN, List.map_cons, List.map_cons, List.map_map]
    congr 1
    refine List.map_congr_left fun y _ => ?_
    show wordsC [] (if y = [] then [] else List.replicate (col + 2) 32 ++ y) = _
    split
    · next h => rw [h]
    · exact wordsC_pre _ (fun b hb => by rw [List.mem_replicate] at hb; rw [hb.2]; decide) y
theorem words_laid (l : List UInt8) (col : Nat) : wordsC [] (Lib.join (indentN col ((linesL [] l).map tidyL)) [10]) = wordsC [] l := by
  rw [words_join, words_indent, List.map_map]
  have h := words_lines l.length l [] (Nat.le_refl _) (by simp)
  rw [List.nil_append] at h
  rw [h]
  congr 1
  exact List.map_congr_left fun x _ => words_tidy x
/-- One blank for each run of them. -/
def normB : List UInt8 → List UInt8
  | [] => []
  | [b] => if isB b = true then [32] else [b]
  | b :: c :: t => if isB b = true then (if isB c = true then normB (c :: t) else 32 :: normB (c :: t)) else b :: normB (c :: t)
theorem norm_nil : normB [] = [] := by rw [normB]
theorem norm_w (b : UInt8) (t : List UInt8) (h : isB b = false) : normB (b :: t) = b :: normB t := by
  cases t with
  | nil => simp [normB, h]
  | cons c u => simp [normB, h]
theorem norm_bb (b c : UInt8) (t : List UInt8) (h : isB b = true) (hc : isB c = true) : normB (b :: c :: t) = normB (c :: t) := by rw [normB, if_pos h, if_pos hc]
theorem norm_bw (b c : UInt8) (t : List UInt8) (h : isB b = true) (hc : isB c = false) : normB (b :: c :: t) = 32 :: normB (c :: t) := by rw [normB, if_pos h, if_neg (by rw [hc]; simp)]
theorem norm_b (b : UInt8) (h : isB b = true) : normB [b] = [32] := by rw [normB, if_pos h]
/-- A text without blanks at its ends is told by its words. -/
theorem norm_words (n : Nat) : ∀ (l cur : List UInt8), l.length ≤ n → (cur ≠ [] ∨ ∀ b, l.head? = some b → isB b = false) → (∀ b, l.getLast? = some b → isB b = false) → Lib.join (wordsC cur l) [32] = cur ++ normB l := by
  induction n with
  | zero =>
    intro l cur hl _ _
    obtain rfl : l = [] := List.eq_nil_of_length_eq_zero (by omega)
    rw [wordsC_nil, norm_nil, List.append_nil]
    split
    · next h => rw [h]; rfl
    · exact Lib.join_one _ _
  | succ n ih =>
    intro l cur hl hh hlast
    cases l with
    | nil =>
      rw [wordsC_nil, norm_nil, List.append_nil]
      split
      · next h => rw [h]; rfl
      · exact Lib.join_one _ _
    | cons b t =>
      by_cases hb : isB b = true
      · have hcur : cur ≠ [] := by
          rcases hh with h | h
          · exact h
          · have := h b rfl; rw [hb] at this; cases this
        cases t with
        | nil => have := hlast b rfl; rw [hb] at this; cases this
        | cons c u =>
          have hlast2 : ∀ x, (c :: u).getLast? = some x → isB x = false := fun x hx => hlast x (by rw [List.getLast?_cons_cons]; exact hx)
          by_cases hc : isB c = true
          · have e : wordsC cur (b :: c :: u) = wordsC cur (c :: u) := by
              rw [wordsC_b _ _ _ hb, wordsC_b _ _ _ hc, wordsC_b _ _ _ hc, wordsC_nil [], if_pos rfl, List.nil_append]
            rw [e, norm_bb _ _ _ hb hc]
            exact ih (c :: u) cur (by simp at hl ⊢; omega) (.inl hcur) hlast2
          · have hc : isB c = false := by simpa using hc
            have h1 := ih (c :: u) [] (by simp at hl ⊢; omega) (.inr (fun x hx => by simp at hx; subst hx; exact hc)) hlast2
            rw [wordsC_b _ _ _ hb, wordsC_nil, if_neg hcur, norm_bw _ _ _ hb hc, ← List.nil_append (normB (c :: u)), ← h1]
            cases hw : wordsC [] (c :: u) with
            | nil =>
              rw [hw, norm_w _ _ hc] at h1
              cases h1
            | cons w ws =>
              show Lib.join (cur :: w :: ws) [32] = _
              rw [Lib.join_cons, Lib.join_cons]; simp [Lib.joinTail]
      · have hb : isB b = false := by simpa using hb
        rw [wordsC_w _ _ _ hb, norm_w _ _ hb]
        have hlast2 : ∀ x, t.getLast? = some x → isB x = false := fun x hx => hlast x (by
          cases t with
          | nil => cases hx
          | cons c u => rw [List.getLast?_cons_cons]; exact hx)
        rw [ih t (cur ++ [b]) (by simpa using hl) (.inl (by simp)) hlast2]
        simp
end Go.Proofs.YthhlnahehpigeaaDoor
