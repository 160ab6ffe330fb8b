/- DERIVED. PLAIN: a comment that is laid anew is of the same kind. -/
import Derived.Test.YthhlnahehpigeaaDoorNoteR
set_option linter.unusedSimpArgs false
set_option linter.unusedVariables false
namespace Go.Proofs.YthhlnahehpigeaaDoor

/-- Does a nested comment end just where the text ends, so deep in? -/
def nestE : List UInt8 → Nat → Bool
  | a :: b :: t, d => if a = 123 ∧ b = 45 then nestE t (d + 1) else if a = 45 ∧ b = 125 then (if d ≤ 1 then t == [] else nestE t (d - 1)) else nestE (b :: t) d
  | [_], _ => false
  | [], _ => false
theorem nestE_in (t : List UInt8) (d : Nat) : nestE (123 :: 45 :: t) d = nestE t (d + 1) := by rw [nestE, if_pos ⟨rfl, rfl⟩]
theorem nestE_out (t : List UInt8) (d : Nat) : nestE (45 :: 125 :: t) d = if d ≤ 1 then t == [] else nestE t (d - 1) := by rw [nestE, if_neg (by decide), if_pos ⟨rfl, rfl⟩]
theorem nestE_on (a b : UInt8) (t : List UInt8) (d : Nat) (h : ¬ (a = 123 ∧ b = 45)) (h2 : ¬ (a = 45 ∧ b = 125)) : nestE (a :: b :: t) d = nestE (b :: t) d := by rw [nestE, if_neg h, if_neg h2]
theorem nestE_one (a : UInt8) (d : Nat) : nestE [a] d = false := by rw [nestE]
theorem nestE_nil (d : Nat) : nestE [] d = false := by rw [nestE]
theorem nestE_I (n : Nat) : ∀ (l : List UInt8) (i d : Nat), l.length - i ≤ n → (nestI l i d = some l.length ↔ nestE (l.drop i) d = true) := by
  induction n with
  | zero => intro l i d h; rw [nestI_end l _ _ (by omega), List.drop_eq_nil_of_le (by omega), nestE_nil]; simp
  | succ n ih =>
    intro l i d h
    by_cases hi : i < l.length
    · have e1 := List.drop_eq_getElem_cons hi
      by_cases hj : i + 1 < l.length
      · have e2 := List.drop_eq_getElem_cons hj
        have g1 := List.getElem?_eq_getElem hi
        have g2 := List.getElem?_eq_getElem hj
        have hin : twoB l i 123 45 = true ↔ l[i] = 123 ∧ l[i + 1] = 45 := by rw [twoB_iff, g1, g2]; simp
        have hout : twoB l i 45 125 = true ↔ l[i] = 45 ∧ l[i + 1] = 125 := by rw [twoB_iff, g1, g2]; simp
        by_cases h1 : twoB l i 123 45 = true
        · obtain ⟨q1, q2⟩ := hin.1 h1
          rw [nestI_in _ _ _ h1, e1, e2, q1, q2, nestE_in]
          exact ih l (i + 2) (d + 1) (by omega)
        · have h1' : twoB l i 123 45 = false := by simpa using h1
          by_cases h2 : twoB l i 45 125 = true
          · obtain ⟨q1, q2⟩ := hout.1 h2
            rw [nestI_out _ _ _ h1' h2, e1, e2, q1, q2, nestE_out]
            by_cases hd : d ≤ 1
            · rw [if_pos hd, if_pos hd]
              simp only [Option.some.injEq, beq_iff_eq, List.drop_eq_nil_iff]
              omega
            · rw [if_neg hd, if_neg hd]
              exact ih l (i + 2) (d - 1) (by omega)
          · have h2' : twoB l i 45 125 = false := by simpa using h2
            rw [nestI_on _ _ _ hi h1' h2', e1, e2, nestE_on _ _ _ _ (fun h => h1 (hin.2 h)) (fun h => h2 (hout.2 h)), ← e2]
            exact ih l (i + 1) d (by omega)
      · have h1 : twoB l i 123 45 = false := by
          cases hq : twoB l i 123 45
          · rfl
          · have := twoB_lt hq; omega
        have h2 : twoB l i 45 125 = false := by
          cases hq : twoB l i 45 125
          · rfl
          · have := twoB_lt hq; omega
        rw [nestI_on _ _ _ hi h1 h2, nestI_end _ _ _ (by omega), e1, List.drop_eq_nil_of_le (by omega), nestE_one]; simp
    · rw [nestI_end l _ _ (by omega), List.drop_eq_nil_of_le (by omega), nestE_nil]; simp
theorem isB_no (b : UInt8) (h : isB b = true) : b ≠ 123 ∧ b ≠ 45 ∧ b ≠ 125 ∧ b ≠ 35 := by
  rcases (isB_iff b).1 h with rfl | rfl | rfl | rfl | rfl | rfl <;> decide
theorem norm_head (n : Nat) : ∀ (t : List UInt8) (b : UInt8), t.length ≤ n → isB b = true → ∃ r, normB (b :: t) = 32 :: r := by
  induction n with
  | zero =>
    intro t b hl hb
    obtain rfl : t = [] := List.eq_nil_of_length_eq_zero (by omega)
    exact ⟨[], norm_b b hb⟩
  | succ n ih =>
    intro t b hl hb
    cases t with
    | nil => exact ⟨[], norm_b b hb⟩
    | cons c u =>
      by_cases hc : isB c = true
      · rw [norm_bb _ _ _ hb hc]; exact ih u c (by simpa using hl) hc
      · exact ⟨_, norm_bw _ _ _ hb (by simpa using hc)⟩
theorem norm_eq_nil (t : List UInt8) : normB t = [] ↔ t = [] := by
  constructor
  · intro h
    cases t with
    | nil => rfl
    | cons b u =>
      by_cases hb : isB b = true
      · obtain ⟨r, hr⟩ := norm_head u.length u b (Nat.le_refl _) hb
        rw [hr] at h; cases h
      · rw [norm_w _ _ (by simpa using hb)] at h; cases h
  · rintro rfl; rfl
theorem nestE_norm (n : Nat) : ∀ (l : List UInt8) (d : Nat), l.length ≤ n → nestE (normB l) d = nestE l d := by
  induction n with
  | zero =>
    intro l d hl
    obtain rfl : l = [] := List.eq_nil_of_length_eq_zero (by omega)
    rfl
  | succ n ih =>
    intro l d hl
    cases l with
    | nil => rfl
    | cons a l =>
      cases l with
      | nil =>
        by_cases ha : isB a = true
        · rw [norm_b a ha, nestE_one, nestE_one]
        · rw [norm_w a [] (by simpa using ha), nestE_one]; exact nestE_one a d
      | cons b t =>
        have i1 := fun d => ih (b :: t) d (by simp at hl ⊢; omega)
        have i2 := fun d => ih t d (by simp at hl ⊢; omega)
        by_cases ha : isB a = true
        · obtain ⟨n1, n2, _⟩ := isB_no a ha
          rw [nestE_on a b t d (fun h => n1 h.1) (fun h => n2 h.1)]
          by_cases hb : isB b = true
          · rw [norm_bb _ _ _ ha hb]; exact i1 d
          · have hb : isB b = false := by simpa using hb
            have j := i1 d
            rw [norm_w _ _ hb] at j
            rw [norm_bw _ _ _ ha hb, norm_w _ _ hb, nestE_on 32 b _ d (by rintro ⟨h, _⟩; revert h; decide) (by rintro ⟨h, _⟩; revert h; decide)]
            exact j
        · have ha : isB a = false := by simpa using ha
          rw [norm_w _ _ ha]
          by_cases hb : isB b = true
          · obtain ⟨_, n2, n3, _⟩ := isB_no b hb
            obtain ⟨r, hr⟩ := norm_head t.length t b (Nat.le_refl _) hb
            have j := i1 d
            rw [hr] at j ⊢
            rw [nestE_on a b t d (fun h => n2 h.2) (fun h => n3 h.2), nestE_on a 32 r d (by rintro ⟨_, h⟩; revert h; decide) (by rintro ⟨_, h⟩; revert h; decide)]
            exact j
          · have hb : isB b = false := by simpa using hb
            have j := i1 d
            rw [norm_w _ _ hb] at j ⊢
            by_cases h1 : a = 123 ∧ b = 45
            · obtain ⟨rfl, rfl⟩ := h1
              rw [nestE_in, nestE_in]; exact i2 _
            · by_cases h2 : a = 45 ∧ b = 125
              · obtain ⟨rfl, rfl⟩ := h2
                rw [nestE_out, nestE_out]
                by_cases hd : d ≤ 1
                · rw [if_pos hd, if_pos hd, Bool.eq_iff_iff, beq_iff_eq, beq_iff_eq]; exact norm_eq_nil t
                · rw [if_neg hd, if_neg hd]; exact i2 _
              · rw [nestE_on a b _ d h1 h2, nestE_on a b _ d h1 h2]; exact j
theorem norm_app (m : List UInt8) (w : UInt8) (y : List UInt8) (hw : isB w = false) : normB (m ++ w :: y) = normB m ++ normB (w :: y) := by
  induction m with
  | nil => rfl
  | cons b m ih =>
    by_cases hb : isB b = true
    · cases m with
      | nil => rw [List.nil_append] at ih; show normB (b :: w :: y) = _; rw [norm_bw _ _ _ hb hw, norm_b b hb]; rfl
      | cons c u =>
        by_cases hc : isB c = true
        · show normB (b :: c :: (u ++ w :: y)) = _
          rw [norm_bb _ _ _ hb hc, norm_bb _ _ _ hb hc]; exact ih
        · have hc : isB c = false := by simpa using hc
          show normB (b :: c :: (u ++ w :: y)) = _
          rw [norm_bw _ _ _ hb hc, norm_bw _ _ _ hb hc, List.cons_append]
          congr 1
    · have hb : isB b = false := by simpa using hb
      rw [List.cons_append, norm_w _ _ hb, norm_w _ _ hb, ih]; rfl
theorem norm_last_b (n : Nat) : ∀ (m : List UInt8) (c : UInt8), m.length ≤ n → isB c = true → ∃ y, normB (m ++ [c]) = y ++ [32] := by
  induction n with
  | zero =>
    intro m c hl hc
    obtain rfl : m = [] := List.eq_nil_of_length_eq_zero (by omega)
    exact ⟨[], norm_b c hc⟩
  | succ n ih =>
    intro m c hl hc
    cases m with
    | nil => exact ⟨[], norm_b c hc⟩
    | cons b m =>
      obtain ⟨y, hy⟩ := ih m c (by simpa using hl) hc
      by_cases hb : isB b = true
      · cases m with
        | nil => exact ⟨[], by show normB (b :: c :: []) = _; rw [norm_bb _ _ _ hb hc, norm_b c hc]; rfl⟩
        | cons d u =>
          by_cases hd : isB d = true
          · exact ⟨y, by show normB (b :: d :: (u ++ [c])) = _; rw [norm_bb _ _ _ hb hd]; exact hy⟩
          · exact ⟨32 :: y, by show normB (b :: d :: (u ++ [c])) = _; rw [norm_bw _ _ _ hb (by simpa using hd)]; show 32 :: normB (d :: u ++ [c]) = _; rw [hy]; rfl⟩
      · exact ⟨b :: y, by rw [List.cons_append, norm_w _ _ (by simpa using hb), hy]; rfl⟩
/-- What ends a text without blanks is what ends its words. -/
theorem norm_snoc (x y : List UInt8) (w : UInt8) (hw : isB w = false) (h : normB x = y ++ [w]) : ∃ x', x = x' ++ [w] ∧ normB x' = y := by
  have hx : x ≠ [] := by rintro rfl; rw [norm_nil] at h; simp at h
  obtain ⟨x', c, rfl⟩ : ∃ x' c, x = x' ++ [c] := ⟨x.dropLast, x.getLast hx, (List.dropLast_concat_getLast hx).symm⟩
  by_cases hc : isB c = true
  · obtain ⟨z, hz⟩ := norm_last_b x'.length x' c (Nat.le_refl _) hc
    rw [hz] at h
    have := (List.append_inj' h rfl).2
    injection this with this
    subst this
    exact absurd hw (by decide)
  · have hc : isB c = false := by simpa using hc
    rw [norm_app x' c [] hc, norm_w _ _ hc, norm_nil] at h
    obtain ⟨h1, h2⟩ := List.append_inj' h rfl
    injection h2 with h2
    subst h2
    exact ⟨x', rfl, h1⟩
theorem norm_cons (x y : List UInt8) (w : UInt8) (hw : isB w = false) (h : normB x = w :: y) : ∃ x', x = w :: x' ∧ normB x' = y := by
  cases x with
  | nil => rw [norm_nil] at h; cases h
  | cons c u =>
    by_cases hc : isB c = true
    · obtain ⟨r, hr⟩ := norm_head u.length u c (Nat.le_refl _) hc
      rw [hr] at h
      injection h with h _
      subst h
      exact absurd hw (by decide)
    · rw [norm_w _ _ (by simpa using hc)] at h
      injection h with h1 h2
      subst h1
      exact ⟨u, rfl, h2⟩
/-- Is a nested comment a pragma? -/
def PragL (l : List UInt8) : Prop := ∃ m, l = 123 :: 45 :: 35 :: (m ++ [35, 45, 125])
theorem prag_norm (l : List UInt8) : PragL l ↔ PragL (normB l) := by
  constructor
  · rintro ⟨m, rfl⟩
    refine ⟨normB m, ?_⟩
    rw [norm_w _ _ (by decide), norm_w _ _ (by decide), norm_w _ _ (by decide), norm_app m 35 _ (by decide), norm_w _ _ (by decide), norm_w _ _ (by decide), norm_w _ _ (by decide)]
    rfl
  · rintro ⟨m, h⟩
    obtain ⟨x1, e1, h1⟩ := norm_cons _ _ _ (by decide) h
    obtain ⟨x2, e2, h2⟩ := norm_cons _ _ _ (by decide) h1
    obtain ⟨x3, e3, h3⟩ := norm_cons _ _ _ (by decide) h2
    rw [show m ++ [35, 45, 125] = ((m ++ [35]) ++ [45]) ++ [125] from by simp] at h3
    obtain ⟨x4, e4, h4⟩ := norm_snoc _ _ _ (by decide) h3
    obtain ⟨x5, e5, h5⟩ := norm_snoc _ _ _ (by decide) h4
    obtain ⟨x6, e6, h6⟩ := norm_snoc _ _ _ (by decide) h5
    subst e6 e5 e4 e3 e2 e1
    exact ⟨x6, by simp⟩
/-- What kindN asks. -/
theorem prag_iff (l : List UInt8) (h0 : twoB l 0 123 45 = true) (h1 : 2 ≤ l.length) (h2 : twoB l (l.length - 2) 45 125 = true) : (6 ≤ l.length ∧ l[2]? = some 35 ∧ l[l.length - 3]? = some 35) ↔ PragL l := by
  rw [twoB_iff] at h0 h2
  constructor
  · rintro ⟨h6, ha, hb⟩
    refine ⟨(l.drop 3).take (l.length - 6), ?_⟩
    apply List.ext_getElem?
    intro i
    have hl : (123 :: 45 :: 35 :: ((l.drop 3).take (l.length - 6) ++ [35, 45, 125])).length = l.length := by simp; omega
    by_cases hi : i < l.length
    · by_cases c0 : i = 0
      · subst c0; rw [h0.1]; rfl
      · by_cases c1 : i = 1
        · subst c1; rw [h0.2]; rfl
        · by_cases c2 : i = 2
          · subst c2; rw [ha]; rfl
          · obtain ⟨j, rfl⟩ : ∃ j, i = j + 3 := ⟨i - 3, by omega⟩
            show _ = ((l.drop 3).take (l.length - 6) ++ [35, 45, 125])[j]?
            by_cases c3 : j < l.length - 6
            · rw [List.getElem?_append_left (by simp; omega), List.getElem?_take, if_pos c3, List.getElem?_drop, Nat.add_comm]
            · rw [List.getElem?_append_right (by simp; omega)]
              have e : ((l.drop 3).take (l.length - 6)).length = l.length - 6 := by simp; omega
              rw [e]
              rcases (by omega : j = l.length - 6 ∨ j = l.length - 5 ∨ j = l.length - 4) with c | c | c
              · rw [show j + 3 = l.length - 3 from by omega, hb, show j - (l.length - 6) = 0 from by omega]; rfl
              · rw [show j + 3 = l.length - 2 from by omega, h2.1, show j - (l.length - 6) = 1 from by omega]; rfl
              · rw [show j + 3 = l.length - 2 + 1 from by omega, h2.2, show j - (l.length - 6) = 2 from by omega]; rfl
    · rw [List.getElem?_eq_none (by omega), List.getElem?_eq_none (by rw [hl]; omega)]
  · rintro ⟨m, rfl⟩
    refine ⟨by simp, rfl, ?_⟩
    have e : (123 :: 45 :: 35 :: (m ++ [35, 45, 125])).length - 3 = m.length + 3 := by simp
    rw [e]
    show (m ++ [35, 45, 125])[m.length]? = some 35
    rw [List.getElem?_append_right (Nat.le_refl _)]; simp
end Go.Proofs.YthhlnahehpigeaaDoor
