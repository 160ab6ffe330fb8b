/- DERIVED. PLAIN: what is found as a literal is one by itself. -/
import Derived.Test.YtmgnpgbganjgfaaDoorQuoteQ
set_option linter.unusedSimpArgs false
set_option linter.unusedVariables false
namespace Go.Proofs.YtmgnpgbganjgfaaDoor

def RT.shift (r : RT) (j : Nat) : RT := ⟨r.e, j + r.till, r.out, r.gaps.map fun g => (j + g.1, j + g.2)⟩
theorem RT.shift_more (r : RT) (j i n : Nat) (c : Int) (g : Bool) : (r.more i n c g).shift j = (r.shift j).more (j + i) n c g := by
  unfold RT.more RT.shift
  simp only [RT.mk.injEq, true_and]
  cases g
  · simp
  · simp [Nat.add_assoc]
theorem readT_drop (n : Nat) : ∀ (l : List UInt8) (j i : Nat), l.length - (j + i) ≤ n → readT l (j + i) = (readT (l.drop j) i).shift j := by
  induction n with
  | zero =>
    intro l j i h
    rw [readT_end l _ (by omega), readT_end (l.drop j) _ (by rw [List.length_drop]; omega)]; rfl
  | succ n ih =>
    intro l j i h
    by_cases hi : j + i < l.length
    · have hg : (l.drop j)[i]? = l[j + i]? := List.getElem?_drop
      by_cases hq : l[j + i]? = some 34
      · rw [readT_quote l _ hq, readT_quote (l.drop j) i (by rw [hg]; exact hq)]
        unfold RT.shift
        simp [Nat.add_assoc]
      · have hd : (l.drop j).drop i = l.drop (j + i) := by rw [List.drop_drop]
        cases ho : oneP true (l.drop (j + i)) with
        | error e =>
          rw [readT_bad l _ e hi hq ho, readT_bad (l.drop j) i e (by rw [List.length_drop]; omega) (by rw [hg]; exact hq) (by rw [hd]; exact ho)]; rfl
        | ok p =>
          obtain ⟨c, k⟩ := p
          have hb := oneP_bd _ _ _ _ ho
          rw [readT_on l _ c k hi hq ho, readT_on (l.drop j) i c k (by rw [List.length_drop]; omega) (by rw [hg]; exact hq) (by rw [hd]; exact ho), RT.shift_more, hd, Nat.add_assoc, ih l j (i + k) (by omega)]
    · rw [readT_end l _ (by omega), readT_end (l.drop j) _ (by rw [List.length_drop]; omega)]; rfl
theorem RT.more_e (r : RT) (i n : Nat) (c : Int) (g : Bool) : (r.more i n c g).e = r.e := rfl
theorem RT.more_till (r : RT) (i n : Nat) (c : Int) (g : Bool) : (r.more i n c g).till = r.till := rfl
theorem readT_fine (n : Nat) : ∀ (l : List UInt8) (i : Nat), l.length - i ≤ n → (readT l i).e = 0 → i < (readT l i).till ∧ (readT l i).till ≤ l.length := by
  induction n with
  | zero => intro l i h he; rw [readT_end l _ (by omega)] at he; exact absurd he (by simp)
  | succ n ih =>
    intro l i h he
    by_cases hi : i < l.length
    · by_cases hq : l[i]? = some 34
      · rw [readT_quote l i hq]; exact ⟨Nat.lt_succ_self _, hi⟩
      · cases ho : oneP true (l.drop i) with
        | error e =>
          rw [readT_bad l i e hi hq ho] at he
          simp only at he
          subst he
          exfalso
          cases hd : l.drop i with
          | nil => rw [hd] at ho; simp [oneP_nil] at ho
          | cons b t =>
            rw [hd] at ho
            rw [oneP_cons] at ho
            unfold oneC at ho
            split at ho
            · split at ho
              · cases ho
              · split at ho
                · simp at ho
                · split at ho
                  · simp at ho
                  · cases ho
            · split at ho
              · simp at ho
              · cases ho
        | ok p =>
          obtain ⟨c, k⟩ := p
          have hb := oneP_bd _ _ _ _ ho
          rw [readT_on l i c k hi hq ho] at he ⊢
          rw [RT.more_e] at he
          rw [RT.more_till]
          have := ih l (i + k) (by omega) he
          omega
    · rw [readT_end l _ (by omega)] at he; exact absurd he (by simp)
theorem oneP_error (text : Bool) (l : List UInt8) (e : Int) (h : oneP text l = .error e) : e ≠ 0 := by
  rintro rfl
  cases l with
  | nil => simp [oneP_nil] at h
  | cons b t =>
    rw [oneP_cons] at h
    unfold oneC at h
    split at h
    · split at h
      · cases h
      · split at h
        · simp at h
        · split at h
          · simp at h
          · cases h
    · split at h
      · simp at h
      · cases h
theorem take_cut (l q : List UInt8) (T i : Nat) (h : i ≤ T) (hT : T ≤ l.length) : (l.take T ++ q).drop i = (l.drop i).take (T - i) ++ q := by
  rw [List.drop_append_of_le_length (by rw [List.length_take]; omega), List.drop_take]
theorem head_take (y q : List UInt8) (k : Nat) (hk : 0 < k) (hy : y ≠ []) : (y.take k ++ q).head? = y.head? := by
  cases y with
  | nil => exact absurd rfl hy
  | cons a y =>
    obtain ⟨m, rfl⟩ : ∃ m, k = m + 1 := ⟨k - 1, by omega⟩
    rfl
/-- One step, the text cut behind it. -/
theorem oneP_cut (text : Bool) (l q : List UInt8) (i n T : Nat) (c : Int) (h : oneP text (l.drop i) = .ok (c, n)) (h1 : i + n < T) (hT : T ≤ l.length) :
    oneP text ((l.take T ++ q).drop i) = .ok (c, n) ∧ (text = true → isGap ((l.take T ++ q).drop i) = isGap (l.drop i)) := by
  obtain ⟨b1, b2⟩ := oneP_bd _ _ _ _ h
  have hx : l.drop i = (l.drop i).take n ++ l.drop (i + n) := by rw [← List.drop_drop, List.take_append_drop]
  have hxl : ((l.drop i).take n).length = n := by rw [List.length_take]; omega
  have hz : (l.take T ++ q).drop i = (l.drop i).take n ++ ((l.drop (i + n)).take (T - (i + n)) ++ q) := by
    rw [take_cut _ _ _ _ (by omega) hT, ← List.append_assoc]
    congr 1
    have e : (l.drop i).take (T - i) = ((l.drop i).take n ++ l.drop (i + n)).take (T - i) := by rw [← hx]
    rw [e, List.take_append, hxl, List.take_of_length_le (by omega), show T - i - n = T - (i + n) from by omega]
  have hne : l.drop (i + n) ≠ [] := by
    intro e
    have := congrArg List.length e
    rw [List.length_drop] at this
    simp at this; omega
  have ha := oneP_ahead text ((l.drop i).take n) (l.drop (i + n)) ((l.drop (i + n)).take (T - (i + n)) ++ q) c (head_take _ _ _ (by omega) hne) (by intro e; rw [e] at hxl; simp at hxl; omega) (by rw [← hx, hxl]; exact h)
  rw [hxl, ← hz, ← hx] at ha
  exact ha
theorem readT_take (q : List UInt8) (n : Nat) : ∀ (l : List UInt8) (i : Nat), l.length - i ≤ n → (readT l i).e = 0 → readT (l.take (readT l i).till ++ q) i = readT l i := by
  induction n with
  | zero => intro l i h he; rw [readT_end l _ (by omega)] at he; exact absurd he (by simp)
  | succ n ih =>
    intro l i h he
    obtain ⟨f1, f2⟩ := readT_fine (n + 1) l i h he
    by_cases hi : i < l.length
    · have hgi : (l.take (readT l i).till ++ q)[i]? = l[i]? := by
        rw [List.getElem?_append_left (by rw [List.length_take]; omega), List.getElem?_take, if_pos f1]
      by_cases hq : l[i]? = some 34
      · rw [readT_quote (l.take (readT l i).till ++ q) i (by rw [hgi]; exact hq), readT_quote l i hq]
      · cases ho : oneP true (l.drop i) with
        | error e =>
          rw [readT_bad l i e hi hq ho] at he
          exact absurd he (oneP_error _ _ _ ho)
        | ok p =>
          obtain ⟨c, k⟩ := p
          have hb := oneP_bd _ _ _ _ ho
          have hon := readT_on l i c k hi hq ho
          have hte : (readT l i).till = (readT l (i + k)).till := by rw [hon]; rfl
          have he2 : (readT l (i + k)).e = 0 := by rw [hon] at he; exact he
          obtain ⟨g1, g2⟩ := readT_fine n l (i + k) (by omega) he2
          have hIH := ih l (i + k) (by omega) he2
          rw [hte] at hgi ⊢
          obtain ⟨c1, c2⟩ := oneP_cut true l q i k (readT l (i + k)).till c ho (by omega) g2
          rw [readT_on _ i c k (by rw [List.length_append, List.length_take]; omega) (by rw [hgi]; exact hq) c1, hIH, c2 rfl, hon]
    · omega
theorem readC_fine (l : List UInt8) (i : Nat) (h : (readC l i).e = 0) : ∃ c n, l[i]? ≠ some 39 ∧ oneP false (l.drop i) = .ok (c, n) ∧ l[i + n]? = some 39 ∧ readC l i = ⟨0, i + n + 1, [c], []⟩ := by
  unfold readC at h ⊢
  by_cases h1 : l[i]? = some 39
  · rw [if_pos h1] at h; exact absurd h (by simp)
  · rw [if_neg h1] at h ⊢
    cases ho : oneP false (l.drop i) with
    | error e => rw [ho] at h; exact absurd h (oneP_error _ _ _ ho)
    | ok p =>
      obtain ⟨c, n⟩ := p
      rw [ho] at h
      simp only at h ⊢
      by_cases h2 : l[i + n]? = some 39
      · rw [if_pos h2]; exact ⟨c, n, h1, rfl, h2, rfl⟩
      · rw [if_neg h2] at h; exact absurd h (by simp)
theorem readC_mk (l : List UInt8) (i : Nat) (c : Int) (n : Nat) (h1 : l[i]? ≠ some 39) (ho : oneP false (l.drop i) = .ok (c, n)) (h2 : l[i + n]? = some 39) : readC l i = ⟨0, i + n + 1, [c], []⟩ := by
  unfold readC
  rw [if_neg h1, ho]
  simp only
  rw [if_pos h2]
/-- A literal by itself: a text. -/
theorem alone_text (l : List UInt8) (a : Nat) (h1 : l[a]? = some 34) (he : (readT l (a + 1)).e = 0) :
    readP ((l.take (readT l (a + 1)).till).drop a) 0 = (14, readT ((l.take (readT l (a + 1)).till).drop a) 1) ∧ (readT ((l.take (readT l (a + 1)).till).drop a) 1).shift a = readT l (a + 1) := by
  obtain ⟨f1, f2⟩ := readT_fine _ l (a + 1) (Nat.le_refl _) he
  have ht := readT_take [] _ l (a + 1) (Nat.le_refl _) he
  rw [List.append_nil] at ht
  generalize hT : (readT l (a + 1)).till = T at *
  have hc0 : ((l.take T).drop a)[0]? = some 34 := by rw [List.getElem?_drop, List.getElem?_take, if_pos (by omega)]; exact h1
  have hcl : ((l.take T).drop a).length = T - a := by rw [List.length_drop, List.length_take]; omega
  refine ⟨?_, ?_⟩
  · unfold readP
    rw [if_pos ⟨by omega, by omega, hc0⟩]
    rfl
  · rw [← readT_drop _ (l.take T) a 1 (Nat.le_refl _), ht]
/-- A literal by itself: a character. -/
theorem alone_char (l : List UInt8) (a : Nat) (h1 : l[a]? = some 39) (he : (readC l (a + 1)).e = 0) :
    a < (readC l (a + 1)).till ∧ (readC l (a + 1)).till ≤ l.length ∧ ∃ c, readP ((l.take (readC l (a + 1)).till).drop a) 0 = (13, ⟨0, (readC l (a + 1)).till - a, [c], []⟩) ∧ readC l (a + 1) = ⟨0, (readC l (a + 1)).till, [c], []⟩ := by
  obtain ⟨c, n, g1, g2, g3, g4⟩ := readC_fine l (a + 1) he
  obtain ⟨b1, b2⟩ := oneP_bd _ _ _ _ g2
  have hlt := (List.getElem?_eq_some_iff.1 g3).1
  rw [g4]
  simp only
  refine ⟨by omega, by omega, c, ?_, rfl⟩
  have hcl : ((l.take (a + 1 + n + 1)).drop a).length = n + 2 := by rw [List.length_drop, List.length_take]; omega
  have hg : ∀ k, k < n + 2 → ((l.take (a + 1 + n + 1)).drop a)[k]? = l[a + k]? := fun k hk => by rw [List.getElem?_drop, List.getElem?_take, if_pos (by omega)]
  have hc0 : ((l.take (a + 1 + n + 1)).drop a)[0]? = some 39 := (hg 0 (by omega)).trans h1
  obtain ⟨k1, _⟩ := oneP_cut false l [] (a + 1) n (a + 1 + n + 1) c g2 (by omega) (by omega)
  rw [List.append_nil] at k1
  unfold readP
  rw [if_neg (by rw [show (0 : Int).toNat = 0 from rfl, hc0]; simp), if_pos ⟨by omega, by omega, hc0⟩]
  rw [show (0 : Int).toNat + 1 = 1 from rfl]
  rw [readC_mk _ 1 c n (by rw [hg 1 (by omega)]; exact g1) (by rw [List.drop_drop]; exact k1) (by rw [hg (1 + n) (by omega), ← Nat.add_assoc]; exact g3)]
  congr 2
  omega
/-- The law of QuoteAlone, in plain words. -/
theorem alone_plain (l : List UInt8) (i : Int) (he : (readP l i).2.e = 0) (hk : (readP l i).1 ≠ 0) :
    ∃ a e : Nat, i = a ∧ (readP l i).2.till = e ∧ a < e ∧ e ≤ l.length ∧ wholeE ((l.take e).drop a) = 0 ∧ (readP ((l.take e).drop a) 0).1 = (readP l i).1 ∧ (readP ((l.take e).drop a) 0).2.till = e - a ∧ (readP ((l.take e).drop a) 0).2.e = 0 ∧
      ((readP l i).1 = 13 → (readP ((l.take e).drop a) 0).2.out.length = 1) := by
  by_cases h1 : 0 ≤ i ∧ i < l.length ∧ l[i.toNat]? = some 34
  · obtain ⟨a, rfl⟩ := Int.eq_ofNat_of_zero_le h1.1
    rw [Int.toNat_natCast] at h1
    have hr : readP l a = (14, readT l (a + 1)) := by unfold readP; rw [Int.toNat_natCast, if_pos h1]
    rw [hr] at he hk ⊢
    simp only at he ⊢
    obtain ⟨f1, f2⟩ := readT_fine _ l (a + 1) (Nat.le_refl _) he
    obtain ⟨g1, g2⟩ := alone_text l a h1.2.2 he
    refine ⟨a, (readT l (a + 1)).till, rfl, rfl, by omega, f2, ?_⟩
    have hcl : ((l.take (readT l (a + 1)).till).drop a).length = (readT l (a + 1)).till - a := by rw [List.length_drop, List.length_take]; omega
    have he2 : (readT ((l.take (readT l (a + 1)).till).drop a) 1).e = 0 := by
      have := congrArg RT.e g2
      rw [he] at this; exact this
    have ht2 : a + (readT ((l.take (readT l (a + 1)).till).drop a) 1).till = (readT l (a + 1)).till := congrArg RT.till g2
    unfold wholeE
    rw [g1]
    simp only
    rw [he2, hcl]
    refine ⟨?_, by trivial, by omega, by first | trivial | rfl, fun h => by simp at h⟩
    rw [if_neg (by simp), if_neg (by omega)]
  · by_cases h2 : 0 ≤ i ∧ i < l.length ∧ l[i.toNat]? = some 39
    · obtain ⟨a, rfl⟩ := Int.eq_ofNat_of_zero_le h2.1
      rw [Int.toNat_natCast] at h1 h2
      have hr : readP l a = (13, readC l (a + 1)) := by unfold readP; rw [Int.toNat_natCast, if_neg h1, if_pos h2]
      rw [hr] at he hk ⊢
      simp only at he ⊢
      obtain ⟨f1, f2, c, g1, g2⟩ := alone_char l a h2.2.2 he
      refine ⟨a, (readC l (a + 1)).till, rfl, rfl, f1, f2, ?_⟩
      have hcl : ((l.take (readC l (a + 1)).till).drop a).length = (readC l (a + 1)).till - a := by rw [List.length_drop, List.length_take]; omega
      unfold wholeE
      rw [g1]
      simp only
      rw [hcl]
      refine ⟨?_, by first | trivial | rfl, by first | trivial | rfl, by first | trivial | rfl, fun _ => rfl⟩
      rw [if_neg (by simp), if_neg (by omega)]
    · exfalso
      apply hk
      unfold readP
      rw [if_neg h1, if_neg h2]
end Go.Proofs.YtmgnpgbganjgfaaDoor
