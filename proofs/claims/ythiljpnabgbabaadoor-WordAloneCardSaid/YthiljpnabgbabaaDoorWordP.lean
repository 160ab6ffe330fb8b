/- DERIVED. PLAIN: what is found as a word is that word by itself, and with a blank behind it. -/
import Derived.Test.YthiljpnabgbabaaDoorWord
set_option linter.unusedSimpArgs false
set_option linter.unusedVariables false
namespace Go.Proofs.YthiljpnabgbabaaDoor

theorem dec_keep (l t : List UInt8) (n : Nat) (h : l ≠ []) (hok : okRune l = true) (hn : (dec l).2 ≤ n) : dec (l.take n ++ t) = dec l := by
  have hd := dec_len l h
  have e : l.take n ++ t = l.take (dec l).2 ++ ((l.drop (dec l).2).take (n - (dec l).2) ++ t) := by
    rw [← List.append_assoc]
    congr 1
    obtain ⟨m, rfl⟩ : ∃ m, n = (dec l).2 + m := ⟨n - (dec l).2, by omega⟩
    rw [Nat.add_sub_cancel_left, List.take_add]
  have hne : l.take (dec l).2 ≠ [] := by
    intro e
    have := congrArg List.length e
    rw [List.length_take] at this
    simp only [List.length_nil] at this
    omega
  have ht := dec_take l h
  rw [e, dec_append _ _ hne (by unfold okRune at *; rw [ht]; exact hok), ht]

theorem ok_of {p : Nat → Bool} (hp : p 65533 = false) {l : List UInt8} (h : p (dec l).1 = true) : okRune l = true := by
  unfold okRune
  by_cases e : (dec l).1 = 65533
  · rw [e, hp] at h; cases h
  · simp [e]

/-- A row of runes, with whatever behind it. -/
theorem span_cut (p : Nat → Bool) (hp : p 65533 = false) : ∀ (n : Nat) (l t : List UInt8), l.length ≤ n → span p (l.take (span p l) ++ t) = span p l + span p t
  | 0, l, t, h => by
    obtain rfl : l = [] := List.eq_nil_of_length_eq_zero (by omega)
    simp [span_nil]
  | n + 1, l, t, h => by
    by_cases hl : l = []
    · subst hl; simp [span_nil]
    have hd := dec_len l hl
    by_cases hc : p (dec l).1 = true
    · have hy := span_yes p l hl hc
      have hle := span_le' p (l.drop (dec l).2)
      rw [List.length_drop] at hle
      have hk := dec_keep l t (span p l) hl (ok_of hp hc) (by omega)
      have hne : l.take (span p l) ++ t ≠ [] := by
        intro e
        have := congrArg List.length e
        rw [List.length_append, List.length_take] at this
        simp only [List.length_nil] at this
        omega
      rw [span_yes p _ hne (by rw [hk]; exact hc), hk, List.drop_append_of_le_length (by rw [List.length_take]; omega), List.drop_take, hy, Nat.add_sub_cancel_left,
        span_cut p hp n _ t (by rw [List.length_drop]; omega)]
      omega
    · rw [span_no p l (by simpa using hc)]
      simp
theorem span_cut' (p : Nat → Bool) (hp : p 65533 = false) (l t : List UInt8) (ht : span p t = 0) : span p (l.take (span p l) ++ t) = span p l := by
  rw [span_cut p hp _ l t (Nat.le_refl _), ht]; rfl

theorem dec_byte (b : UInt8) (t : List UInt8) (h : b.toNat < 128) : dec (b :: t) = (b.toNat, 1) := dec_ascii _ (by simpa using h)
theorem span_head (p : Nat → Bool) (b : UInt8) (t : List UInt8) (h : b.toNat < 128) (hp : p b.toNat = false) : span p (b :: t) = 0 := span_no p _ (by rw [dec_byte b t h]; exact hp)

theorem in65533 : inName 65533 = false := by decide +kernel
theorem sy65533 : isCls 5 65533 = false := by decide +kernel

/-- What may stand behind a word of kind k. -/
def After (k : Int) (t : List UInt8) : Prop := span inName t = 0 ∧ (k = 1 ∨ k = 2 ∨ k = 3 ∨ k = 4 ∨ k = 9 ∨ k = 15 ∨ span (isCls 5) t = 0)

theorem plainW_cut (l t : List UInt8) (hk : (plainW l).1 ≠ 0) (ht : After (plainW l).1 t) : plainW (l.take (plainW l).2 ++ t) = plainW l := by
  have hl : l ≠ [] := by
    rintro rfl
    exact hk rfl
  have hd := dec_len l hl
  have hfc : ∀ X : List UInt8, X ≠ [] → dec X = dec l → firstC X = firstC l := fun X hX he => by
    unfold firstC; rw [if_neg hX, if_neg hl, he]
  have hne : ∀ n : Nat, 1 ≤ n → l.take n ++ t ≠ [] := fun n hn e => by
    have := congrArg List.length e
    rw [List.length_append, List.length_take] at this
    simp only [List.length_nil] at this
    omega
  have hf : firstC l = cls (dec l).1 := by unfold firstC; rw [if_neg hl]
  by_cases h6 : firstC l = 6
  · have hp : plainW l = (15, 1) := by unfold plainW; rw [if_pos h6]
    rw [hp]
    have hc : cls (dec l).1 = 6 := by rw [← hf]; exact h6
    have hsm : (dec l).1 < 128 := by
      false_or_by_contra
      revert hc
      unfold cls
      (repeat' split) <;> first | omega | (intro; omega)
    have h1 := (dec_small l hsm).2
    have hok : okRune l = true := by unfold okRune; have : ¬ (dec l).1 = 65533 := by omega
                                     simp [this]
    have hX := hfc _ (hne 1 (Nat.le_refl _)) (dec_keep l t 1 hl hok (by omega))
    unfold plainW
    rw [if_pos (by rw [hX]; exact h6)]
  by_cases h5 : firstC l = 5
  · have hp : plainW l = (symK (l.take (span (isCls 5) l)), span (isCls 5) l) := by unfold plainW; rw [if_neg h6, if_pos h5]
    have hc : isCls 5 (dec l).1 = true := by unfold isCls; rw [← hf, h5]; rfl
    have hs0 : span (isCls 5) t = 0 := by
      rcases ht.2 with h | h | h | h | h | h | h
      case inr.inr.inr.inr.inr.inr => exact h
      all_goals
        exfalso
        rw [hp] at h
        revert h
        unfold symK
        simp only
        (repeat' split) <;> simp
    have hy := span_yes _ l hl hc
    have hX := hfc _ (hne (span (isCls 5) l) (by omega)) (dec_keep l t _ hl (ok_of sy65533 hc) (by omega))
    have hle := span_le' (isCls 5) l
    rw [hp]
    simp only
    unfold plainW
    rw [if_neg (by rw [hX]; exact h6), if_pos (by rw [hX]; exact h5), span_cut' _ sy65533 l t hs0, List.take_left' (by rw [List.length_take]; omega)]
  have hin : firstC l = 2 ∨ firstC l = 3 → inName (dec l).1 = true := fun h => by
    unfold inName; rw [← hf]; rcases h with h | h <;> rw [h] <;> rfl
  by_cases h3 : firstC l = 3
  · have hp : plainW l = (2, nameLen l) := by unfold plainW; rw [if_neg h6, if_neg h5, if_pos h3]
    have hc := hin (.inr h3)
    have hy := span_yes _ l hl hc
    have hX := hfc _ (hne (span inName l) (by omega)) (dec_keep l t _ hl (ok_of in65533 hc) (by omega))
    rw [hp]
    simp only
    unfold plainW nameLen
    rw [if_neg (by rw [hX]; exact h6), if_neg (by rw [hX]; exact h5), if_pos (by rw [hX]; exact h3), span_cut' _ in65533 l t ht.1]
  by_cases h2 : firstC l = 2
  · have hp : plainW l = ((if resv (l.take (nameLen l)) then 9 else 1), nameLen l) := by unfold plainW; rw [if_neg h6, if_neg h5, if_neg h3, if_pos h2]
    have hc := hin (.inl h2)
    have hy := span_yes _ l hl hc
    have hX := hfc _ (hne (span inName l) (by omega)) (dec_keep l t _ hl (ok_of in65533 hc) (by omega))
    have hle := span_le' inName l
    rw [hp]
    simp only
    unfold plainW nameLen
    rw [if_neg (by rw [hX]; exact h6), if_neg (by rw [hX]; exact h5), if_neg (by rw [hX]; exact h3), if_pos (by rw [hX]; exact h2), span_cut' _ in65533 l t ht.1, List.take_left' (by rw [List.length_take]; omega)]
  · exfalso
    apply hk
    unfold plainW; rw [if_neg h6, if_neg h5, if_neg h3, if_neg h2]

/-- The text up to a place, with what may stand behind it, is gone through like the text itself up to there. -/
def Inv (l : List UInt8) (k : Int) (n a : Nat) : Prop :=
  n ≤ l.length ∧ ∀ t, After k t → scanW (l.take n ++ t) = goOn (l.take n ++ t).length (l.take n ++ t) k n a
/-- What a qualified word was made of. -/
def Lst (l : List UInt8) (k : Int) (n a : Nat) : Prop :=
  qual k → ∃ k' a', (k' = 2 ∨ k' = 4) ∧ 1 ≤ a ∧ Inv l k' (a - 1) a' ∧ pointAt l (a - 1) = true ∧ qualK (plainW (l.drop a)).1 = k ∧ n = a + (plainW (l.drop a)).2

theorem after_kind {k k' : Int} {t : List UInt8} (h : After k t) (hk : (k = 3 ∧ k' = 1) ∨ (k = 4 ∧ k' = 2) ∨ (k = 7 ∧ k' = 5) ∨ (k = 8 ∧ k' = 6)) : After k' t := by
  refine ⟨h.1, ?_⟩
  rcases h.2 with h | h | h | h | h | h | h <;> first | omega | (right; right; right; right; right; right; exact h)
theorem qualK_inv {k : Int} (h : qualK k ≠ 0) : (qualK k = 3 ∧ k = 1) ∨ (qualK k = 4 ∧ k = 2) ∨ (qualK k = 7 ∧ k = 5) ∨ (qualK k = 8 ∧ k = 6) := by
  unfold qualK at *
  revert h
  (repeat' split) <;> simp_all

theorem inv_step {l : List UInt8} {k : Int} {n a : Nat} (h : Inv l k n a) (hc : (k = 2 ∨ k = 4) ∧ pointAt l n = true ∧ qualK (plainW (l.drop (n + 1))).1 ≠ 0) :
    Inv l (qualK (plainW (l.drop (n + 1))).1) (n + 1 + (plainW (l.drop (n + 1))).2) (n + 1) := by
  have hlt := point_lt hc.2.1
  have hle := plainW_le (l.drop (n + 1))
  rw [List.length_drop] at hle
  have hq := qualK_inv hc.2.2
  generalize hpw : plainW (l.drop (n + 1)) = pw at *
  obtain ⟨pk, m⟩ := pw
  simp only at *
  refine ⟨by omega, fun t ht => ?_⟩
  have hpt : l.getD n 0 = 46 := by
    have := hc.2.1
    unfold pointAt at this
    simp only [Bool.and_eq_true, beq_iff_eq] at this
    exact this.1
  have hsplit : l.take (n + 1 + m) = l.take n ++ (46 :: (l.drop (n + 1)).take m) := by
    rw [List.take_add, List.take_succ_eq_append_getElem hlt, List.append_assoc, List.singleton_append]
    congr 2
    rw [← hpt, List.getD_eq_getElem?_getD, List.getElem?_eq_getElem hlt]; rfl
  have e : l.take (n + 1 + m) ++ t = l.take n ++ (46 :: (l.drop (n + 1)).take m ++ t) := by rw [hsplit, List.append_assoc]
  have hlen : (l.take n).length = n := by rw [List.length_take]; omega
  have hA : After k (46 :: (l.drop (n + 1)).take m ++ t) := ⟨span_head _ 46 _ (by decide) (by decide +kernel), by omega⟩
  have h1 := h.2 _ hA
  rw [← e] at h1
  rw [h1]
  have hd : (l.take (n + 1 + m) ++ t).drop (n + 1) = (l.drop (n + 1)).take m ++ t := by
    rw [e, List.drop_append, hlen, Nat.add_sub_cancel_left, List.drop_eq_nil_of_le (by omega)]
    rfl
  have hpc : plainW ((l.take (n + 1 + m) ++ t).drop (n + 1)) = (pk, m) := by
    rw [hd]
    have := plainW_cut (l.drop (n + 1)) t (by rw [hpw]; intro e0; simp only at e0; subst e0; exact hc.2.2 rfl) (by rw [hpw]; exact after_kind ht hq)
    rw [hpw] at this
    exact this
  have hp' : pointAt (l.take (n + 1 + m) ++ t) n = true := by
    unfold pointAt
    rw [e]
    simp only [Bool.and_eq_true, beq_iff_eq, decide_eq_true_eq]
    refine ⟨?_, by simp; omega⟩
    rw [List.getD_eq_getElem?_getD, List.getElem?_append_right (by omega), hlen, Nat.sub_self]
    rfl
  rw [goOn_step _ k n a ⟨hc.1, hp', by rw [hpc]; exact hc.2.2⟩, hpc]

theorem goOn_inv : ∀ (f : Nat) (l : List UInt8) (k : Int) (n a : Nat), Inv l k n a → Lst l k n a →
    Inv l (goOn f l k n a).1 (goOn f l k n a).2.1 (goOn f l k n a).2.2 ∧ Lst l (goOn f l k n a).1 (goOn f l k n a).2.1 (goOn f l k n a).2.2
  | 0, _, _, _, _, h, h' => ⟨h, h'⟩
  | f + 1, l, k, n, a, h, h' => by
    unfold goOn
    split
    · rename_i hc
      refine goOn_inv f l _ _ _ (inv_step h hc) fun _ => ⟨k, a, hc.1, by omega, ?_, ?_, rfl, rfl⟩
      · rw [Nat.add_sub_cancel]; exact h
      · rw [Nat.add_sub_cancel]; exact hc.2.1
    · exact ⟨h, h'⟩

theorem inv_start (l : List UInt8) (hk : (plainW l).1 ≠ 0) : Inv l (plainW l).1 (plainW l).2 0 ∧ Lst l (plainW l).1 (plainW l).2 0 := by
  refine ⟨⟨plainW_le l, fun t ht => ?_⟩, fun hq => ?_⟩
  · unfold scanW
    rw [plainW_cut l t hk ht]
  · have := plainW_kind l
    unfold qual at hq
    omega

theorem scan_zero (l : List UInt8) (h : (plainW l).1 = 0) : scanW l = ((plainW l).1, (plainW l).2, 0) := by
  unfold scanW
  exact goOn_end _ _ _ _ _ (by rintro ⟨h1, _⟩; omega)
theorem scan_inv (l : List UInt8) (hk : (scanW l).1 ≠ 0) : Inv l (scanW l).1 (scanW l).2.1 (scanW l).2.2 ∧ Lst l (scanW l).1 (scanW l).2.1 (scanW l).2.2 := by
  have h0 : (plainW l).1 ≠ 0 := fun e => hk (by rw [scan_zero l e]; exact e)
  obtain ⟨h1, h2⟩ := inv_start l h0
  exact goOn_inv _ _ _ _ _ h1 h2

/-- What stands behind a word: nothing, or a blank. -/
def Stop (t : List UInt8) : Prop := t = [] ∨ ∃ r, t = 32 :: r
theorem stop_after {t : List UInt8} (h : Stop t) (k : Int) : After k t := by
  rcases h with rfl | ⟨r, rfl⟩
  · exact ⟨span_nil _, by right; right; right; right; right; right; exact span_nil _⟩
  · refine ⟨span_head _ 32 _ (by decide) (by decide +kernel), ?_⟩
    right; right; right; right; right; right
    exact span_head _ 32 _ (by decide) (by decide +kernel)
theorem stop_point {l t : List UInt8} {n : Nat} (h : Stop t) (hn : n ≤ l.length) : pointAt (l.take n ++ t) n = false := by
  have hlen : (l.take n).length = n := by rw [List.length_take]; omega
  unfold pointAt
  rcases h with rfl | ⟨r, rfl⟩
  · rw [List.append_nil, hlen]; simp
  · rw [List.getD_eq_getElem?_getD, List.getElem?_append_right (by omega), hlen, Nat.sub_self]
    rfl

/-- A word that is found is that word by itself, and with a blank behind it. -/
theorem scan_cut (l t : List UInt8) (hk : (scanW l).1 ≠ 0) (ht : Stop t) : scanW (l.take (scanW l).2.1 ++ t) = scanW l := by
  obtain ⟨h, _⟩ := scan_inv l hk
  rw [h.2 t (stop_after ht _), goOn_end _ _ _ _ _ (by rintro ⟨_, h1, _⟩; rw [stop_point ht h.1] at h1; cases h1)]

theorem kind_of_scan (l : List UInt8) (hk : (scanW l).1 ≠ 0) : kindW (l.take (scanW l).2.1) = (scanW l).1 := by
  have h := scan_cut l [] hk (.inl rfl)
  rw [List.append_nil] at h
  unfold kindW
  rw [h, if_pos (by rw [List.length_take]; have := scanW_le l; omega)]

theorem scan_of_kind (l : List UInt8) (hk : kindW l ≠ 0) : (scanW l).1 = kindW l ∧ (scanW l).2.1 = l.length := by
  unfold kindW at *
  split at hk
  · rename_i h; exact ⟨by rw [if_pos h], h⟩
  · exact absurd rfl hk

/-- The parts of a qualified word. -/
theorem parts (l : List UInt8) (hq : qual (kindW l)) :
    2 ≤ (scanW l).2.2 ∧ (scanW l).2.2 ≤ l.length ∧ l = l.take ((scanW l).2.2 - 1) ++ (46 :: l.drop (scanW l).2.2) ∧
    (kindW (l.take ((scanW l).2.2 - 1)) = 2 ∨ kindW (l.take ((scanW l).2.2 - 1)) = 4) ∧
    ((kindW l = 3 ∧ kindW (l.drop (scanW l).2.2) = 1) ∨ (kindW l = 4 ∧ kindW (l.drop (scanW l).2.2) = 2) ∨ (kindW l = 7 ∧ kindW (l.drop (scanW l).2.2) = 5) ∨ (kindW l = 8 ∧ kindW (l.drop (scanW l).2.2) = 6)) := by
  obtain ⟨e1, e2⟩ := scan_of_kind l (by unfold qual at hq; omega)
  have hq' : qual (scanW l).1 := by rw [e1]; exact hq
  obtain ⟨_, hL⟩ := scan_inv l (by unfold qual at hq'; omega)
  obtain ⟨k', a', hk', ha, hI, hp, hqk, hn⟩ := hL hq'
  generalize scanW l = R at *
  obtain ⟨k, n, a⟩ := R
  simp only at *
  subst e2
  have hlt := point_lt hp
  have hle := plainW_le (l.drop a)
  have hpt : l.getD (a - 1) 0 = 46 := by
    unfold pointAt at hp
    simp only [Bool.and_eq_true, beq_iff_eq] at hp
    exact hp.1
  have hsp : l = l.take (a - 1) ++ (46 :: l.drop a) := by
    conv => lhs; rw [← List.take_append_drop (a - 1) l]
    congr 1
    rw [List.drop_eq_getElem_cons hlt, show a - 1 + 1 = a from by omega]
    congr 1
    rw [← hpt, List.getD_eq_getElem?_getD, List.getElem?_eq_getElem hlt]; rfl
  have hkq : kindW (l.take (a - 1)) = k' := by
    have h := hI.2 [] (stop_after (.inl rfl) _)
    rw [List.append_nil] at h
    have hpf : pointAt (l.take (a - 1)) (a - 1) = false := by have := stop_point (l := l) (t := []) (.inl rfl) hI.1; rw [List.append_nil] at this; exact this
    rw [goOn_end _ _ _ _ _ (by rintro ⟨_, h1, _⟩; rw [hpf] at h1; cases h1)] at h
    unfold kindW
    rw [h, if_pos (by simp only [List.length_take]; omega)]
  have hkn : kindW (l.drop a) = (plainW (l.drop a)).1 := by
    have hlen : (l.drop a).length = l.length - a := List.length_drop
    have hs : scanW (l.drop a) = ((plainW (l.drop a)).1, (plainW (l.drop a)).2, 0) := by
      unfold scanW
      exact goOn_end _ _ _ _ _ (by rintro ⟨_, h1, _⟩; have := point_lt h1; omega)
    unfold kindW
    rw [hs, if_pos (by simp only; omega)]
  have hqi := qualK_inv (k := (plainW (l.drop a)).1) (by rw [hqk]; unfold qual at hq'; omega)
  rw [hqk, ← hkn, e1] at hqi
  refine ⟨?_, by omega, hsp, by rw [hkq]; exact hk', hqi⟩
  false_or_by_contra
  have h1 : a - 1 = 0 := by omega
  rw [h1] at hkq
  have : kindW (l.take 0) = 0 := rfl
  rw [this] at hkq
  omega
end Go.Proofs.YthiljpnabgbabaaDoor
