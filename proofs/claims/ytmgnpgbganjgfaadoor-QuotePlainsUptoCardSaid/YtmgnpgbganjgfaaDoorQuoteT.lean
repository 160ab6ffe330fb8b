/- DERIVED. PLAIN: the gaps made narrow byte by byte, as the document does. -/
import Derived.Test.YtmgnpgbganjgfaaDoorQuoteS
set_option linter.unusedSimpArgs false
set_option linter.unusedVariables false
namespace Go.Proofs.YtmgnpgbganjgfaaDoor

/-- What the document makes of the rest of a text; none: an escape is none. -/
def plainR (l : List UInt8) (i : Nat) : Option (List UInt8) :=
  if h : i < l.length then
    if l[i]? = some 92 then
      if 0 < gapP (l.drop (i + 1)) then (plainR l (i + 1 + gapP (l.drop (i + 1)))).map ([92, 32, 92] ++ ·)
      else match escP (l.drop (i + 1)) with
        | none => none
        | some (_, n) => (plainR l (i + n + 1)).map ((l.drop i).take (n + 1) ++ ·)
    else (plainR l (i + 1)).map ((l.drop i).take 1 ++ ·)
  else some []
termination_by l.length - i
theorem plainR_end (l : List UInt8) (i : Nat) (h : l.length ≤ i) : plainR l i = some [] := by rw [plainR, dif_neg (by omega)]
theorem plainR_gap (l : List UInt8) (i : Nat) (hi : i < l.length) (h : l[i]? = some 92) (hg : 0 < gapP (l.drop (i + 1))) : plainR l i = (plainR l (i + 1 + gapP (l.drop (i + 1)))).map ([92, 32, 92] ++ ·) := by
  rw [plainR, dif_pos hi, if_pos h, if_pos hg]
theorem plainR_esc (l : List UInt8) (i : Nat) (hi : i < l.length) (h : l[i]? = some 92) (hg : gapP (l.drop (i + 1)) = 0) (v : Int) (n : Nat) (he : escP (l.drop (i + 1)) = some (v, n)) : plainR l i = (plainR l (i + n + 1)).map ((l.drop i).take (n + 1) ++ ·) := by
  rw [plainR, dif_pos hi, if_pos h, if_neg (by omega), he]
theorem plainR_none (l : List UInt8) (i : Nat) (hi : i < l.length) (h : l[i]? = some 92) (hg : gapP (l.drop (i + 1)) = 0) (he : escP (l.drop (i + 1)) = none) : plainR l i = none := by
  rw [plainR, dif_pos hi, if_pos h, if_neg (by omega), he]
theorem plainR_on (l : List UInt8) (i : Nat) (hi : i < l.length) (h : l[i]? ≠ some 92) : plainR l i = (plainR l (i + 1)).map ((l.drop i).take 1 ++ ·) := by
  rw [plainR, dif_pos hi, if_neg h]
theorem plainR_run (l : List UInt8) (n : Nat) : ∀ i, i + n ≤ l.length → (∀ k, k < n → l[i + k]? ≠ some 92) → plainR l i = (plainR l (i + n)).map ((l.drop i).take n ++ ·) := by
  induction n with
  | zero => intro i _ _; rw [List.take_zero]; simp
  | succ n ih =>
    intro i hi h
    rw [plainR_on l i (by omega) (by have := h 0 (by omega); rwa [Nat.add_zero] at this), ih (i + 1) (by omega) (fun k hk => by have := h (k + 1) (by omega); rwa [show i + (k + 1) = i + 1 + k from by omega] at this), Option.map_map, show i + 1 + n = i + (n + 1) from by omega]
    congr 1
    funext r
    show (l.drop i).take 1 ++ ((l.drop (i + 1)).take n ++ r) = _
    rw [← List.append_assoc]
    congr 1
    rw [← List.drop_drop, Nat.add_comm n 1, List.take_add]
/-- A step that is no gap. -/
theorem plainR_step (text : Bool) (l : List UInt8) (i : Nat) (c : Int) (n : Nat) (ho : oneP text (l.drop i) = .ok (c, n)) (hg : isGap (l.drop i) = false) : plainR l i = (plainR l (i + n)).map ((l.drop i).take n ++ ·) := by
  obtain ⟨b1, b2⟩ := oneP_bd _ _ _ _ ho
  rw [List.length_drop] at b2
  have hi : i < l.length := by omega
  have hd := List.drop_eq_getElem_cons hi
  generalize hb : l[i] = b at *
  have hgi : l[i]? = some b := by rw [List.getElem?_eq_getElem hi, hb]
  rw [hd] at ho hg
  rw [oneP_cons] at ho
  unfold oneC at ho
  by_cases hb92 : b = 92
  · rw [if_pos hb92] at ho
    have hgp : gapP (l.drop (i + 1)) = 0 := by
      simp only [isGap_cons] at hg
      rw [decide_eq_true hb92, Bool.true_and, decide_eq_false_iff_not] at hg
      omega
    rw [if_neg (by omega)] at ho
    cases he : escP (l.drop (i + 1)) with
    | none => rw [he] at ho; cases ho
    | some p =>
      obtain ⟨v, k⟩ := p
      rw [he] at ho
      simp only at ho
      split at ho
      · cases ho
      · injection ho with ho
        injection ho with _ h2
        subst h2
        rw [plainR_esc l i hi (by rw [hgi, hb92]) hgp v k he]
        rfl
  · rw [if_neg hb92] at ho
    have hbd : badC (dec (b :: l.drop (i + 1))) = false := by
      cases hq : badC (dec (b :: l.drop (i + 1)))
      · rfl
      · rw [hq, if_pos rfl] at ho; cases ho
    rw [hbd, if_neg (by simp)] at ho
    injection ho with ho
    injection ho with _ h2
    apply plainR_run l n i (by omega)
    intro k hk e
    by_cases hh : 128 ≤ ((b :: l.drop (i + 1)).getD 0 0).toNat
    · have := dec_high (b :: l.drop (i + 1)) hh k (by omega)
      rw [← hd, getD_drop, List.getD_eq_getElem?_getD, e] at this
      exact absurd this (by decide)
    · have hda := dec_ascii (b :: l.drop (i + 1)) (by omega)
      rw [hda] at h2
      simp only at h2
      have hk0 : k = 0 := by omega
      subst hk0
      rw [Nat.add_zero, hgi] at e
      injection e with e
      exact hb92 e
theorem plainR_T (n : Nat) : ∀ (l : List UInt8) (i : Nat), l.length - i ≤ n → (readT l i).e = 0 → (readT l i).till = l.length → plainR l i = some (plT l i) := by
  induction n with
  | zero => intro l i h he; rw [readT_end l _ (by omega)] at he; exact absurd he (by simp)
  | succ n ih =>
    intro l i h he ht
    by_cases hi : i < l.length
    · by_cases hq : l[i]? = some 34
      · rw [readT_quote l i hq] at ht
        simp only at ht
        obtain ⟨h1, h2⟩ := List.getElem?_eq_some_iff.1 hq
        rw [plT_quote l i hq, plainR_on l i hi (by rw [hq]; decide), plainR_end l _ (by omega), List.drop_eq_getElem_cons h1, h2]
        rfl
      · obtain ⟨c, k, ho, h1, h2, hon, he2, hte⟩ := readT_step l i hi hq he
        rw [plT_on l i c k hi hq ho]
        have hIH := ih l (i + k) (by omega) he2 (by rw [hte]; exact ht)
        cases hgp : isGap (l.drop i)
        · rw [plainR_step true l i c k ho hgp, hIH, if_neg (by simp)]; rfl
        · obtain ⟨_, hk⟩ := isGap_gap true (l.drop i) c k ho hgp rfl
          rw [List.tail_drop] at hk
          have h92 := gap_head _ hgp
          rw [drop_head] at h92
          have hg0 : 0 < gapP (l.drop (i + 1)) := by
            cases hd : l.drop i with
            | nil => rw [hd] at hgp; cases hgp
            | cons b t =>
              rw [hd] at hgp
              simp only [isGap_cons] at hgp
              simp only [Bool.and_eq_true, decide_eq_true_eq] at hgp
              have := congrArg List.tail hd
              rw [List.tail_drop] at this
              rw [this]; exact hgp.2
          rw [plainR_gap l i hi h92 hg0, show i + 1 + gapP (l.drop (i + 1)) = i + k from by omega, hIH, if_pos rfl]; rfl
    · rw [readT_end l _ (by omega)] at he; exact absurd he (by simp)
/-- The document's way and the program's make the same of a literal. -/
theorem plainR_whole (l : List UInt8) (h : wholeE l = 0) : plainR l 0 = some (plainP l) := by
  rcases whole_cases l h with ⟨h0, hr, he, ht⟩ | ⟨h0, hr, he, ht⟩
  · rw [plainP_text l h0 hr he ht, plainR_on l 0 (List.getElem?_eq_some_iff.1 h0).1 (by rw [h0]; decide), plainR_T _ l 1 (Nat.le_refl _) he ht]
    cases l with
    | nil => cases h0
    | cons a l =>
      have : a = 34 := by simpa using h0
      subst this
      rfl
  · obtain ⟨c, n, g1, g2, g3, g4⟩ := readC_fine l 1 he
    rw [g4] at ht
    simp only at ht
    obtain ⟨b1, b2⟩ := oneP_bd _ _ _ _ g2
    rw [List.length_drop] at b2
    have hgp : isGap (l.drop 1) = false := by
      cases hq : isGap (l.drop 1)
      · rfl
      · exfalso
        cases hd : l.drop 1 with
        | nil => rw [hd] at hq; cases hq
        | cons b t =>
          rw [hd] at hq g2
          simp only [isGap_cons] at hq
          simp only [Bool.and_eq_true, decide_eq_true_eq] at hq
          rw [oneP_cons] at g2
          unfold oneC at g2
          rw [if_pos hq.1, if_neg (by simp)] at g2
          cases t with
          | nil => have := hq.2; rw [show gapP [] = 0 from rfl] at this; omega
          | cons a u =>
            cases he : escP (a :: u) with
            | none => rw [he] at g2; cases g2
            | some p =>
              have := gapP_not a u (escP_head a u p he)
              omega
    rw [plainP_char l hr (by rw [g4]), plainR_on l 0 (List.getElem?_eq_some_iff.1 h0).1 (by rw [h0]; decide), plainR_step false l 1 c n g2 hgp, plainR_on l (1 + n) (List.getElem?_eq_some_iff.1 g3).1 (by rw [g3]; decide), plainR_end l _ (by omega)]
    simp only [Option.map_some, List.append_nil, Option.some.injEq]
    have e1 : (l.drop (1 + n)).take 1 = l.drop (1 + n) := List.take_of_length_le (by rw [List.length_drop]; omega)
    rw [e1, ← List.drop_drop, List.take_append_drop]
    exact List.take_append_drop 1 l
end Go.Proofs.YtmgnpgbganjgfaaDoor
