/- DERIVED. PLAIN: decimal digits, with a nought ahead, or with a point and noughts behind, are worth what they were. -/
import Derived.Test.YthcogfceighbpaaDoorNumU
import Derived.Test.YthcogfceighbpaaDoorRefNumH
set_option linter.unusedSimpArgs false
set_option linter.unusedVariables false
namespace Go.Proofs.YthcogfceighbpaaDoor

theorem trimLeft_idem (l : List UInt8) : Lib.trimLeftB (Lib.trimLeftB l 48) 48 = Lib.trimLeftB l 48 := by
  have h := trimLeft_head l 48
  cases ht : Lib.trimLeftB l 48 with
  | nil => rfl
  | cons a t =>
    have ha := h a (by rw [ht]; rfl)
    unfold Lib.trimLeftB
    rw [List.dropWhile_cons, if_neg (by simpa using ha)]
theorem shortX_bare (l : List UInt8) (x : Int) (h : l ≠ []) : shortX (bareL l) x = shortX l x := by
  have hb : Lib.trimLeftB (bareL l) 48 = Lib.trimLeftB l 48 := by
    rw [bare_trim l h]
    by_cases h0 : Lib.trimLeftB l 48 = []
    · rw [if_pos h0, h0]; rfl
    · rw [if_neg h0, trimLeft_idem]
  unfold shortX
  rw [hb]
theorem trimLeft_zeros (z : Nat) : Lib.trimLeftB (List.replicate z 48) 48 = [] := by
  unfold Lib.trimLeftB
  induction z with
  | zero => rfl
  | succ z ih => rw [List.replicate_succ, List.dropWhile_cons, if_pos (by decide), ih]
theorem trimLeft_append (l m : List UInt8) : Lib.trimLeftB (l ++ m) 48 = if Lib.trimLeftB l 48 = [] then Lib.trimLeftB m 48 else Lib.trimLeftB l 48 ++ m := by
  unfold Lib.trimLeftB
  induction l with
  | nil => rfl
  | cons a t ih =>
    rw [List.cons_append, List.dropWhile_cons, List.dropWhile_cons]
    by_cases h : (a == 48) = true
    · rw [if_pos h, if_pos h, ih]
    · rw [if_neg h, if_neg h, if_neg (by simp)]; rfl
theorem trimRight_zeros (l : List UInt8) (z : Nat) : Lib.trimRightB (l ++ List.replicate z 48) 48 = Lib.trimRightB l 48 := by
  induction z with
  | zero => simp
  | succ z ih => rw [List.replicate_succ', ← List.append_assoc, trimRight_snoc, if_pos rfl, ih]
theorem shortX_zeros (l : List UInt8) (z : Nat) (x : Int) : shortX (l ++ List.replicate z 48) (x - z) = shortX l x := by
  unfold shortX
  rw [trimLeft_append]
  by_cases h0 : Lib.trimLeftB l 48 = []
  · rw [if_pos h0, trimLeft_zeros, if_pos rfl, if_pos h0]
  · rw [if_neg h0, if_neg h0, if_neg (by simp [h0]), trimRight_zeros]
    congr 1
    rw [List.length_append, List.length_replicate]
    omega
/-- What a text's digits are worth. -/
def wX (l : List UInt8) : List UInt8 × Int × Bool := ((shortX l 0).1, (shortX l 0).2, true)
theorem worth_dig (l : List UInt8) (h : allDig l) (h0 : l ≠ []) (hl : l.length ≤ 1000) : worthX l = wX l := by
  have hd : decimalX l = (Lib.decDigits (nat10 l), 0) := by
    unfold decimalX
    rw [if_pos (isInt_alldig l h h0), if_neg (by omega), prefX_alldig l h]
    simp only [List.drop_zero]
    rw [natB_alldig l h]
  unfold worthX wX
  rw [hd, if_pos rfl]
  simp only
  rw [← bare_dec l h h0, shortX_bare l 0 h0]
theorem worth_float (l : List UInt8) (d g P : Nat) (x : Int) (p : Parts l d g P) (hI : isK 12 l = true) (hl : l.length ≤ 1000) (hx : expV l P = some x) : worthX l = ((shortX (allX l d g) (x - g)).1, (shortX (allX l d g) (x - g)).2, true) := by
  have hf := p.float hI hl
  rw [hx] at hf
  have hn : isInt l = false := by
    unfold isK at hI
    unfold isInt
    simp only [Bool.and_eq_true, decide_eq_true_eq] at hI
    rw [hI.1]; rfl
  have hd : decimalX l = ([], 40) := by unfold decimalX; rw [hn]; rfl
  unfold worthX
  rw [hd, hf]
  rfl
theorem digN_stop_at (l r : List UInt8) (c : UInt8) (h : allDig l) (hc : isDig 10 c.toNat = false) : digN 10 (l ++ c :: r) = l.length := by
  induction l with
  | nil => rw [List.nil_append, digN, hc]; rfl
  | cons b t ih =>
    have hb := h b (by simp)
    have h1 : isDig 10 b.toNat = true := by unfold isDig; rw [dig_dec b hb]; simp; omega
    rw [List.cons_append, digN, if_pos h1, ih (fun x hx => h x (by simp [hx]))]; rfl
theorem prefX_plain (l : List UInt8) (h : l[1]? ≠ some 111 ∧ l[1]? ≠ some 79 ∧ l[1]? ≠ some 120 ∧ l[1]? ≠ some 88) : prefX l = (10, 0) := by
  unfold prefX
  rw [if_neg, if_neg]
  · rintro ⟨_, a | a, _⟩
    · exact h.2.2.1 a
    · exact h.2.2.2 a
  · rintro ⟨_, a | a, _⟩
    · exact h.1 a
    · exact h.2.1 a
theorem second_plain (l r : List UInt8) (c : UInt8) (h : allDig l) (h0 : l ≠ []) (hc : c = 46 ∨ c = 101) : (l ++ c :: r)[1]? ≠ some 111 ∧ (l ++ c :: r)[1]? ≠ some 79 ∧ (l ++ c :: r)[1]? ≠ some 120 ∧ (l ++ c :: r)[1]? ≠ some 88 := by
  have key : ∃ b, (l ++ c :: r)[1]? = some b ∧ ((48 ≤ b.toNat ∧ b.toNat ≤ 57) ∨ b = 46 ∨ b = 101) := by
    cases l with
    | nil => exact absurd rfl h0
    | cons a t =>
      cases t with
      | nil => exact ⟨c, rfl, .inr hc⟩
      | cons b u => exact ⟨b, rfl, .inl (h b (by simp))⟩
  obtain ⟨b, hb, hk⟩ := key
  rw [hb]
  refine ⟨?_, ?_, ?_, ?_⟩ <;> (intro e; injection e with e; subst e; revert hk; decide)
theorem alldig_zeros (z : Nat) : allDig (List.replicate z 48) := fun b hb => by rw [List.mem_replicate] at hb; rw [hb.2]; decide
theorem get_at (l r : List UInt8) (c : UInt8) : (l ++ c :: r)[l.length]? = some c := by rw [List.getElem?_append_right (Nat.le_refl _), Nat.sub_self]; rfl
theorem drop_past (l r : List UInt8) (c : UInt8) : (l ++ c :: r).drop (l.length + 1) = r := by rw [List.drop_append]; simp
/-- With a point and noughts behind. -/
theorem worth_point (l : List UInt8) (z : Nat) (h : allDig l) (h0 : l ≠ []) (hz : 0 < z) (hl : l.length + z + 1 ≤ 1000) : worthX (l ++ 46 :: List.replicate z 48) = wX l := by
  have hd := digN_stop_at l (List.replicate z 48) 46 h (by decide)
  have hp := prefX_plain _ (second_plain l (List.replicate z 48) 46 h h0 (.inl rfl))
  have hg := get_at l (List.replicate z 48) 46
  have hr := drop_past l (List.replicate z 48) 46
  have hzd : digN 10 (List.replicate z 48) = z := by rw [digN_alldig _ (alldig_zeros z), List.length_replicate]
  have hlen : (l ++ 46 :: List.replicate z 48).length = l.length + 1 + z := by simp; omega
  have hl0 : l.length ≠ 0 := fun e => h0 (List.length_eq_zero_iff.1 e)
  have hall : allX (l ++ 46 :: List.replicate z 48) l.length z = l ++ List.replicate z 48 := by
    unfold allX
    rw [hr, List.take_left' rfl, List.take_of_length_le (by simp)]
  generalize (l ++ 46 :: List.replicate z 48) = t at *
  have hpt : pointX t l.length = (12, t.length) := by
    unfold pointX
    rw [hr, hzd, if_pos ⟨hg, hz⟩, hlen]
  have hs : scanX t = (12, t.length) := by
    rw [scanX_dec t hp (by rw [hd]; exact hl0), hd, hpt]
    unfold postX
    rw [List.drop_length, if_neg (by decide)]
  have hI : isK 12 t = true := by unfold isK; rw [hs]; simp
  have p : Parts t l.length z t.length := ⟨hd, by omega, by omega, .inl ⟨hg, by rw [hr]; exact hzd, hz, hlen⟩, Nat.le_refl _, .inl rfl⟩
  rw [worth_float t l.length z t.length 0 p hI (by omega) (by unfold expV; rw [if_pos rfl]), hall, shortX_zeros l z 0]
  rfl
/-- With an exponent of nought behind. -/
theorem worth_e0 (l : List UInt8) (h : allDig l) (h0 : l ≠ []) (hl : l.length + 2 ≤ 1000) : worthX (l ++ [101, 48]) = wX l := by
  have hd := digN_stop_at l [48] 101 h (by decide)
  have hp := prefX_plain _ (second_plain l [48] 101 h h0 (.inr rfl))
  have hg := get_at l [48] 101
  have hr := drop_past l [48] 101
  have hlen : (l ++ [101, 48]).length = l.length + 2 := by simp
  have hl0 : l.length ≠ 0 := fun e => h0 (List.length_eq_zero_iff.1 e)
  have hdr : (l ++ [101, 48]).drop l.length = [101, 48] := by simp
  have hg1 : (l ++ [101, 48])[l.length + 1]? = some 48 := by rw [List.getElem?_append_right (by omega)]; simp
  have hall : allX (l ++ [101, 48]) l.length 0 = l := by
    unfold allX
    rw [List.take_zero, List.append_nil, List.take_left' rfl]
  generalize (l ++ [101, 48]) = t at *
  have hpt : pointX t l.length = (11, l.length) := by
    unfold pointX
    rw [if_neg]
    rw [hg]; rintro ⟨a, _⟩; revert a; decide
  have hs : scanX t = (12, t.length) := by
    rw [scanX_dec t hp (by rw [hd]; exact hl0), hd, hpt]
    unfold postX
    simp only
    rw [hdr, if_pos (by decide), show expX [101, 48] = 2 from by decide, hlen]
  have hI : isK 12 t = true := by unfold isK; rw [hs]; simp
  have p : Parts t l.length 0 l.length := ⟨hd, by omega, by omega, .inr ⟨by rw [hg]; decide, rfl, rfl⟩, by omega, .inr ⟨.inl hg, 1, by omega, .inr ⟨rfl, by rw [hg1]; decide⟩, by rw [hr, hlen, show digN 10 [48] = 1 from by decide]; omega⟩⟩
  rw [worth_float t l.length 0 l.length 0 p hI (by omega) (by unfold expV; rw [if_neg (by omega), hr]; decide), hall]
  rfl
theorem nat10_nought (l : List UInt8) (h : allDig l) (h0 : l ≠ []) : wX (48 :: l) = wX l := by
  unfold wX
  have : shortX (48 :: l) 0 = shortX l 0 := by
    unfold shortX
    have : Lib.trimLeftB (48 :: l) 48 = Lib.trimLeftB l 48 := by unfold Lib.trimLeftB; rw [List.dropWhile_cons, if_pos (by decide)]
    rw [this]
  rw [this]
theorem sameW_refl (l : List UInt8) : sameW (wX l) (wX l) = true := by unfold sameW wX; simp
/-- The law of NumberNoughts, in plain words. -/
theorem noughts_plain (l : List UInt8) (z : Nat) (h : allDig l) (h0 : l ≠ []) (hl : l.length ≤ 400) (hz : 0 < z) (hz2 : z ≤ 32) :
    sameW (worthX l) (worthX (48 :: l)) = true ∧ sameW (worthX l) (worthX (l ++ 46 :: List.replicate z 48)) = true ∧ sameW (worthX (l ++ 46 :: List.replicate z 48)) (worthX (l ++ [101, 48])) = true := by
  have h1 : allDig (48 :: l) := fun b hb => by
    rw [List.mem_cons] at hb
    rcases hb with rfl | hb
    · decide
    · exact h b hb
  rw [worth_dig l h h0 (by omega), worth_dig (48 :: l) h1 (by simp) (by simp; omega), worth_point l z h h0 hz (by omega), worth_e0 l h h0 (by omega), nat10_nought l h h0]
  exact ⟨sameW_refl l, sameW_refl l, sameW_refl l⟩
end Go.Proofs.YthcogfceighbpaaDoor
