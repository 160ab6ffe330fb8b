/- DERIVED. PLAIN: what is found as a number is one by itself; decimal digits are a whole number, worth as much. -/
import Derived.Test.YthcogfceighbpaaDoorRefNumB
import Derived.Test.YthcogfceighbpaaDoorNumV
import Derived.Test.YthcogfceighbpaaDoorNumQ
set_option linter.unusedSimpArgs false
set_option linter.unusedVariables false
namespace Go.Proofs.YthcogfceighbpaaDoor

theorem digN_take (base : Int) : ∀ (l : List UInt8) (m : Nat), digN base (l.take m) = min m (digN base l)
  | [], m => by simp [digN]
  | b :: t, 0 => by simp [digN]
  | b :: t, m + 1 => by
    rw [List.take_succ_cons, digN, digN]
    split
    · rw [digN_take base t m]; omega
    · simp
theorem take_get (l : List UInt8) (m i : Nat) : (l.take m)[i]? = if i < m then l[i]? else none := by
  rw [List.getElem?_take]
theorem drop_take' (l : List UInt8) (m i : Nat) : (l.take m).drop i = (l.drop i).take (m - i) := by rw [List.drop_take]
/-- What a text's beginning has ahead is what the text has. -/
theorem take_some {l : List UInt8} {m i : Nat} {c : UInt8} (h : (l.take m)[i]? = some c) : l[i]? = some c := by
  rw [take_get] at h; split at h
  · exact h
  · cases h
theorem digN_take_drop (base : Int) (l : List UInt8) (m i : Nat) : digN base ((l.take m).drop i) = min (m - i) (digN base (l.drop i)) := by rw [drop_take', digN_take]
theorem prefX_ten {l : List UInt8} (m : Nat) (h : prefX l = (10, 0)) : prefX (l.take m) = (10, 0) := by
  unfold prefX at h ⊢
  by_cases h1 : l[0]? = some 48 ∧ (l[1]? = some 111 ∨ l[1]? = some 79) ∧ 0 < digN 8 (l.drop 2)
  · rw [if_pos h1] at h; cases h
  · by_cases h2 : l[0]? = some 48 ∧ (l[1]? = some 120 ∨ l[1]? = some 88) ∧ 0 < digN 16 (l.drop 2)
    · rw [if_neg h1, if_pos h2] at h; cases h
    · rw [if_neg, if_neg]
      · rintro ⟨a, b, c⟩
        rw [digN_take_drop] at c
        exact h2 ⟨take_some a, b.imp take_some take_some, by omega⟩
      · rintro ⟨a, b, c⟩
        rw [digN_take_drop] at c
        exact h1 ⟨take_some a, b.imp take_some take_some, by omega⟩
theorem prefX_two {l : List UInt8} {b : Int} (m : Nat) (h : prefX l = (b, 2)) (hm : 2 < m) : prefX (l.take m) = (b, 2) ∧ 0 < digN b (l.drop 2) := by
  unfold prefX at h ⊢
  simp only [take_get, digN_take_drop, show (0 < m) = True from by simp; omega, show (1 < m) = True from by simp; omega, if_true]
  by_cases h1 : l[0]? = some 48 ∧ (l[1]? = some 111 ∨ l[1]? = some 79) ∧ 0 < digN 8 (l.drop 2)
  · rw [if_pos h1] at h
    injection h with h _
    subst h
    rw [if_pos ⟨h1.1, h1.2.1, by omega⟩]
    exact ⟨rfl, h1.2.2⟩
  · by_cases h2 : l[0]? = some 48 ∧ (l[1]? = some 120 ∨ l[1]? = some 88) ∧ 0 < digN 16 (l.drop 2)
    · rw [if_neg h1, if_pos h2] at h
      injection h with h _
      subst h
      rw [if_neg (by rintro ⟨a, c, d⟩; exact h1 ⟨a, c, by omega⟩), if_pos ⟨h2.1, h2.2.1, by omega⟩]
      exact ⟨rfl, h2.2.2⟩
    · rw [if_neg h1, if_neg h2] at h
      injection h with _ h
      cases h
theorem expX_take (l : List UInt8) : expX (l.take (expX l)) = expX l := by
  obtain ⟨e, he⟩ : ∃ e, expX l = e := ⟨_, rfl⟩
  rw [he]
  by_cases h0 : e = 0
  · subst h0; rw [List.take_zero]; rfl
  · unfold expX at he ⊢
    simp only at he ⊢
    by_cases hE : l[0]? = some 101 ∨ l[0]? = some 69
    · rw [if_pos hE] at he
      have hE' : (l.take e)[0]? = some 101 ∨ (l.take e)[0]? = some 69 := by rw [take_get, if_pos (by omega)]; exact hE
      rw [if_pos hE']
      by_cases hs : l[1]? = some 43 ∨ l[1]? = some 45
      · rw [if_pos hs] at he
        by_cases hd : digN 10 (l.drop 2) = 0
        · rw [if_pos hd] at he; omega
        · rw [if_neg hd] at he
          have hs' : (l.take e)[1]? = some 43 ∨ (l.take e)[1]? = some 45 := by rw [take_get, if_pos (by omega)]; exact hs
          rw [if_pos hs', digN_take_drop, if_neg (by omega)]
          omega
      · rw [if_neg hs] at he
        by_cases hd : digN 10 (l.drop 1) = 0
        · rw [if_pos hd] at he; omega
        · rw [if_neg hd] at he
          have hs' : ¬ ((l.take e)[1]? = some 43 ∨ (l.take e)[1]? = some 45) := fun h => hs (h.imp take_some take_some)
          rw [if_neg hs', digN_take_drop, if_neg (by omega)]
          omega
    · rw [if_neg hE] at he; omega
theorem point_take (l : List UInt8) (d m : Nat) (hd : d ≤ m) (hm : (pointX l d).2 ≤ m) : pointX (l.take m) d = pointX l d := by
  unfold pointX at hm ⊢
  by_cases h : l[d]? = some 46 ∧ 0 < digN 10 (l.drop (d + 1))
  · rw [if_pos h] at hm ⊢
    simp only at hm
    have e : digN 10 ((l.take m).drop (d + 1)) = digN 10 (l.drop (d + 1)) := by rw [digN_take_drop]; omega
    rw [e, if_pos ⟨by rw [take_get, if_pos (by omega)]; exact h.1, h.2⟩]
  · rw [if_neg h, if_neg]
    rintro ⟨a, b⟩
    rw [digN_take_drop] at b
    exact h ⟨take_some a, by omega⟩
theorem point_ge (l : List UInt8) (d : Nat) : d ≤ (pointX l d).2 ∧ ((pointX l d).1 = 11 ∨ (pointX l d).1 = 12) := by
  unfold pointX; split
  · exact ⟨by simp only; omega, .inr rfl⟩
  · exact ⟨Nat.le_refl _, .inl rfl⟩
/-- What begins a text as a number is that number by itself. -/
theorem scan_take (l : List UInt8) (h : (scanX l).1 ≠ 0) : scanX (l.take (scanX l).2) = scanX l ∧ 0 < (scanX l).2 ∧ ((scanX l).1 = 11 ∨ (scanX l).1 = 12) := by
  rcases prefX_base l with hp | hp | hp
  · have hd : digN 10 l ≠ 0 := by
      intro hd
      apply h
      unfold scanX
      rw [hp]
      simp only [show ((0 : Nat) = 2) = False from by simp, if_false, hd, if_true]
    have hx := scanX_dec l hp hd
    obtain ⟨hg, hk⟩ := point_ge l (digN 10 l)
    obtain ⟨m, hm⟩ : ∃ m, (scanX l).2 = m := ⟨_, rfl⟩
    have hpm : (pointX l (digN 10 l)).2 ≤ m := by
      rw [← hm, hx]; unfold postX; split
      · simp only; omega
      · exact Nat.le_refl _
    have hdm : digN 10 (l.take m) = digN 10 l := by rw [digN_take]; omega
    rw [hm]
    refine ⟨?_, by omega, ?_⟩
    · rw [scanX_dec (l.take m) (prefX_ten m hp) (by rw [hdm]; exact hd), hdm, point_take l _ m (by omega) hpm, hx]
      rw [hx] at hm
      unfold postX at hm ⊢
      rw [drop_take']
      by_cases he : 0 < expX (l.drop (pointX l (digN 10 l)).2)
      · rw [if_pos he] at hm ⊢
        simp only at hm
        have : m - (pointX l (digN 10 l)).2 = expX (l.drop (pointX l (digN 10 l)).2) := by omega
        rw [this, expX_take, if_pos he]
      · rw [if_neg he] at hm ⊢
        simp only at hm
        rw [show m - (pointX l (digN 10 l)).2 = 0 from by omega, List.take_zero, if_neg (by decide)]
    · rw [hx]; unfold postX; split
      · exact .inr rfl
      · exact hk
  all_goals
    have hx : scanX l = (11, 2 + digN (prefX l).1 (l.drop 2)) := by unfold scanX; rw [hp, if_pos rfl]
    have h0 := (prefX_two (3 : Nat) hp (by omega)).2
    rw [hx, hp]
    simp only
    refine ⟨?_, by omega, by simp⟩
    have hp2 := (prefX_two (2 + digN (prefX l).1 (l.drop 2)) hp (by rw [hp]; simp only; omega)).1
    rw [hp] at hp2
    simp only at hp2
    unfold scanX
    rw [hp2, if_pos rfl]
    simp only
    rw [digN_take_drop]
    congr 1
    omega
/-- The law of NumberAlone, in plain words. -/
theorem scanI_alone (l : List UInt8) (i : Int) (h : (scanI l i).1 ≠ 0) : ∃ a : Nat, i = a ∧ a < (scanI l i).2 ∧ (scanI l i).2 ≤ l.length ∧ scanI ((l.take (scanI l i).2).drop a) 0 = ((scanI l i).1, (scanI l i).2 - a) ∧ ((scanI l i).1 = 11 ∨ (scanI l i).1 = 12) := by
  by_cases hi : 0 ≤ i ∧ i < l.length
  · obtain ⟨a, rfl⟩ := Int.eq_ofNat_of_zero_le hi.1
    have hs : scanI l a = if (scanX (l.drop a)).1 = 0 then (0, 0) else ((scanX (l.drop a)).1, a + (scanX (l.drop a)).2) := by
      unfold scanI; rw [if_pos hi, Int.toNat_natCast]
    by_cases h0 : (scanX (l.drop a)).1 = 0
    · rw [hs, if_pos h0] at h; exact absurd rfl h
    · rw [if_neg h0] at hs
      obtain ⟨h1, h2, h3⟩ := scan_take _ h0
      have hle := scanX_le (l.drop a)
      rw [List.length_drop] at hle
      rw [hs]
      simp only
      refine ⟨a, rfl, by omega, by omega, ?_, h3⟩
      rw [drop_take', Nat.add_sub_cancel_left]
      unfold scanI
      rw [if_pos ⟨by omega, by rw [List.length_take, List.length_drop]; omega⟩]
      simp only [Int.toNat_zero, List.drop_zero]
      rw [h1, if_neg h0, Nat.zero_add]
  · unfold scanI at h; rw [if_neg hi] at h; exact absurd rfl h

/-- A decimal digit is worth what its byte tells. -/
theorem dig_dec (b : UInt8) (h : 48 ≤ b.toNat ∧ b.toNat ≤ 57) : dig b.toNat 10 = (b.toNat : Int) - 48 := by
  rw [dig_yes _ _ (by omega) (by omega) (by rw [digV0 (by omega)]; omega), digV0 (by omega)]
theorem digN_alldig (l : List UInt8) (h : allDig l) : digN 10 l = l.length := by
  induction l with
  | nil => rfl
  | cons b t ih =>
    have hb := h b (by simp)
    have : isDig 10 b.toNat = true := by unfold isDig; rw [dig_dec b hb]; simp; omega
    rw [digN, if_pos this, ih (fun x hx => h x (by simp [hx]))]; rfl
theorem prefX_alldig (l : List UInt8) (h : allDig l) : prefX l = (10, 0) := by
  have hk : ∀ c : UInt8, (c.toNat < 48 ∨ 57 < c.toNat) → l[1]? ≠ some c := fun c hc e => by
    have := h c (List.mem_of_getElem? e); omega
  unfold prefX
  rw [if_neg, if_neg]
  · rintro ⟨_, a | a, _⟩
    · exact hk 120 (by decide) a
    · exact hk 88 (by decide) a
  · rintro ⟨_, a | a, _⟩
    · exact hk 111 (by decide) a
    · exact hk 79 (by decide) a
theorem scanX_alldig (l : List UInt8) (h : allDig l) (h0 : l ≠ []) : scanX l = (11, l.length) := by
  have hd := digN_alldig l h
  have hl : l.length ≠ 0 := fun e => h0 (List.length_eq_zero_iff.1 e)
  rw [scanX_dec l (prefX_alldig l h) (by rw [hd]; exact hl), hd]
  have hp : pointX l l.length = (11, l.length) := by
    unfold pointX
    rw [if_neg (by rw [List.getElem?_eq_none (Nat.le_refl _)]; simp)]
  rw [hp]
  unfold postX
  rw [List.drop_length, if_neg (by decide)]
theorem isInt_alldig (l : List UInt8) (h : allDig l) (h0 : l ≠ []) : isInt l = true := by
  unfold isInt; rw [scanX_alldig l h h0]; simp
theorem natB_alldig (l : List UInt8) (h : allDig l) : natB 10 l = nat10 l := by
  unfold natB nat10
  have : ∀ v : Nat, l.foldl (fun v b => v * (10 : Int).toNat + (dig b.toNat 10).toNat) v = l.foldl (fun v b => v * 10 + (b.toNat - 48)) v := by
    induction l with
    | nil => intro v; rfl
    | cons b t ih =>
      intro v
      have hb := h b (by simp)
      simp only [List.foldl_cons]
      rw [ih (fun x hx => h x (by simp [hx])), dig_dec b hb]
      congr 1
      have : ((b.toNat : Int) - 48).toNat = b.toNat - 48 := by omega
      rw [this]; rfl
  exact this 0
/-- What digits are worth, unless it is too much. -/
theorem natB_fold (base : Int) (l : List UInt8) : ∀ v : Nat, l.foldl (fun v b => v * base.toNat + (dig b.toNat base).toNat) v = v * base.toNat ^ l.length + natB base l := by
  induction l with
  | nil => intro v; simp [natB]
  | cons b t ih =>
    intro v
    unfold natB
    simp only [List.foldl_cons]
    rw [ih, ih (0 * base.toNat + (dig b.toNat base).toNat), List.length_cons, Nat.pow_succ]
    simp only [Nat.zero_mul, Nat.zero_add, Nat.add_mul, Nat.add_assoc, Nat.mul_assoc, Nat.mul_comm base.toNat]
theorem valL_is (bn : Nat) (hb : 1 ≤ bn) (l : List UInt8) (hd : digN bn l = l.length) : ∀ v : Nat, v ≤ 4611686018427387904 → valL bn l v = if v * bn ^ l.length + natB bn l ≤ 4611686018427387904 then some ((v * bn ^ l.length + natB bn l : Nat) : Int) else none := by
  induction l with
  | nil => intro v hv; rw [valL]; simp [natB, hv]
  | cons b t ih =>
    intro v hv
    have hb1 : isDig bn b.toNat = true := by
      by_cases h : isDig bn b.toNat = true
      · exact h
      · rw [digN, if_neg h] at hd; simp at hd
    have ht : digN bn t = t.length := by rw [digN, if_pos hb1] at hd; simpa using hd
    have hd0 : 0 ≤ dig b.toNat bn := by unfold isDig at hb1; simpa using hb1
    have hd1 := (dig_bd (b.toNat : Int) bn).2
    obtain ⟨d, hdd⟩ := Int.eq_ofNat_of_zero_le hd0
    have e : v * bn ^ (b :: t).length + natB bn (b :: t) = (v * bn + d) * bn ^ t.length + natB bn t := by
      have hq : natB bn (b :: t) = d * bn ^ t.length + natB bn t := by
        show t.foldl _ (0 * (bn : Int).toNat + (dig b.toNat bn).toNat) = _
        rw [natB_fold, hdd]; simp
      rw [hq, List.length_cons, Nat.pow_succ, Nat.add_mul, ← Nat.add_assoc, Nat.mul_assoc, Nat.mul_comm bn (bn ^ t.length)]
    rw [valL_cons, e, hdd]
    have hp : 1 ≤ bn ^ t.length := Nat.pow_pos hb
    by_cases hgo : v * bn + d ≤ 4611686018427387904
    · have hn : ¬ ((4611686018427387904 - (d : Int)) / (bn : Int) < v) := by
        have : (v : Int) ≤ (4611686018427387904 - (d : Int)) / (bn : Int) := by
          rw [Int.le_ediv_iff_mul_le (by omega)]
          have : ((v * bn + d : Nat) : Int) ≤ 4611686018427387904 := by omega
          rw [Int.natCast_add, Int.natCast_mul] at this; omega
        omega
      rw [if_neg hn]
      have := ih ht (v * bn + d) hgo
      rw [Int.natCast_add, Int.natCast_mul] at this
      exact this
    · have hn : (4611686018427387904 - (d : Int)) / (bn : Int) < v := by
        rw [Int.ediv_lt_iff_lt_mul (by omega)]
        have : (4611686018427387904 : Int) < ((v * bn + d : Nat) : Int) := by omega
        rw [Int.natCast_add, Int.natCast_mul] at this; omega
      rw [if_pos hn, if_neg]
      have : (v * bn + d) * 1 ≤ (v * bn + d) * bn ^ t.length := Nat.mul_le_mul_left _ hp
      omega
theorem value_nat (l : List UInt8) (hI : isInt l = true) : valueX l = if natB (prefX l).1 (l.drop (prefX l).2) ≤ 4611686018427387904 then ((natB (prefX l).1 (l.drop (prefX l).2) : Int), 0) else (0, 3) := by
  unfold valueX
  rw [if_pos hI]
  obtain ⟨hall, _⟩ := whole_dig l hI
  obtain ⟨bn, hbn, hb1⟩ : ∃ bn : Nat, (prefX l).1 = bn ∧ 1 ≤ bn := by rcases prefX_base l with h | h | h <;> rw [h] <;> first | exact ⟨10, rfl, by decide⟩ | exact ⟨8, rfl, by decide⟩ | exact ⟨16, rfl, by decide⟩
  rw [hbn] at hall ⊢
  have := valL_is bn hb1 _ hall 0 (by decide)
  rw [Nat.zero_mul, Nat.zero_add] at this
  rw [show valL bn (l.drop (prefX l).2) 0 = _ from this]
  split <;> simp_all
/-- The law of NumberBack, in plain words. -/
theorem back_plain (l : List UInt8) (h : (decimalX l).2 = 0) : valueX (decimalX l).1 = valueX l ∧ (decimalX (decimalX l).1 = ((decimalX l).1, 0) ∨ 1000 < (decimalX l).1.length ∧ decimalX (decimalX l).1 = ([], 3)) := by
  unfold decimalX at h
  by_cases hI : isInt l = true
  · rw [if_pos hI] at h
    by_cases hl : 1000 < l.length
    · rw [if_pos hl] at h; cases h
    · have e : decimalX l = (Lib.decDigits (natB (prefX l).1 (l.drop (prefX l).2)), 0) := by unfold decimalX; rw [if_pos hI, if_neg hl]
      rw [e, value_nat l hI]
      simp only
      generalize natB (prefX l).1 (l.drop (prefX l).2) = N
      have hd := decDigits_dig N
      have hne := decDigits_ne N
      have hI2 := isInt_alldig _ hd hne
      have hp := prefX_alldig _ hd
      have hN : natB 10 (Lib.decDigits N) = N := by rw [natB_alldig _ hd, nat10_dec]
      refine ⟨?_, ?_⟩
      · rw [value_nat _ hI2, hp]
        simp only [List.drop_zero]
        rw [hN]
      · unfold decimalX
        rw [if_pos hI2, hp]
        simp only [List.drop_zero]
        rw [hN]
        by_cases hl2 : 1000 < (Lib.decDigits N).length
        · rw [if_pos hl2]; exact .inr ⟨hl2, rfl⟩
        · rw [if_neg hl2]; exact .inl rfl
  · rw [if_neg hI] at h; cases h
theorem decimal_err (l : List UInt8) (h : (decimalX l).2 ≠ 0) : (decimalX l).1 = [] := by
  unfold decimalX at h ⊢
  split
  · next hI =>
    rw [if_pos hI] at h
    split
    · rfl
    · next hl => rw [if_neg hl] at h; exact absurd rfl h
  · rfl
end Go.Proofs.YthcogfceighbpaaDoor
