/- DERIVED. PLAIN: numbers, as they are spelt: how far they reach, and what a whole one is worth. -/
import Derived.Test.YtikkdkacflkifaaDoorDigit
import Derived.Test.YtikkdkacflkifaaDoorSpan
set_option linter.unusedSimpArgs false
set_option linter.unusedVariables false
namespace Go.Proofs.YtikkdkacflkifaaDoor

def isDig (base : Int) (r : Nat) : Bool := decide (0 ≤ dig r base)
/-- How many digits to a base begin a text. -/
def digN (base : Int) : List UInt8 → Nat
  | [] => 0
  | b :: t => if isDig base b.toNat = true then digN base t + 1 else 0
theorem dig_big (c base : Int) (h : 128 ≤ c) : dig c base = -1 := by
  have h3 := digV3 (c := c) ⟨by omega, by omega, by omega⟩
  unfold dig; split
  · rfl
  · exact h3
theorem digV_bd (c : Int) : -1 ≤ digV c ∧ digV c ≤ 15 := by
  unfold digV; split
  · omega
  · split
    · omega
    · split <;> omega
theorem dig_bd (c base : Int) : -1 ≤ dig c base ∧ dig c base ≤ 15 := by
  have := digV_bd c
  unfold dig; split <;> omega
theorem dig_lt (c base : Int) (h : 0 ≤ dig c base) : dig c base < base := by
  unfold dig at h ⊢; split at h
  · omega
  · next h2 => rw [if_neg h2]; omega
theorem isDig_small (base : Int) (r : Nat) (h : isDig base r = true) : r < 128 := by
  unfold isDig at h
  rw [decide_eq_true_eq] at h
  apply Nat.lt_of_not_le
  intro h2
  rw [dig_big _ _ (by omega)] at h; omega
theorem digN_le (base : Int) (l : List UInt8) : digN base l ≤ l.length := by
  induction l with
  | nil => exact Nat.le_refl _
  | cons b t ih => rw [digN]; split <;> simp only [List.length_cons] <;> omega
theorem digN_all (base : Int) (l : List UInt8) : ∀ i, i < digN base l → ∃ h : i < l.length, isDig base (l[i]).toNat = true := by
  induction l with
  | nil => intro i h; simp [digN] at h
  | cons b t ih =>
    intro i h
    rw [digN] at h
    split at h
    · cases i with
      | zero => exact ⟨by simp, by simpa⟩
      | succ i =>
        obtain ⟨h1, h2⟩ := ih i (by omega)
        exact ⟨by simpa using h1, by simpa using h2⟩
    · omega
theorem digN_stop (base : Int) (l : List UInt8) (h : digN base l < l.length) : isDig base (l[digN base l]).toNat = false := by
  induction l with
  | nil => simp at h
  | cons b t ih =>
    by_cases hb : isDig base b.toNat = true
    · have e : digN base (b :: t) = digN base t + 1 := by rw [digN, if_pos hb]
      simp only [e, List.getElem_cons_succ]
      exact ih (by rw [e] at h; simpa using h)
    · have e : digN base (b :: t) = 0 := by rw [digN, if_neg hb]
      simp only [e, List.getElem_cons_zero]
      simpa using hb
/-- Rune by rune it is the same. -/
theorem span_dig (base : Int) : ∀ (n : Nat) (l : List UInt8), l.length ≤ n → span (isDig base) l = digN base l
  | 0, l, h => by
    obtain rfl : l = [] := List.eq_nil_of_length_eq_zero (by omega)
    rfl
  | n + 1, [], _ => rfl
  | n + 1, b :: t, h => by
    by_cases hb : b.toNat < 128
    · have hd : dec (b :: t) = (b.toNat, 1) := by have := dec_ascii (b :: t) (by simpa using hb); simpa using this
      rw [digN]
      by_cases hp : isDig base b.toNat = true
      · rw [if_pos hp, span_yes _ _ (by simp) (by rw [hd]; exact hp), hd]
        simp only [List.drop_succ_cons, List.drop_zero]
        rw [span_dig base n t (by simpa using h)]; omega
      · rw [if_neg hp, span_no _ _ (by rw [hd]; simpa using hp)]
    · have h1 : isDig base b.toNat = false := by
        cases h : isDig base b.toNat
        · rfl
        · exact absurd (isDig_small base _ h) hb
      have h2 : isDig base (dec (b :: t)).1 = false := by
        cases h : isDig base (dec (b :: t)).1
        · rfl
        · have h3 := dec_small (b :: t) (isDig_small base _ h)
          rw [List.getD_cons_zero] at h3
          have := isDig_small base _ h; omega
      rw [digN, h1, span_no _ _ h2]; rfl

/-- The base that a text's first two bytes tell, and 2; 10 and 0: none. -/
def prefX (l : List UInt8) : Int × Nat :=
  if l[0]? = some 48 ∧ (l[1]? = some 111 ∨ l[1]? = some 79) ∧ 0 < digN 8 (l.drop 2) then (8, 2)
  else if l[0]? = some 48 ∧ (l[1]? = some 120 ∨ l[1]? = some 88) ∧ 0 < digN 16 (l.drop 2) then (16, 2)
  else (10, 0)
/-- How many bytes the exponent has that begins a text. -/
def expX (l : List UInt8) : Nat :=
  if l[0]? = some 101 ∨ l[0]? = some 69 then
    (fun n => if digN 10 (l.drop n) = 0 then 0 else n + digN 10 (l.drop n)) (if l[1]? = some 43 ∨ l[1]? = some 45 then 2 else 1)
  else 0
/-- The kind, and how long the number is that begins a text. -/
def scanX (l : List UInt8) : Int × Nat :=
  if (prefX l).2 = 2 then (11, 2 + digN (prefX l).1 (l.drop 2))
  else if digN 10 l = 0 then (0, 0)
  else (fun p : Int × Nat => if 0 < expX (l.drop p.2) then (12, p.2 + expX (l.drop p.2)) else p)
    (if l[digN 10 l]? = some 46 ∧ 0 < digN 10 (l.drop (digN 10 l + 1)) then (12, digN 10 l + 1 + digN 10 (l.drop (digN 10 l + 1))) else (11, digN 10 l))
theorem expX_le (l : List UInt8) : expX l ≤ l.length := by
  unfold expX
  split
  · have h1 := digN_le 10 (l.drop 2)
    have h2 := digN_le 10 (l.drop 1)
    rw [List.length_drop] at h1 h2
    split <;> (simp only; split <;> omega)
  · omega
theorem scanX_le (l : List UInt8) : (scanX l).2 ≤ l.length := by
  unfold scanX
  have h2 := digN_le (prefX l).1 (l.drop 2)
  rw [List.length_drop] at h2
  split
  · next h =>
    have : 2 ≤ l.length := by
      apply Nat.le_of_not_lt; intro h3
      unfold prefX at h
      rw [List.drop_eq_nil_of_le (by omega)] at h
      simp [digN] at h
    simp only; omega
  · have h1 := digN_le 10 l
    have h3 := digN_le 10 (l.drop (digN 10 l + 1))
    rw [List.length_drop] at h3
    split
    · simp
    · split
      · have h4 := expX_le (l.drop (digN 10 l + 1 + digN 10 (l.drop (digN 10 l + 1))))
        rw [List.length_drop] at h4
        simp only; split <;> simp only <;> omega
      · have h4 := expX_le (l.drop (digN 10 l))
        rw [List.length_drop] at h4
        simp only; split <;> simp only <;> omega
/-- The kind of the number at a place, and where it ends. -/
def scanI (l : List UInt8) (i : Int) : Int × Nat :=
  if 0 ≤ i ∧ i < l.length then (if (scanX (l.drop i.toNat)).1 = 0 then (0, 0) else ((scanX (l.drop i.toNat)).1, i.toNat + (scanX (l.drop i.toNat)).2)) else (0, 0)
/-- Is a text just a whole number? -/
def isInt (l : List UInt8) : Bool := decide ((scanX l).1 = 11) && decide ((scanX l).2 = l.length)
def isFloat (l : List UInt8) : Bool := decide ((scanX l).1 = 12) && decide ((scanX l).2 = l.length)
/-- What digits are worth, behind others; none: too much. -/
def valL (base : Int) : List UInt8 → Int → Option Int
  | [], v => some v
  | b :: t, v => if (4611686018427387904 - dig b.toNat base) / base < v then none else valL base t (v * base + dig b.toNat base)
def valueX (l : List UInt8) : Int × Int :=
  if isInt l = true then
    match valL (prefX l).1 (l.drop (prefX l).2) 0 with
    | some v => (v, 0)
    | none => (0, 3)
  else (0, 40)
end Go.Proofs.YtikkdkacflkifaaDoor
