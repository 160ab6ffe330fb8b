/- DERIVED. PLAIN: literals of characters and of texts. -/
import Derived.Test.YtmgnpgbganjgfaaDoorSpan
import Derived.Test.YtmgnpgbganjgfaaDoorDigit
import Derived.Lib.Strings
set_option linter.unusedSimpArgs false
set_option linter.unusedVariables false
namespace Go.Proofs.YtmgnpgbganjgfaaDoor

/-- What one sign behind a backslash means. -/
def signP (b : UInt8) : Option Int :=
  if b = 92 ∨ b = 34 ∨ b = 39 then some b.toNat
  else if b = 97 then some 7 else if b = 98 then some 8 else if b = 116 then some 9 else if b = 110 then some 10
  else if b = 118 then some 11 else if b = 102 then some 12 else if b = 114 then some 13 else none
def digB (base : Int) (b : UInt8) : Bool := decide (0 ≤ dig b.toNat base)
/-- One digit more; what is too great stays so. -/
def numV (base : Int) (v : Int) (b : UInt8) : Int := min (v * base + dig b.toNat base) 1114112
def valP (base : Int) (l : List UInt8) : Int := l.foldl (numV base) 0
/-- A number that begins a text, and how many digits it has. -/
def numP (base : Int) (l : List UInt8) : Option (Int × Nat) :=
  if l.takeWhile (digB base) ≠ [] ∧ valP base (l.takeWhile (digB base)) ≤ 1114111 then some (valP base (l.takeWhile (digB base)), (l.takeWhile (digB base)).length) else none
def namesL : List (List UInt8) :=
  [[78, 85, 76], [83, 79, 72], [83, 84, 88], [69, 84, 88], [69, 79, 84], [69, 78, 81], [65, 67, 75], [66, 69, 76], [66, 83], [72, 84], [76, 70], [86, 84], [70, 70], [67, 82], [83, 79], [83, 73],
   [68, 76, 69], [68, 67, 49], [68, 67, 50], [68, 67, 51], [68, 67, 52], [78, 65, 75], [83, 89, 78], [69, 84, 66], [67, 65, 78], [69, 77], [83, 85, 66], [69, 83, 67], [70, 83], [71, 83], [82, 83], [85, 83], [83, 80], [68, 69, 76]]
/-- The longest name, and which it is. -/
def nameF (l : List UInt8) : List (List UInt8) → Nat → Nat × Nat → Nat × Nat
  | [], _, r => r
  | w :: ws, i, r => nameF l ws (i + 1) (if r.2 < w.length ∧ w.isPrefixOf l = true then (i, w.length) else r)
def nameP (l : List UInt8) : Nat × Nat := if (nameF l namesL 0 (0, 0)).1 = 33 then (127, (nameF l namesL 0 (0, 0)).2) else nameF l namesL 0 (0, 0)
/-- What stands behind a backslash: the character (-2: none), and how many bytes it has. -/
def escC (c : UInt8) (t : List UInt8) : Option (Int × Nat) :=
  match signP c with
  | some v => some (v, 1)
  | none =>
    if c = 38 then some (-2, 1)
    else if c = 94 then (match t with | [] => none | d :: _ => if 64 ≤ d.toNat ∧ d.toNat ≤ 95 then some ((d.toNat : Int) - 64, 2) else none)
    else if c = 111 then (match numP 8 t with | none => none | some (v, n) => some (v, n + 1))
    else if c = 120 then (match numP 16 t with | none => none | some (v, n) => some (v, n + 1))
    else if 48 ≤ c.toNat ∧ c.toNat ≤ 57 then numP 10 (c :: t)
    else if 0 < (nameP (c :: t)).2 then some ((nameP (c :: t)).1, (nameP (c :: t)).2) else none
def escP : List UInt8 → Option (Int × Nat)
  | [] => none
  | c :: t => escC c t
theorem escP_cons (c : UInt8) (t : List UInt8) : escP (c :: t) = escC c t := rfl
theorem nameF_cons (l w : List UInt8) (ws : List (List UInt8)) (i : Nat) (r : Nat × Nat) : nameF l (w :: ws) i r = nameF l ws (i + 1) (if r.2 < w.length ∧ w.isPrefixOf l = true then (i, w.length) else r) := rfl
/-- How long a gap is that begins behind a backslash, the other backslash with it; 0: there is none. -/
def gapP (l : List UInt8) : Nat := if 0 < span (isCls 1) l ∧ l[span (isCls 1) l]? = some 92 then span (isCls 1) l + 1 else 0
def badC (d : Nat × Nat) : Bool := decide (cls d.1 = 0) || (decide (cls d.1 = 1) && decide (d.1 ≠ 32)) || (decide (d.1 = 65533) && decide (d.2 = 1))
/-- What stands next within a literal: the character (-2: none), and how many bytes it has; or what is wrong. -/
def oneC (text : Bool) (c : UInt8) (t : List UInt8) : Except Int (Int × Nat) :=
  if c = 92 then
    if text = true ∧ 0 < gapP t then .ok (-2, gapP t + 1)
    else match escP t with
      | none => .error 51
      | some (v, n) => if v = -2 ∧ text = false then .error 51 else .ok (v, n + 1)
  else if badC (dec (c :: t)) = true then .error 50 else .ok ((dec (c :: t)).1, (dec (c :: t)).2)
def oneP (text : Bool) : List UInt8 → Except Int (Int × Nat)
  | [] => .error 50
  | c :: t => oneC text c t
theorem oneP_cons (text : Bool) (c : UInt8) (t : List UInt8) : oneP text (c :: t) = oneC text c t := rfl
theorem oneP_nil (text : Bool) : oneP text [] = .error 50 := rfl
/-- Does a gap begin a text? -/
def isGap : List UInt8 → Bool
  | [] => false
  | c :: t => decide (c = 92) && decide (0 < gapP t)
theorem isGap_cons (c : UInt8) (t : List UInt8) : isGap (c :: t) = (decide (c = 92) && decide (0 < gapP t)) := rfl
/-- What is read: what is wrong, where it ends, its characters, its gaps. -/
structure RT where
  e : Int
  till : Nat
  out : List Int
  gaps : List (Nat × Nat)
/-- One step more ahead. -/
def RT.more (r : RT) (i n : Nat) (c : Int) (g : Bool) : RT := ⟨r.e, r.till, if c = -2 then r.out else c :: r.out, if g then (i, i + n) :: r.gaps else r.gaps⟩
/-- A text's characters, from a place on. -/
def readT (l : List UInt8) (i : Nat) : RT :=
  if h : i < l.length then
    if l[i]? = some 34 then ⟨0, i + 1, [], []⟩
    else match oneP true (l.drop i) with
      | .error e => ⟨e, i, [], []⟩
      | .ok (c, n) => (readT l (i + (n - 1) + 1)).more i n c (isGap (l.drop i))
  else ⟨50, i, [], []⟩
termination_by l.length - i
/-- A character's, from a place on. -/
def readC (l : List UInt8) (i : Nat) : RT :=
  if l[i]? = some 39 then ⟨50, i, [], []⟩
  else match oneP false (l.drop i) with
    | .error e => ⟨e, i, [], []⟩
    | .ok (c, n) => if l[i + n]? = some 39 then ⟨0, i + n + 1, [c], []⟩ else ⟨50, i + n, [], []⟩
/-- The literal at a place: its kind (13: a character, 14: a text), and what is read. -/
def readP (l : List UInt8) (i : Int) : Nat × RT :=
  if 0 ≤ i ∧ i < l.length ∧ l[i.toNat]? = some 34 then (14, readT l (i.toNat + 1))
  else if 0 ≤ i ∧ i < l.length ∧ l[i.toNat]? = some 39 then (13, readC l (i.toNat + 1))
  else (0, ⟨0, 0, [], []⟩)
/-- What is wrong with a text as a literal. -/
def wholeE (l : List UInt8) : Int := if (readP l 0).2.e ≠ 0 then (readP l 0).2.e else if (readP l 0).1 = 0 ∨ (readP l 0).2.till ≠ l.length then 50 else 0
/-- A text with its gaps narrow. -/
def plainG (l : List UInt8) : List (Nat × Nat) → Nat → List UInt8
  | [], a => l.drop a
  | (x, y) :: r, a => (l.take x).drop a ++ [92, 32, 92] ++ plainG l r y

theorem gapP_le (l : List UInt8) : gapP l ≤ l.length := by
  unfold gapP
  split
  · next h =>
    have := (List.getElem?_eq_some_iff.1 h.2).1
    omega
  · omega
theorem numP_bd (base : Int) (l : List UInt8) (v : Int) (n : Nat) (h : numP base l = some (v, n)) : 1 ≤ n ∧ n ≤ l.length := by
  unfold numP at h
  split at h
  · next hc =>
    injection h with h
    injection h with h1 h2
    rw [← h2]
    refine ⟨List.length_pos_iff.2 hc.1, ?_⟩
    have := (List.takeWhile_prefix (digB base) (l := l)).length_le
    exact this
  · cases h
theorem nameF_bd (l : List UInt8) (ws : List (List UInt8)) : ∀ (i : Nat) (r : Nat × Nat), r.2 ≤ l.length → (nameF l ws i r).2 ≤ l.length := by
  induction ws with
  | nil => intro i r h; exact h
  | cons w ws ih =>
    intro i r h
    rw [nameF_cons]
    apply ih
    split
    · next hc => exact (List.isPrefixOf_iff_prefix.1 hc.2).length_le
    · exact h
theorem nameP_snd (l : List UInt8) : (nameP l).2 = (nameF l namesL 0 (0, 0)).2 := by
  unfold nameP
  generalize nameF l namesL 0 (0, 0) = r
  split <;> rfl
theorem nameP_bd (l : List UInt8) : (nameP l).2 ≤ l.length := by
  rw [nameP_snd]
  exact nameF_bd l namesL 0 (0, 0) (Nat.zero_le _)
theorem escP_bd (l : List UInt8) (v : Int) (n : Nat) (h : escP l = some (v, n)) : 1 ≤ n ∧ n ≤ l.length := by
  cases l with
  | nil => cases h
  | cons c t =>
    rw [escP_cons] at h
    unfold escC at h
    cases hs : signP c with
    | some x => rw [hs] at h; simp only [Option.some.injEq, Prod.mk.injEq] at h; simp only [List.length_cons]; omega
    | none =>
      rw [hs] at h
      simp only at h
      split at h
      · simp only [Option.some.injEq, Prod.mk.injEq] at h; simp only [List.length_cons]; omega
      split at h
      · cases t with
        | nil => cases h
        | cons d t =>
          simp only at h
          split at h
          · simp only [Option.some.injEq, Prod.mk.injEq] at h; simp only [List.length_cons]; omega
          · cases h
      split at h
      · cases hn : numP 8 t with
        | none => rw [hn] at h; cases h
        | some p =>
          obtain ⟨v', n'⟩ := p
          rw [hn] at h
          simp only [Option.some.injEq, Prod.mk.injEq] at h
          have := numP_bd _ _ _ _ hn
          simp only [List.length_cons]; omega
      split at h
      · cases hn : numP 16 t with
        | none => rw [hn] at h; cases h
        | some p =>
          obtain ⟨v', n'⟩ := p
          rw [hn] at h
          simp only [Option.some.injEq, Prod.mk.injEq] at h
          have := numP_bd _ _ _ _ hn
          simp only [List.length_cons]; omega
      split at h
      · exact numP_bd _ _ _ _ h
      split at h
      · next hp =>
        simp only [Option.some.injEq, Prod.mk.injEq] at h
        have := nameP_bd (c :: t)
        omega
      · cases h
theorem oneP_bd (text : Bool) (l : List UInt8) (c : Int) (n : Nat) (h : oneP text l = .ok (c, n)) : 1 ≤ n ∧ n ≤ l.length := by
  cases l with
  | nil => cases h
  | cons b t =>
    rw [oneP_cons] at h
    unfold oneC at h
    split at h
    · split at h
      · simp only [Except.ok.injEq, Prod.mk.injEq] at h
        have := gapP_le t
        simp only [List.length_cons]; omega
      · cases hn : escP t with
        | none => rw [hn] at h; cases h
        | some p =>
          obtain ⟨v', n'⟩ := p
          rw [hn] at h
          simp only at h
          split at h
          · cases h
          · simp only [Except.ok.injEq, Prod.mk.injEq] at h
            have := escP_bd _ _ _ hn
            simp only [List.length_cons]; omega
    · split at h
      · cases h
      · simp only [Except.ok.injEq, Prod.mk.injEq] at h
        have := dec_len (b :: t) (by simp)
        omega
theorem readT_end (l : List UInt8) (i : Nat) (h : l.length ≤ i) : readT l i = ⟨50, i, [], []⟩ := by rw [readT, dif_neg (by omega)]
theorem readT_quote (l : List UInt8) (i : Nat) (h : l[i]? = some 34) : readT l i = ⟨0, i + 1, [], []⟩ := by
  rw [readT, dif_pos (List.getElem?_eq_some_iff.1 h).1, if_pos h]
theorem readT_bad (l : List UInt8) (i : Nat) (e : Int) (hi : i < l.length) (h : l[i]? ≠ some 34) (ho : oneP true (l.drop i) = .error e) : readT l i = ⟨e, i, [], []⟩ := by
  rw [readT, dif_pos hi, if_neg h, ho]
theorem readT_on (l : List UInt8) (i : Nat) (c : Int) (n : Nat) (hi : i < l.length) (h : l[i]? ≠ some 34) (ho : oneP true (l.drop i) = .ok (c, n)) : readT l i = (readT l (i + n)).more i n c (isGap (l.drop i)) := by
  have := oneP_bd _ _ _ _ ho
  rw [readT, dif_pos hi, if_neg h, ho]
  simp only
  rw [show i + (n - 1) + 1 = i + n from by omega]
end Go.Proofs.YtmgnpgbganjgfaaDoor
