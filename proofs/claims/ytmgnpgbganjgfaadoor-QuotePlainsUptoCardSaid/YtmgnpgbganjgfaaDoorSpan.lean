/- DERIVED. PLAIN: texts gone through rune by rune: how far a predicate holds; the first fault. -/
import Derived.Test.YtmgnpgbganjgfaaDoorDecMore
import Derived.Test.YtmgnpgbganjgfaaDoorCls
set_option linter.unusedSimpArgs false
set_option linter.unusedVariables false
namespace Go.Proofs.YtmgnpgbganjgfaaDoor

def spanF (p : Nat → Bool) : Nat → List UInt8 → Nat
  | 0, _ => 0
  | f + 1, l => if l = [] then 0 else if p (dec l).1 then (dec l).2 + spanF p f (l.drop (dec l).2) else 0
/-- How many bytes the runes have that begin a text and of which a predicate holds. -/
def span (p : Nat → Bool) (l : List UInt8) : Nat := spanF p l.length l

theorem spanF_more (p : Nat → Bool) : ∀ (f g : Nat) (l : List UInt8), l.length ≤ f → l.length ≤ g → spanF p f l = spanF p g l
  | 0, g, l, hf, _ => by
    obtain rfl : l = [] := List.eq_nil_of_length_eq_zero (by omega)
    cases g <;> simp [spanF]
  | f + 1, 0, l, _, hg => by
    obtain rfl : l = [] := List.eq_nil_of_length_eq_zero (by omega)
    simp [spanF]
  | f + 1, g + 1, l, hf, hg => by
    unfold spanF
    by_cases h : l = []
    · simp [h]
    · have hd := dec_len l h
      rw [if_neg h, if_neg h, spanF_more p f g (l.drop (dec l).2) (by rw [List.length_drop]; omega) (by rw [List.length_drop]; omega)]

theorem span_nil (p : Nat → Bool) : span p [] = 0 := rfl
theorem span_yes (p : Nat → Bool) (l : List UInt8) (h : l ≠ []) (hp : p (dec l).1 = true) : span p l = (dec l).2 + span p (l.drop (dec l).2) := by
  have hl : 0 < l.length := List.length_pos_iff.2 h
  have hd := dec_len l h
  unfold span
  obtain ⟨n, hn⟩ : ∃ n, l.length = n + 1 := ⟨l.length - 1, by omega⟩
  rw [hn]
  conv => lhs; unfold spanF
  rw [if_neg h, if_pos hp, spanF_more p n _ (l.drop (dec l).2) (by rw [List.length_drop]; omega) (Nat.le_refl _)]
theorem span_no (p : Nat → Bool) (l : List UInt8) (hp : p (dec l).1 = false) : span p l = 0 := by
  unfold span
  cases l with
  | nil => rfl
  | cons a t => unfold spanF; simp [hp]

theorem span_le (p : Nat → Bool) : ∀ (n : Nat) (l : List UInt8), l.length ≤ n → span p l ≤ l.length
  | 0, l, h => by
    obtain rfl : l = [] := List.eq_nil_of_length_eq_zero (by omega)
    exact Nat.le_refl _
  | n + 1, l, h => by
    by_cases hl : l = []
    · subst hl; exact Nat.le_refl _
    have hd := dec_len l hl
    by_cases hp : p (dec l).1 = true
    · rw [span_yes p l hl hp]
      have := span_le p n (l.drop (dec l).2) (by rw [List.length_drop]; omega)
      rw [List.length_drop] at this
      omega
    · rw [span_no p l (by simpa using hp)]; omega
theorem span_le' (p : Nat → Bool) (l : List UInt8) : span p l ≤ l.length := span_le p l.length l (Nat.le_refl _)

/-- How far the loop has come, in a text that is gone through from its beginning. -/
def Come (p : Nat → Bool) (l : List UInt8) (pos : Nat) : Prop := pos ≤ l.length ∧ span p l = pos + span p (l.drop pos)
theorem Come.start (p : Nat → Bool) (l : List UInt8) : Come p l 0 := ⟨Nat.zero_le _, by simp⟩
theorem drop_ne {l : List UInt8} {pos : Nat} (h : pos < l.length) : l.drop pos ≠ [] := by
  intro e
  have := congrArg List.length e
  simp at this
  omega
theorem Come.next {p : Nat → Bool} {l : List UInt8} {pos : Nat} (h : Come p l pos) (hl : pos < l.length) (hp : p (dec (l.drop pos)).1 = true) : Come p l (pos + (dec (l.drop pos)).2) := by
  have hd := dec_len _ (drop_ne hl)
  rw [List.length_drop] at hd
  refine ⟨by omega, ?_⟩
  rw [h.2, span_yes p _ (drop_ne hl) hp, List.drop_drop]
  omega
theorem Come.stop {p : Nat → Bool} {l : List UInt8} {pos : Nat} (h : Come p l pos) (hp : p (dec (l.drop pos)).1 = false) : span p l = pos := by
  rw [h.2, span_no p _ hp]; rfl
theorem Come.end {p : Nat → Bool} {l : List UInt8} {pos : Nat} (h : Come p l pos) (hl : ¬ pos < l.length) : span p l = pos := by
  rw [h.2, List.drop_eq_nil_of_le (by omega), span_nil]; rfl
theorem Come.size {p : Nat → Bool} {l : List UInt8} {pos : Nat} (h : Come p l pos) (hl : ¬ pos < l.length) : pos = l.length := Nat.le_antisymm h.1 (by omega)

/-- Run: A5. -/
def isCls (k : Int) (c : Nat) : Bool := cls c == k
def runL (l : List UInt8) (at' k : Int) : Int := if 0 ≤ at' ∧ at' ≤ l.length then at' + span (isCls k) (l.drop at'.toNat) else 0

/-- Check: where the first fault is, from a place on; the fault's number. -/
def checkF : Nat → List UInt8 → Nat × Int
  | 0, _ => (0, 0)
  | f + 1, l => if l = [] then (0, 0) else if okRune l then ((dec l).2 + (checkF f (l.drop (dec l).2)).1, (checkF f (l.drop (dec l).2)).2) else (0, 10)
/-- The first byte at which no rune begins (all of them, if there is none), and what is wrong. -/
def checkL (l : List UInt8) : Nat × Int := checkF l.length l
theorem checkF_more : ∀ (f g : Nat) (l : List UInt8), l.length ≤ f → l.length ≤ g → checkF f l = checkF g l
  | 0, g, l, hf, _ => by
    obtain rfl : l = [] := List.eq_nil_of_length_eq_zero (by omega)
    cases g <;> simp [checkF]
  | f + 1, 0, l, _, hg => by
    obtain rfl : l = [] := List.eq_nil_of_length_eq_zero (by omega)
    simp [checkF]
  | f + 1, g + 1, l, hf, hg => by
    unfold checkF
    by_cases h : l = []
    · simp [h]
    · have hd := dec_len l h
      rw [if_neg h, if_neg h, checkF_more f g (l.drop (dec l).2) (by rw [List.length_drop]; omega) (by rw [List.length_drop]; omega)]
theorem check_nil : checkL [] = (0, 0) := rfl
theorem check_yes (l : List UInt8) (h : l ≠ []) (hp : okRune l = true) : checkL l = ((dec l).2 + (checkL (l.drop (dec l).2)).1, (checkL (l.drop (dec l).2)).2) := by
  have hl : 0 < l.length := List.length_pos_iff.2 h
  have hd := dec_len l h
  unfold checkL
  obtain ⟨n, hn⟩ : ∃ n, l.length = n + 1 := ⟨l.length - 1, by omega⟩
  rw [hn]
  conv => lhs; unfold checkF
  rw [if_neg h, if_pos hp, checkF_more n _ (l.drop (dec l).2) (by rw [List.length_drop]; omega) (Nat.le_refl _)]
theorem check_no (l : List UInt8) (h : l ≠ []) (hp : okRune l = false) : checkL l = (0, 10) := by
  unfold checkL
  cases l with
  | nil => exact absurd rfl h
  | cons a t => unfold checkF; simp [hp]

def CheckCome (l : List UInt8) (pos : Nat) : Prop := pos ≤ l.length ∧ checkL l = (pos + (checkL (l.drop pos)).1, (checkL (l.drop pos)).2)
theorem CheckCome.start (l : List UInt8) : CheckCome l 0 := ⟨Nat.zero_le _, by simp⟩
theorem CheckCome.next {l : List UInt8} {pos : Nat} (h : CheckCome l pos) (hl : pos < l.length) (hp : okRune (l.drop pos) = true) : CheckCome l (pos + (dec (l.drop pos)).2) := by
  have hd := dec_len _ (drop_ne hl)
  rw [List.length_drop] at hd
  refine ⟨by omega, ?_⟩
  rw [h.2, check_yes _ (drop_ne hl) hp, List.drop_drop]
  simp only [Nat.add_assoc]
theorem CheckCome.stop {l : List UInt8} {pos : Nat} (h : CheckCome l pos) (hl : pos < l.length) (hp : okRune (l.drop pos) = false) : checkL l = (pos, 10) := by
  rw [h.2, check_no _ (drop_ne hl) hp]; rfl
theorem CheckCome.end {l : List UInt8} {pos : Nat} (h : CheckCome l pos) (hl : ¬ pos < l.length) : checkL l = (l.length, 0) := by
  have e : pos = l.length := Nat.le_antisymm h.1 (by omega)
  rw [h.2, List.drop_eq_nil_of_le (by omega), check_nil, e]; rfl

theorem check_ends : ∀ (n : Nat) (l : List UInt8), l.length ≤ n → ((checkL l).2 = 0 ∧ (checkL l).1 = l.length) ∨ ((checkL l).2 = 10 ∧ (checkL l).1 < l.length)
  | 0, l, h => by
    obtain rfl : l = [] := List.eq_nil_of_length_eq_zero (by omega)
    exact .inl ⟨rfl, rfl⟩
  | n + 1, l, h => by
    by_cases hl : l = []
    · subst hl; exact .inl ⟨rfl, rfl⟩
    have hd := dec_len l hl
    have h0 : 0 < l.length := List.length_pos_iff.2 hl
    by_cases hp : okRune l = true
    · rw [check_yes l hl hp]
      have := check_ends n (l.drop (dec l).2) (by rw [List.length_drop]; omega)
      rw [List.length_drop] at this
      simp only
      omega
    · rw [check_no l hl (by simpa using hp)]; exact .inr ⟨rfl, h0⟩
theorem check_join : ∀ (n : Nat) (a b : List UInt8), a.length ≤ n → (checkL a).2 = 0 → checkL (a ++ b) = (a.length + (checkL b).1, (checkL b).2)
  | 0, a, b, h, _ => by
    obtain rfl : a = [] := List.eq_nil_of_length_eq_zero (by omega)
    simp
  | n + 1, a, b, h, h0 => by
    by_cases hl : a = []
    · subst hl; simp
    have hd := dec_len a hl
    by_cases hp : okRune a = true
    · rw [check_yes a hl hp] at h0
      have hda := dec_append a b hl hp
      have hok : okRune (a ++ b) = true := by unfold okRune at *; rw [hda]; exact hp
      rw [check_yes (a ++ b) (by simp [hl]) hok, hda, List.drop_append_of_le_length hd.2.2, check_join n _ b (by rw [List.length_drop]; omega) h0, List.length_drop]
      simp only [Prod.mk.injEq, and_true]
      omega
    · rw [check_no a hl (by simpa using hp)] at h0; cases h0
end Go.Proofs.YtmgnpgbganjgfaaDoor
