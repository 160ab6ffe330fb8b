/- DERIVED. PLAIN: decimal digits; limbs. -/
import Derived.Test.YthcogfceighbpaaDoorNumP
import Derived.Lib.ItoaNum
set_option linter.unusedSimpArgs false
set_option linter.unusedVariables false
namespace Go.Proofs.YthcogfceighbpaaDoor

/-- What decimal digits are worth. -/
def nat10 (l : List UInt8) : Nat := l.foldl (fun v b => v * 10 + (b.toNat - 48)) 0
def allDig (l : List UInt8) : Prop := ∀ b ∈ l, 48 ≤ b.toNat ∧ b.toNat ≤ 57
theorem nat10_snoc (l : List UInt8) (b : UInt8) : nat10 (l ++ [b]) = nat10 l * 10 + (b.toNat - 48) := by unfold nat10; rw [List.foldl_append]; rfl
theorem nat10_fold (l : List UInt8) : ∀ v, l.foldl (fun v b => v * 10 + (b.toNat - 48)) v = v * 10 ^ l.length + nat10 l := by
  induction l with
  | nil => intro v; simp [nat10]
  | cons b t ih =>
    intro v
    unfold nat10
    simp only [List.foldl_cons]
    rw [ih, ih (0 * 10 + (b.toNat - 48)), List.length_cons, Nat.pow_succ]
    simp only [Nat.zero_mul, Nat.zero_add, Nat.add_mul, Nat.add_assoc, Nat.mul_assoc, Nat.mul_comm 10]
theorem nat10_append (a b : List UInt8) : nat10 (a ++ b) = nat10 a * 10 ^ b.length + nat10 b := by
  unfold nat10
  rw [List.foldl_append, nat10_fold b]; rfl
theorem nat10_zero (n : Nat) (l : List UInt8) : nat10 (List.replicate n 48 ++ l) = nat10 l := by
  rw [nat10_append]
  have : ∀ n, nat10 (List.replicate n 48) = 0 := by
    intro n
    induction n with
    | zero => rfl
    | succ n ih => rw [List.replicate_succ', nat10_snoc, ih]; rfl
  rw [this]; simp
theorem decDigits_dig (u : Nat) : allDig (Lib.decDigits u) := by
  induction u using Nat.strongRecOn with
  | _ u ih =>
    rw [Lib.decDigits]
    split
    · next h =>
      intro b hb
      rw [List.mem_singleton] at hb
      subst hb
      rw [UInt8.toNat_ofNat']; omega
    · next h =>
      intro b hb
      rw [List.mem_append, List.mem_singleton] at hb
      rcases hb with hb | rfl
      · exact ih (u / 10) (by omega) b hb
      · rw [UInt8.toNat_ofNat']; omega
theorem decDigits_ne (u : Nat) : Lib.decDigits u ≠ [] := by rw [Lib.decDigits]; split <;> simp
theorem nat10_dec (u : Nat) : nat10 (Lib.decDigits u) = u := by
  induction u using Nat.strongRecOn with
  | _ u ih =>
    rw [Lib.decDigits]
    split
    · next h => unfold nat10; simp only [List.foldl_cons, List.foldl_nil, UInt8.toNat_ofNat']; omega
    · next h => rw [nat10_snoc, ih (u / 10) (by omega), UInt8.toNat_ofNat']; omega
/-- A row of digits that does not begin with a nought is the numeral of what it is worth. -/
theorem dec_of (l : List UInt8) (hd : allDig l) (h0 : l.head? ≠ some 48) (hne : l ≠ []) : Lib.decDigits (nat10 l) = l ∧ 0 < nat10 l := by
  have key : ∀ n, ∀ l : List UInt8, l.length = n → allDig l → l.head? ≠ some 48 → l ≠ [] → Lib.decDigits (nat10 l) = l ∧ 0 < nat10 l := by
    intro n
    induction n with
    | zero => intro l hl _ _ hne; exact absurd (List.length_eq_zero_iff.1 hl) hne
    | succ n ih =>
      intro l hl hd h0 hne
      obtain ⟨m, b, rfl⟩ : ∃ m b, l = m ++ [b] := ⟨l.dropLast, l.getLast hne, (List.dropLast_concat_getLast hne).symm⟩
      have hb := hd b (by simp)
      rw [nat10_snoc]
      by_cases hm : m = []
      · subst hm
        have hb0 : b ≠ 48 := by intro e; subst e; simp at h0
        have hbn : b.toNat ≠ 48 := fun e => hb0 (UInt8.toNat_inj.1 (by rw [e]; rfl))
        have hz : nat10 [] = 0 := rfl
        rw [hz, Nat.zero_mul, Nat.zero_add, Lib.decDigits, dif_pos (by omega)]
        refine ⟨?_, by omega⟩
        simp only [List.nil_append, List.cons.injEq, and_true]
        apply UInt8.toNat_inj.1
        rw [UInt8.toNat_ofNat']; omega
      · obtain ⟨h1, h2⟩ := ih m (by simpa using hl) (fun c hc => hd c (by simp [hc])) (by cases m with | nil => exact absurd rfl hm | cons c t => simpa using h0) hm
        rw [Lib.decDigits, dif_neg (by omega)]
        refine ⟨?_, by omega⟩
        rw [show (nat10 m * 10 + (b.toNat - 48)) / 10 = nat10 m from by omega, h1]
        congr 2
        apply UInt8.toNat_inj.1
        rw [UInt8.toNat_ofNat']; omega
  exact key l.length l rfl hd h0 hne
theorem dec_head (u : Nat) (h : 0 < u) : (Lib.decDigits u).head? ≠ some 48 := by
  induction u using Nat.strongRecOn with
  | _ u ih =>
    rw [Lib.decDigits]
    split
    · next h2 =>
      simp only [List.head?_cons, ne_eq, Option.some.injEq]
      intro e
      have := congrArg UInt8.toNat e
      rw [UInt8.toNat_ofNat'] at this
      simp at this; omega
    · next h2 =>
      have h3 := ih (u / 10) (by omega) (by omega)
      cases hq : Lib.decDigits (u / 10) with
      | nil => exact absurd hq (decDigits_ne _)
      | cons a t => rw [hq] at h3; simpa using h3
/-- Without noughts ahead; one nought, if there is nothing else. -/
def bareL : List UInt8 → List UInt8
  | [] => []
  | [b] => [b]
  | b :: c :: t => if b = 48 then bareL (c :: t) else b :: c :: t
theorem bare_dec (l : List UInt8) (hd : allDig l) (hne : l ≠ []) : bareL l = Lib.decDigits (nat10 l) := by
  induction l with
  | nil => exact absurd rfl hne
  | cons b t ih =>
    cases t with
    | nil =>
      rw [bareL]
      have hb := hd b (by simp)
      unfold nat10
      simp only [List.foldl_cons, List.foldl_nil, Nat.zero_mul, Nat.zero_add]
      rw [Lib.decDigits, dif_pos (by omega)]
      simp only [List.cons.injEq, and_true]
      apply UInt8.toNat_inj.1
      rw [UInt8.toNat_ofNat']; omega
    | cons c t =>
      rw [bareL]
      split
      · next h =>
        rw [ih (fun x hx => hd x (by simp at hx ⊢; right; exact hx)) (by simp)]
        subst h
        have := nat10_zero 1 (c :: t)
        rw [← this]; rfl
      · next h => rw [(dec_of (b :: c :: t) hd (by simpa using h) (by simp)).1]
/-- What a whole number's digits are worth. -/
def natB (base : Int) (l : List UInt8) : Nat := l.foldl (fun v b => v * base.toNat + (dig b.toNat base).toNat) 0
theorem natB_snoc (base : Int) (l : List UInt8) (b : UInt8) : natB base (l ++ [b]) = natB base l * base.toNat + (dig b.toNat base).toNat := by unfold natB; rw [List.foldl_append]; rfl
def decimalX (l : List UInt8) : List UInt8 × Int :=
  if isInt l = true then (if 1000 < l.length then ([], 3) else (Lib.decDigits (natB (prefX l).1 (l.drop (prefX l).2)), 0)) else ([], 40)

/-- What limbs are worth, the lowest ahead. -/
def limbV : List Nat → Nat
  | [] => 0
  | x :: r => x + 1000000000 * limbV r
theorem limbV_append (a : List Nat) (x : Nat) : limbV (a ++ [x]) = limbV a + 1000000000 ^ a.length * x := by
  induction a with
  | nil => simp [limbV]
  | cons y r ih => simp only [List.cons_append, limbV, ih, List.length_cons, Nat.pow_succ, Nat.mul_add]; rw [Nat.mul_comm (1000000000 ^ r.length) 1000000000, Nat.mul_assoc, Nat.add_assoc]
/-- So many times, and some more: the limbs, and what is left over. -/
def mulA (by_ : Nat) : List Nat → Nat → List Nat × Nat
  | [], c => ([], c)
  | x :: r, c => ((c + x * by_) % 1000000000 :: (mulA by_ r ((c + x * by_) / 1000000000)).1, (mulA by_ r ((c + x * by_) / 1000000000)).2)
def timesL (by_ : Nat) (l : List Nat) (c : Nat) : List Nat := if 0 < (mulA by_ l c).2 then (mulA by_ l c).1 ++ [(mulA by_ l c).2] else (mulA by_ l c).1
structure Good (l : List Nat) : Prop where
  lim : ∀ x ∈ l, x < 1000000000
  top : ∀ x, l.getLast? = some x → 0 < x
theorem mulA_len (by_ : Nat) (l : List Nat) : ∀ c, (mulA by_ l c).1.length = l.length := by
  induction l with
  | nil => intro c; rfl
  | cons x r ih => intro c; simp only [mulA, List.length_cons, ih]
theorem mulA_val (by_ : Nat) (l : List Nat) : ∀ c, limbV (mulA by_ l c).1 + 1000000000 ^ l.length * (mulA by_ l c).2 = limbV l * by_ + c := by
  induction l with
  | nil => intro c; simp [mulA, limbV]
  | cons x r ih =>
    intro c
    simp only [mulA, limbV, List.length_cons, Nat.pow_succ]
    have h := ih ((c + x * by_) / 1000000000)
    have h2 := Nat.mod_add_div (c + x * by_) 1000000000
    generalize limbV (mulA by_ r ((c + x * by_) / 1000000000)).1 = A at *
    generalize (mulA by_ r ((c + x * by_) / 1000000000)).2 = B at *
    rw [Nat.mul_comm (1000000000 ^ r.length) 1000000000, Nat.mul_assoc, Nat.add_assoc, ← Nat.mul_add, h, Nat.mul_add, ← Nat.add_assoc, Nat.add_mul]
    generalize (c + x * by_) % 1000000000 = M at *
    generalize (c + x * by_) / 1000000000 = D at *
    rw [Nat.mul_assoc]
    generalize limbV r * by_ = E
    omega
theorem mulA_lim (by_ : Nat) (l : List Nat) (hb : by_ ≤ 16) : ∀ c, c ≤ 16 → (∀ x ∈ l, x < 1000000000) → (∀ x ∈ (mulA by_ l c).1, x < 1000000000) ∧ (mulA by_ l c).2 ≤ 16 := by
  induction l with
  | nil => intro c hc _; exact ⟨by simp [mulA], hc⟩
  | cons x r ih =>
    intro c hc hl
    have hx := hl x (by simp)
    have hm : x * by_ ≤ 999999999 * 16 := Nat.mul_le_mul (by omega) hb
    obtain ⟨h1, h2⟩ := ih ((c + x * by_) / 1000000000) (by omega) (fun y hy => hl y (by simp [hy]))
    refine ⟨fun y hy => ?_, h2⟩
    simp only [mulA, List.mem_cons] at hy
    rcases hy with rfl | hy
    · exact Nat.mod_lt _ (by decide)
    · exact h1 y hy
theorem mulA_top (by_ : Nat) (l : List Nat) (hb : 1 ≤ by_) : ∀ c, (∀ x, l.getLast? = some x → 0 < x) → ∀ x, (mulA by_ l c).1.getLast? = some x → 0 < x ∨ 0 < (mulA by_ l c).2 := by
  induction l with
  | nil => intro c _ x h; simp [mulA] at h
  | cons y r ih =>
    intro c ht x h
    cases r with
    | nil =>
      have hy := ht y rfl
      simp only [mulA, List.getLast?_singleton, Option.some.injEq] at h ⊢
      have : 1 ≤ y * by_ := Nat.mul_pos hy hb
      have h2 := Nat.mod_add_div (c + y * by_) 1000000000
      subst h
      by_cases h3 : 0 < (c + y * by_) / 1000000000
      · exact .inr h3
      · left; omega
    | cons z r =>
      simp only [mulA] at h ⊢
      rw [List.getLast?_cons_cons] at h
      exact ih _ (fun x hx => ht x (by rw [List.getLast?_cons_cons]; exact hx)) x (by simpa only [mulA] using h)
theorem times_good (by_ : Nat) (l : List Nat) (c : Nat) (hb : 1 ≤ by_) (hb2 : by_ ≤ 16) (hc : c ≤ 16) (h : Good l) : Good (timesL by_ l c) ∧ limbV (timesL by_ l c) = limbV l * by_ + c := by
  have hv := mulA_val by_ l c
  have hl := mulA_len by_ l c
  obtain ⟨h1, h2⟩ := mulA_lim by_ l hb2 c hc h.lim
  have ht := mulA_top by_ l hb c h.top
  unfold timesL
  split
  · next h0 =>
    refine ⟨⟨fun x hx => ?_, fun x hx => ?_⟩, ?_⟩
    · rw [List.mem_append, List.mem_singleton] at hx
      rcases hx with hx | rfl
      · exact h1 x hx
      · omega
    · rw [List.getLast?_concat] at hx
      injection hx with hx
      omega
    · rw [limbV_append, hl, hv]
  · next h0 =>
    refine ⟨⟨h1, fun x hx => (ht x hx).resolve_right h0⟩, ?_⟩
    rw [show (mulA by_ l c).2 = 0 from by omega, Nat.mul_zero, Nat.add_zero] at hv
    exact hv
/-- Nine digits. -/
def pad9 (x : Nat) : List UInt8 := List.replicate (9 - (Lib.decDigits x).length) 48 ++ Lib.decDigits x
theorem decDigits_len (u n : Nat) (h : u < 10 ^ (n + 1)) : (Lib.decDigits u).length ≤ n + 1 := by
  induction n generalizing u with
  | zero => rw [Lib.decDigits, dif_pos (by simpa using h)]; simp
  | succ n ih =>
    rw [Lib.decDigits]
    split
    · simp
    · rw [List.length_append, List.length_singleton]
      have := ih (u / 10) (by rw [Nat.pow_succ] at h; omega)
      omega
theorem pad9_len (x : Nat) (h : x < 1000000000) : (pad9 x).length = 9 := by
  have := decDigits_len x 8 (by simpa using h)
  unfold pad9; rw [List.length_append, List.length_replicate]; omega
theorem pad9_val (x : Nat) : nat10 (pad9 x) = x := by unfold pad9; rw [nat10_zero, nat10_dec]
theorem pad9_dig (x : Nat) : allDig (pad9 x) := by
  intro b hb
  unfold pad9 at hb
  rw [List.mem_append] at hb
  rcases hb with hb | hb
  · rw [List.mem_replicate] at hb; rw [hb.2]; decide
  · exact decDigits_dig x b hb
/-- The text of limbs, the highest ahead. -/
def lowL : List Nat → List UInt8
  | [] => []
  | x :: r => lowL r ++ pad9 x
def limbText (l : List Nat) : List UInt8 :=
  match l.getLast? with
  | none => [48]
  | some t => Lib.decDigits t ++ lowL l.dropLast
theorem lowL_all (l : List Nat) (h : ∀ x ∈ l, x < 1000000000) : allDig (lowL l) ∧ (lowL l).length = 9 * l.length ∧ nat10 (lowL l) = limbV l := by
  induction l with
  | nil => exact ⟨(by intro b hb; cases hb), rfl, rfl⟩
  | cons x r ih =>
    obtain ⟨h1, h2, h3⟩ := ih (fun y hy => h y (by simp [hy]))
    have hp := pad9_len x (h x (by simp))
    refine ⟨fun b hb => ?_, ?_, ?_⟩
    · rw [lowL, List.mem_append] at hb
      rcases hb with hb | hb
      · exact h1 b hb
      · exact pad9_dig x b hb
    · rw [lowL, List.length_append, h2, hp, List.length_cons]; omega
    · rw [lowL, nat10_append, h3, pad9_val, hp, limbV]; omega
theorem limb_text (l : List Nat) (h : Good l) : limbText l = Lib.decDigits (limbV l) := by
  unfold limbText
  cases hl : l.getLast? with
  | none =>
    rw [List.getLast?_eq_none_iff.1 hl]
    simp [limbV, Lib.decDigits]
  | some t =>
    have ht := h.top t hl
    obtain ⟨m, rfl⟩ : ∃ m, l = m ++ [t] := by
      have hne : l ≠ [] := by intro e; subst e; cases hl
      rw [List.getLast?_eq_some_getLast hne] at hl
      injection hl with hl
      exact ⟨l.dropLast, by rw [← hl]; exact (List.dropLast_concat_getLast hne).symm⟩
    simp only [List.dropLast_concat]
    obtain ⟨h1, h2, h3⟩ := lowL_all m (fun x hx => h.lim x (by simp [hx]))
    have hne := decDigits_ne t
    have hd : allDig (Lib.decDigits t ++ lowL m) := fun b hb => by
      rw [List.mem_append] at hb
      rcases hb with hb | hb
      · exact decDigits_dig t b hb
      · exact h1 b hb
    have hh : (Lib.decDigits t ++ lowL m).head? ≠ some 48 := by
      have := dec_head t ht
      cases hq : Lib.decDigits t with
      | nil => exact absurd hq hne
      | cons a r => rw [hq] at this; simpa using this
    have := (dec_of _ hd hh (by simp [hne])).1
    rw [← this, nat10_append, nat10_dec, h3, limbV_append, h2]
    congr 1
    rw [Nat.pow_mul, Nat.add_comm, Nat.mul_comm]
end Go.Proofs.YthcogfceighbpaaDoor
