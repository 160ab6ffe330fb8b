/- DERIVED. PLAIN: digits, the lowest ahead, so many times, and some more. -/
import Derived.Test.YthcogfceighbpaaDoorNumQ
set_option linter.unusedSimpArgs false
set_option linter.unusedVariables false
namespace Go.Proofs.YthcogfceighbpaaDoor

def valT : List Nat → Nat
  | [] => 0
  | x :: r => x + 10 * valT r
theorem valT_append (a : List Nat) (x : Nat) : valT (a ++ [x]) = valT a + 10 ^ a.length * x := by
  induction a with
  | nil => simp [valT]
  | cons y r ih => simp only [List.cons_append, valT, ih, List.length_cons, Nat.pow_succ, Nat.mul_add]; rw [Nat.mul_comm (10 ^ r.length) 10, Nat.mul_assoc, Nat.add_assoc]
def mulT (by_ : Nat) : List Nat → Nat → List Nat × Nat
  | [], c => ([], c)
  | x :: r, c => ((c + x * by_) % 10 :: (mulT by_ r ((c + x * by_) / 10)).1, (mulT by_ r ((c + x * by_) / 10)).2)
theorem mulT_len (by_ : Nat) (l : List Nat) : ∀ c, (mulT by_ l c).1.length = l.length := by
  induction l with
  | nil => intro c; rfl
  | cons x r ih => intro c; simp only [mulT, List.length_cons, ih]
theorem mulT_val (by_ : Nat) (l : List Nat) : ∀ c, valT (mulT by_ l c).1 + 10 ^ l.length * (mulT by_ l c).2 = valT l * by_ + c := by
  induction l with
  | nil => intro c; simp [mulT, valT]
  | cons x r ih =>
    intro c
    simp only [mulT, valT, List.length_cons, Nat.pow_succ]
    have h := ih ((c + x * by_) / 10)
    have h2 := Nat.mod_add_div (c + x * by_) 10
    generalize valT (mulT by_ r ((c + x * by_) / 10)).1 = A at *
    generalize (mulT by_ r ((c + x * by_) / 10)).2 = B at *
    rw [Nat.mul_comm (10 ^ r.length) 10, Nat.mul_assoc, Nat.add_assoc, ← Nat.mul_add, h, Nat.mul_add, ← Nat.add_assoc, Nat.add_mul]
    generalize (c + x * by_) % 10 = M at *
    generalize (c + x * by_) / 10 = D at *
    rw [Nat.mul_assoc]
    generalize valT r * by_ = E
    omega
theorem mulT_lim (by_ : Nat) (l : List Nat) (hb : by_ ≤ 16) : ∀ c, c ≤ 16 → (∀ x ∈ l, x < 10) → (∀ x ∈ (mulT by_ l c).1, x < 10) ∧ (mulT by_ l c).2 ≤ 16 := by
  induction l with
  | nil => intro c hc _; exact ⟨by simp [mulT], hc⟩
  | cons x r ih =>
    intro c hc hl
    have hx := hl x (by simp)
    have hm : x * by_ ≤ 9 * 16 := Nat.mul_le_mul (by omega) hb
    obtain ⟨h1, h2⟩ := ih ((c + x * by_) / 10) (by omega) (fun y hy => hl y (by simp [hy]))
    refine ⟨fun y hy => ?_, h2⟩
    simp only [mulT, List.mem_cons] at hy
    rcases hy with rfl | hy
    · exact Nat.mod_lt _ (by decide)
    · exact h1 y hy
theorem mulT_snoc (by_ : Nat) (a : List Nat) (x : Nat) : ∀ c, mulT by_ (a ++ [x]) c = ((mulT by_ a c).1 ++ [((mulT by_ a c).2 + x * by_) % 10], ((mulT by_ a c).2 + x * by_) / 10) := by
  induction a with
  | nil => intro c; rfl
  | cons y r ih => intro c; simp only [List.cons_append, mulT, ih]
/-- What the loop has come to. -/
def TenAt (by_ : Nat) (l : List Nat) (c i : Nat) : List Nat := (mulT by_ (l.take i) c).1 ++ l.drop i
theorem tenAt_len (by_ : Nat) (l : List Nat) (c i : Nat) (h : i ≤ l.length) : (TenAt by_ l c i).length = l.length := by
  unfold TenAt; rw [List.length_append, mulT_len, List.length_take, List.length_drop]; omega
theorem tenAt_get (by_ : Nat) (l : List Nat) (c i : Nat) (h : i < l.length) : (TenAt by_ l c i)[i]? = some l[i] := by
  unfold TenAt
  rw [List.getElem?_append_right (by rw [mulT_len, List.length_take]; omega), mulT_len, List.length_take, show i - min i l.length = 0 from by omega, List.getElem?_drop, Nat.add_zero, List.getElem?_eq_getElem h]
theorem tenAt_step (by_ : Nat) (l : List Nat) (c i : Nat) (h : i < l.length) : (TenAt by_ l c i).set i (((mulT by_ (l.take i) c).2 + l[i] * by_) % 10) = TenAt by_ l c (i + 1) ∧ (mulT by_ (l.take (i + 1)) c).2 = ((mulT by_ (l.take i) c).2 + l[i] * by_) / 10 := by
  unfold TenAt
  rw [List.take_succ_eq_append_getElem h, mulT_snoc]
  refine ⟨?_, rfl⟩
  rw [List.set_append_right _ _ (by rw [mulT_len, List.length_take]; omega), mulT_len, List.length_take, List.drop_eq_getElem_cons h, show i - min i l.length = 0 from by omega, List.set_cons_zero, List.append_assoc]
  rfl
theorem tenAt_zero (by_ : Nat) (l : List Nat) (c : Nat) : TenAt by_ l c 0 = l := by unfold TenAt; simp [mulT]
theorem tenAt_all (by_ : Nat) (l : List Nat) (c : Nat) : TenAt by_ l c l.length = (mulT by_ l c).1 := by unfold TenAt; rw [List.take_length, List.drop_length, List.append_nil]

/-- The byte of a digit; the text of digits, from the highest down to one. -/
def byteT (x : Nat) : UInt8 := UInt8.ofNat (48 + x)
theorem byteT_nat (x : Nat) (h : x < 10) : (byteT x).toNat = 48 + x := by unfold byteT; rw [UInt8.toNat_ofNat']; omega
def topT (l : List Nat) (k : Nat) : List UInt8 := ((l.drop k).reverse).map byteT
theorem topT_step (l : List Nat) (k : Nat) (h : k < l.length) : topT l k = topT l (k + 1) ++ [byteT l[k]] := by
  unfold topT
  rw [List.drop_eq_getElem_cons h, List.reverse_cons, List.map_append]; rfl
theorem topT_end (l : List Nat) : topT l l.length = [] := by unfold topT; rw [List.drop_length]; rfl
theorem topT_len (l : List Nat) (k : Nat) : (topT l k).length = l.length - k := by unfold topT; simp
theorem topT_val (l : List Nat) (h : ∀ x ∈ l, x < 10) : nat10 (topT l 0) = valT l := by
  unfold topT
  rw [List.drop_zero]
  induction l with
  | nil => rfl
  | cons x r ih =>
    rw [List.reverse_cons, List.map_append, List.map_singleton, nat10_snoc, ih (fun y hy => h y (by simp [hy])), byteT_nat x (h x (by simp)), valT]
    omega
theorem topT_dig (l : List Nat) (h : ∀ x ∈ l, x < 10) : allDig (topT l 0) := by
  intro b hb
  unfold topT at hb
  rw [List.drop_zero] at hb
  simp only [List.mem_map, List.mem_reverse] at hb
  obtain ⟨x, hx, rfl⟩ := hb
  rw [byteT_nat x (h x hx)]
  have := h x hx
  omega
theorem topT_bare (l : List Nat) (h : ∀ x ∈ l, x < 10) (h0 : 0 < l.length) : bareL (topT l 0) = Lib.decDigits (valT l) := by
  rw [bare_dec _ (topT_dig l h) (by intro e; have := topT_len l 0; rw [e] at this; simp at this; omega), topT_val l h]
end Go.Proofs.YthcogfceighbpaaDoor
