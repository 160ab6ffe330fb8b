/- DERIVED. The walks of number's worth and Same. -/
import Derived.Test.YthcogfceighbpaaDoorNumI
set_option linter.unusedSimpArgs false
set_option linter.unusedVariables false
namespace Go.Proofs.YthcogfceighbpaaDoor
open Go.RowKit

theorem natB_lt (base : Int) (h : base.toNat ≤ 16) (l : List UInt8) : natB base l < 10 ^ (2 * l.length) := by
  have key : ∀ (l : List UInt8) (v : Nat), l.foldl (fun v b => v * base.toNat + (dig b.toNat base).toNat) v < (v + 1) * 10 ^ (2 * l.length) := by
    intro l
    induction l with
    | nil => intro v; simp
    | cons b t ih =>
      intro v
      rw [List.foldl_cons]
      refine Nat.lt_of_lt_of_le (ih _) ?_
      rw [List.length_cons, show 2 * (t.length + 1) = 2 * t.length + 2 from by omega, Nat.pow_add, Nat.mul_comm (10 ^ (2 * t.length)) (10 ^ 2), ← Nat.mul_assoc]
      apply Nat.mul_le_mul_right
      have hd : (dig (b.toNat : Int) base).toNat ≤ 16 := by
        have := (dig_bd (b.toNat : Int) base).2
        omega
      have h2 : v * base.toNat ≤ v * 16 := Nat.mul_le_mul_left _ h
      omega
  have := key l 0
  unfold natB
  simpa using this
theorem decX_len (l : List UInt8) : (decimalX l).1.length ≤ 2000 ∧ ((decimalX l).2 = 0 ∨ (decimalX l).2 = 3 ∨ (decimalX l).2 = 40) := by
  unfold decimalX
  by_cases hI : isInt l = true
  · rw [if_pos hI]
    by_cases hl : 1000 < l.length
    · rw [if_pos hl]; simp
    · rw [if_neg hl]
      refine ⟨?_, .inl rfl⟩
      have hb : (prefX l).1.toNat ≤ 16 := by rcases prefX_base l with h | h | h <;> rw [h] <;> decide
      have h1 := natB_lt (prefX l).1 hb (l.drop (prefX l).2)
      have key : ∀ N : Nat, 2 * (l.drop (prefX l).2).length ≤ N + 1 → (Lib.decDigits (natB (prefX l).1 (l.drop (prefX l).2))).length ≤ N + 1 := fun N h => decDigits_len _ N (Nat.lt_of_lt_of_le h1 (Nat.pow_le_pow_right (by decide) h))
      exact key 1999 (by rw [List.length_drop]; omega)
  · rw [if_neg hI]; simp
def worthX (l : List UInt8) : List UInt8 × Int × Bool :=
  if (decimalX l).2 = 0 then ((shortX (decimalX l).1 0).1, (shortX (decimalX l).1 0).2, true) else ((floatX l).1, (floatX l).2.1, decide ((floatX l).2.2 = 0))
def worthV (p : List UInt8 × Int × Bool) : Value := .tuple #[.string ⟨p.1.toArray⟩, .int .i64 p.2.1, .bool p.2.2]
theorem floatX_err (l : List UInt8) : (floatX l).2.2 = 0 ∨ (floatX l).2.2 = 3 ∨ (floatX l).2.2 = 40 := by
  unfold floatX
  split
  · split
    · simp
    · split <;> simp
  · simp
set_option maxRecDepth 20000 in
set_option maxHeartbeats 4000000 in
theorem worth_any (s : ByteArray) (w : World) (hs : s.size ≤ 1152921504606846976) (hT : Pow w) :
    Calls Tryd.prog 38 #[.string s] w fun e w' => e = .returned (worthV (worthX s.data.toList)) ∧ Below w.heap.size w w' := by
  have d1 := decimal_any s w hs hT
  have f1 := fun w => float_any s w hs
  obtain ⟨hdl, hde⟩ := decX_len s.data.toList
  have hfe := floatX_err s.data.toList
  unfold worthX
  generalize decimalX s.data.toList = D at *
  generalize floatX s.data.toList = F at *
  obtain ⟨D, e⟩ := D
  obtain ⟨F, n, e2⟩ := F
  simp only at hdl hde hfe ⊢
  have D1 := Lib.hid d1
  have F1 := Lib.hid f1
  by_cases he : e = 0
  · subst he
    rw [if_pos rfl]
    have s1 := fun w => shortened_any ⟨D.toArray⟩ 0 w (by simp [ByteArray.size]; omega) (by omega) (by omega)
    rw [show (⟨D.toArray⟩ : ByteArray).data.toList = D from rfl] at s1
    generalize shortX D 0 = X at *
    have S1 := Lib.hid s1
    clear s1 d1 f1 hde hfe hT
    go_enter Tryd.func38, Tryd.ntmps38
    go_wp2_with fail
    refine D1.out.mono ?_
    rintro e w1 ⟨rfl, hb1⟩
    have HB1 := Lib.hid hb1
    clear hb1
    unfold textV
    go_wp2_with fail
    refine (S1.out _).mono ?_
    rintro e w2 ⟨rfl, rfl⟩
    unfold shortV
    go_wp2_with fail
    go_ret3
    exact ⟨rfl, HB1.out⟩
  · rw [if_neg he]
    have he1 : (e == 0) = false := by simpa using he
    have q1 : decide (e = 0) = false := by simpa using he
    clear d1 f1 hT
    go_enter Tryd.func38, Tryd.ntmps38
    go_wp2_with fail
    refine D1.out.mono ?_
    rintro e' w1 ⟨rfl, hb1⟩
    have HB1 := Lib.hid hb1
    clear hb1
    unfold textV
    go_wp2_with fail
    refine (F1.out _).mono ?_
    rintro e' w2 ⟨rfl, hb2⟩
    have HB2 := Lib.hid (Below.then HB1.out hb2)
    clear hb2
    unfold floatV
    go_wp2_with fail
    go_ret3
    exact ⟨by first | rfl | trace_state, HB2.out⟩
def sameX (a b : List UInt8) : Bool := (worthX a).2.2 && (worthX b).2.2 && decide ((worthX a).1 = (worthX b).1) && decide ((worthX a).2.1 = (worthX b).2.1)
end Go.Proofs.YthcogfceighbpaaDoor
