/- DERIVED. The walks of the document's digits and Scan of numbers. DERIVED. The walk of the document's Scan of numbers. -/
import Derived.Test.YtikkdkacflkifaaDoorNumA
import Derived.Deep.DeepCutAuto
set_option linter.unusedSimpArgs false
set_option linter.unusedVariables false
namespace Go.Proofs.YtikkdkacflkifaaDoor
open Go.RowKit

theorem digN_cons (base : Int) (b : UInt8) (t : List UInt8) : digN base (b :: t) = if isDig base b.toNat = true then digN base t + 1 else 0 := by rw [digN]
theorem drop_at (s : ByteArray) (k : Nat) (h : k < s.size) : s.data.toList.drop k = s[k] :: s.data.toList.drop (k + 1) := by
  rw [List.drop_eq_getElem_cons (by rw [← Lib.size_eq]; exact h)]; rfl
set_option maxHeartbeats 2000000 in
theorem refDigits_any (s : ByteArray) (i : Nat) (base : Int) (w : World) (hs : s.size ≤ 1152921504606846976) (hi : i ≤ s.size) :
    Calls Tryd.prog 86 #[.string s, .int .i64 i, .int .i64 base] w fun e w' => e = .returned (.int .i64 ((i + digN base (s.data.toList.drop i) : Nat) : Int)) ∧ w = w' := by
  obtain ⟨R, hR⟩ : ∃ R, i + digN base (s.data.toList.drop i) = R := ⟨_, rfl⟩
  rw [hR]
  have HR := Lib.hid hR
  clear hR
  go_enter Tryd.func86, Tryd.ntmps86
  go_wp2_with fail
  go_loop [1] (fun j => ∃ k : Nat, j = .int .i64 k ∧ k ≤ s.size ∧ Hid (k + digN base (s.data.toList.drop k) = R)) (fun j => s.size - (intOf j).toNat)
  case atStart => exact ⟨i, rfl, hi, HR⟩
  case round =>
    obtain ⟨k, rfl, hk, hK⟩ := hrel
    by_cases hlt : k < s.size
    · have hd := drop_at s k hlt
      have hwr := wrap64_u8 s[k]
      by_cases hg : isDig base s[k].toNat = true
      · have hK2 : Hid (k + 1 + digN base (s.data.toList.drop (k + 1)) = R) := by
          have h := hK.out
          rw [hd, digN_cons, if_pos hg] at h
          exact Lib.hid (by omega)
        have t0 : decide (0 ≤ dig (s[k].toNat : Int) base) = true := hg
        clear hd hg
        go_wp2_with (go_at_call 59; refine (refDigit_any _ _ _).mono ?_; rintro e w' ⟨rfl, rfl⟩)
        go_round
        case rel => exact ⟨k + 1, by go_num, by omega, hK2⟩
        case measure => simp [intOf]; omega
      · have hK2 : Hid (k = R) := by
          have h := hK.out
          rw [hd, digN_cons, if_neg hg] at h
          exact Lib.hid (by omega)
        have t0 : decide (0 ≤ dig (s[k].toNat : Int) base) = false := by unfold isDig at hg; simpa using hg
        clear hd hg
        go_wp2_with (go_at_call 59; refine (refDigit_any _ _ _).mono ?_; rintro e w' ⟨rfl, rfl⟩)
        go_ret
        exact ⟨ret_int (by rw [hK2.out]), rfl⟩
    · have hK2 : Hid (k = R) := by
        have h := hK.out
        rw [List.drop_eq_nil_of_le (by rw [← Lib.size_eq]; omega)] at h
        exact Lib.hid (by simpa [digN] using h)
      have t0 : decide ((k : Int) < s.size) = false := by simp; omega
      go_wp2_with fail
      go_ret
      exact ⟨ret_int (by rw [hK2.out]), rfl⟩
end Go.Proofs.YtikkdkacflkifaaDoor

namespace Go.Proofs.YtikkdkacflkifaaDoor
open Go.RowKit

theorem digitsI (s : ByteArray) (j : Int) (k : Nat) (base : Int) (w : World) (hs : s.size ≤ 1152921504606846976) (hj : j = k) (hk : k ≤ s.size) :
    Calls Tryd.prog 86 #[.string s, .int .i64 j, .int .i64 base] w fun e w' => e = .returned (.int .i64 (j + (digN base (s.data.toList.drop k) : Nat))) ∧ w = w' := by
  subst hj
  refine (refDigits_any s k base w hs hk).mono ?_
  rintro e w' ⟨he, hw⟩
  exact ⟨by rw [he]; exact ret_int (by omega), hw⟩
/-- What the exponent adds. -/
def postX (S : List UInt8) (k : Int) (E : Nat) : Int × Nat := if 0 < expX (S.drop E) then (12, E + expX (S.drop E)) else (k, E)
/-- What the point adds. -/
def pointX (S : List UInt8) (E : Nat) : Int × Nat := if S[E]? = some 46 ∧ 0 < digN 10 (S.drop (E + 1)) then (12, E + 1 + digN 10 (S.drop (E + 1))) else (11, E)
theorem scanX_dec (l : List UInt8) (hp : prefX l = (10, 0)) (hd : digN 10 l ≠ 0) : scanX l = postX l (pointX l (digN 10 l)).1 (pointX l (digN 10 l)).2 := by
  unfold scanX postX pointX
  rw [hp]
  simp only [show ((0 : Nat) = 2) = False from by simp, if_false, hd]
theorem point_shift (S : List UInt8) (i d : Nat) : pointX S (i + d) = ((pointX (S.drop i) d).1, i + (pointX (S.drop i) d).2) := by
  unfold pointX
  simp only [List.getElem?_drop, List.drop_drop, Nat.add_assoc]
  split <;> rfl
theorem post_shift (S : List UInt8) (i n : Nat) (k : Int) : postX S k (i + n) = ((postX (S.drop i) k n).1, i + (postX (S.drop i) k n).2) := by
  unfold postX
  simp only [List.drop_drop, Nat.add_assoc]
  split <;> rfl
theorem point_kind (S : List UInt8) (d : Nat) : (pointX S d).1 ≠ 0 := by unfold pointX; split <;> simp
theorem post_kind (S : List UInt8) (k : Int) (n : Nat) (h : k ≠ 0) : (postX S k n).1 ≠ 0 := by
  unfold postX; split
  · simp
  · exact h
theorem scanI_dec (S : List UInt8) (i : Nat) (hi : i < S.length) (hp : prefX (S.drop i) = (10, 0)) (hd : digN 10 (S.drop i) ≠ 0) :
    scanI S i = postX S (pointX S (i + digN 10 (S.drop i))).1 (pointX S (i + digN 10 (S.drop i))).2 := by
  unfold scanI
  rw [if_pos ⟨by omega, by omega⟩, Int.toNat_natCast, scanX_dec _ hp hd, if_neg (post_kind _ _ _ (point_kind _ _)), point_shift, post_shift]
theorem scanI_pre (S : List UInt8) (i : Nat) (hi : i < S.length) (b : Int) (hp : prefX (S.drop i) = (b, 2)) : scanI S i = (11, i + 2 + digN b (S.drop (i + 2))) := by
  unfold scanI
  rw [if_pos ⟨by omega, by omega⟩, Int.toNat_natCast]
  have e : scanX (S.drop i) = (11, 2 + digN b (S.drop (i + 2))) := by
    unfold scanX
    rw [hp, if_pos rfl, List.drop_drop]
  rw [e, if_neg (by simp)]
  simp only [Prod.mk.injEq, true_and]
  omega
theorem scanI_no (S : List UInt8) (i : Nat) (hp : prefX (S.drop i) = (10, 0)) (hd : digN 10 (S.drop i) = 0) : scanI S i = (0, 0) := by
  unfold scanI
  split
  · rw [Int.toNat_natCast]
    have e : scanX (S.drop i) = (0, 0) := by
      unfold scanX
      rw [hp]
      simp only [show ((0 : Nat) = 2) = False from by simp, if_false, hd, if_true]
    rw [e]; rfl
  · rfl
/-- How a number may begin. -/
def HeadX (s : ByteArray) (i : Nat) : Prop :=
  (((s.data.toList)[i]? ≠ some 48) ∨ (¬ i + 1 < s.size) ∨ ((s.data.toList)[i + 1]? ≠ some 111 ∧ (s.data.toList)[i + 1]? ≠ some 79 ∧ (s.data.toList)[i + 1]? ≠ some 120 ∧ (s.data.toList)[i + 1]? ≠ some 88) ∨
    (((s.data.toList)[i + 1]? = some 111 ∨ (s.data.toList)[i + 1]? = some 79) ∧ digN 8 (s.data.toList.drop (i + 2)) = 0) ∨ (((s.data.toList)[i + 1]? = some 120 ∨ (s.data.toList)[i + 1]? = some 88) ∧ digN 16 (s.data.toList.drop (i + 2)) = 0))
theorem pre_cases (s : ByteArray) (i : Nat) (hi : i < s.size) :
    (prefX (s.data.toList.drop i) = (10, 0) ∧ HeadX s i) ∨
    (∃ b, prefX (s.data.toList.drop i) = (b, 2) ∧ (s.data.toList)[i]? = some 48 ∧ i + 2 < s.size ∧ 0 < digN b (s.data.toList.drop (i + 2)) ∧ ((b = 8 ∧ ((s.data.toList)[i + 1]? = some 111 ∨ (s.data.toList)[i + 1]? = some 79)) ∨ (b = 16 ∧ ((s.data.toList)[i + 1]? = some 120 ∨ (s.data.toList)[i + 1]? = some 88)))) := by
  unfold prefX HeadX
  simp only [List.getElem?_drop, List.drop_drop, Nat.add_zero]
  have hl : ∀ b, 0 < digN b (s.data.toList.drop (i + 2)) → i + 2 < s.size := fun b h => by
    have := digN_le b (s.data.toList.drop (i + 2)); rw [List.length_drop, ← Lib.size_eq] at this; omega
  by_cases h1 : (s.data.toList)[i]? = some 48 ∧ ((s.data.toList)[i + 1]? = some 111 ∨ (s.data.toList)[i + 1]? = some 79) ∧ 0 < digN 8 (s.data.toList.drop (i + 2))
  · right; rw [if_pos h1]; exact ⟨8, rfl, h1.1, hl _ h1.2.2, h1.2.2, .inl ⟨rfl, h1.2.1⟩⟩
  · by_cases h2 : (s.data.toList)[i]? = some 48 ∧ ((s.data.toList)[i + 1]? = some 120 ∨ (s.data.toList)[i + 1]? = some 88) ∧ 0 < digN 16 (s.data.toList.drop (i + 2))
    · right; rw [if_neg h1, if_pos h2]; exact ⟨16, rfl, h2.1, hl _ h2.2.2, h2.2.2, .inr ⟨rfl, h2.2.1⟩⟩
    · left
      rw [if_neg h1, if_neg h2]
      refine ⟨rfl, ?_⟩
      by_cases a : (s.data.toList)[i]? = some 48
      · right
        by_cases b : i + 1 < s.size
        · right
          by_cases c : (s.data.toList)[i + 1]? = some 111 ∨ (s.data.toList)[i + 1]? = some 79
          · right; left; exact ⟨c, Nat.eq_zero_of_not_pos (fun h => h1 ⟨a, c, h⟩)⟩
          · by_cases d : (s.data.toList)[i + 1]? = some 120 ∨ (s.data.toList)[i + 1]? = some 88
            · right; right; exact ⟨d, Nat.eq_zero_of_not_pos (fun h => h2 ⟨a, d, h⟩)⟩
            · left; exact ⟨fun h => c (.inl h), fun h => c (.inr h), fun h => d (.inl h), fun h => d (.inr h)⟩
        · left; exact b
      · left; exact a
end Go.Proofs.YtikkdkacflkifaaDoor

