/- DERIVED. The walks of the document's digits and Scan of numbers. -/
import Derived.Test.YthcogfceighbpaaDoorNumD
set_option linter.unusedSimpArgs false
set_option linter.unusedVariables false
namespace Go.Proofs.YthcogfceighbpaaDoor
open Go.RowKit

theorem digN_cons (base : Int) (b : UInt8) (t : List UInt8) : digN base (b :: t) = if isDig base b.toNat = true then digN base t + 1 else 0 := by rw [digN]
theorem drop_at (s : ByteArray) (k : Nat) (h : k < s.size) : s.data.toList.drop k = s[k] :: s.data.toList.drop (k + 1) := by
  rw [List.drop_eq_getElem_cons (by rw [← Lib.size_eq]; exact h)]; rfl
set_option maxHeartbeats 2000000 in
theorem refDigits_any (s : ByteArray) (i : Nat) (base : Int) (w : World) (hs : s.size ≤ 1152921504606846976) (hi : i ≤ s.size) :
    Calls Tryd.prog 23 #[.string s, .int .i64 i, .int .i64 base] w fun e w' => e = .returned (.int .i64 ((i + digN base (s.data.toList.drop i) : Nat) : Int)) ∧ w = w' := by
  obtain ⟨R, hR⟩ : ∃ R, i + digN base (s.data.toList.drop i) = R := ⟨_, rfl⟩
  rw [hR]
  have HR := Lib.hid hR
  clear hR
  go_enter Tryd.func23, Tryd.ntmps23
  go_wp2_with fail
  go_loop [1] (fun j => ∃ k : Nat, j = .int .i64 k ∧ k ≤ s.size ∧ Hid (k + digN base (s.data.toList.drop k) = R)) (fun j => s.size - (intOf j).toNat)
  case atStart => exact ⟨i, rfl, hi, HR⟩
  case round =>
    obtain ⟨k, rfl, hk, hK⟩ := hrel
    by_cases hlt : k < s.size
    · have hd := drop_at s k hlt
      have hwr := wrap64_u8 s[k]
      by_cases hg : isDig base s[k].toNat = true
      · have hK2 : Hid (k + 1 + digN base (s.data.toList.drop (k + 1)) = R) := by
          have h := hK.out
          rw [hd, digN_cons, if_pos hg] at h
          exact Lib.hid (by omega)
        have t0 : decide (0 ≤ dig (s[k].toNat : Int) base) = true := hg
        clear hd hg
        go_wp2_with (go_at_call 29; refine (refDigit_any _ _ _).mono ?_; rintro e w' ⟨rfl, rfl⟩)
        go_round
        case rel => exact ⟨k + 1, by go_num, by omega, hK2⟩
        case measure => simp [intOf]; omega
      · have hK2 : Hid (k = R) := by
          have h := hK.out
          rw [hd, digN_cons, if_neg hg] at h
          exact Lib.hid (by omega)
        have t0 : decide (0 ≤ dig (s[k].toNat : Int) base) = false := by unfold isDig at hg; simpa using hg
        clear hd hg
        go_wp2_with (go_at_call 29; refine (refDigit_any _ _ _).mono ?_; rintro e w' ⟨rfl, rfl⟩)
        go_ret
        exact ⟨ret_int (by rw [hK2.out]), rfl⟩
    · have hK2 : Hid (k = R) := by
        have h := hK.out
        rw [List.drop_eq_nil_of_le (by rw [← Lib.size_eq]; omega)] at h
        exact Lib.hid (by simpa [digN] using h)
      have t0 : decide ((k : Int) < s.size) = false := by simp; omega
      go_wp2_with fail
      go_ret
      exact ⟨ret_int (by rw [hK2.out]), rfl⟩
end Go.Proofs.YthcogfceighbpaaDoor
