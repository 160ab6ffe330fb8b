/- DERIVED. The walk of the document's decimal. -/
import Derived.Test.YtmgnpgbganjgfaaDoorBufW
import Derived.Lib.ItoaNum
import Derived.Lib.Strings
set_option linter.unusedSimpArgs false
set_option linter.unusedVariables false
namespace Go.Proofs.YtmgnpgbganjgfaaDoor
open Go.RowKit

theorem dig_ext5 : ∀ n : Fin 10, (⟨#[48, 49, 50, 51, 52, 53, 54, 55, 56, 57]⟩ : ByteArray).extract n.val (n.val + 1) = ⟨#[UInt8.ofNat (48 + n.val)]⟩ := by
  intro n
  match n with
  | 0 => rfl
  | 1 => rfl
  | 2 => rfl
  | 3 => rfl
  | 4 => rfl
  | 5 => rfl
  | 6 => rfl
  | 7 => rfl
  | 8 => rfl
  | 9 => rfl
theorem dec_len5 (m : Nat) : ∀ n : Nat, n ≤ m → (Lib.decDigits n).length ≤ n + 1 := by
  induction m with
  | zero => intro n h; rw [Lib.decDigits, dif_pos (by omega)]; simp
  | succ m ih =>
    intro n h
    rw [Lib.decDigits]
    split
    · simp
    · have := ih (n / 10) (by omega)
      rw [List.length_append]; simp only [List.length_cons, List.length_nil]; omega
theorem app_arr5 (a b : List UInt8) : (⟨a.toArray⟩ ++ ⟨b.toArray⟩ : ByteArray) = ⟨(a ++ b).toArray⟩ := by
  apply ByteArray.ext
  simp
set_option maxHeartbeats 1000000 in
theorem refDecimal_any (m : Nat) : ∀ (n : Nat) (w : World), n ≤ m → n ≤ 1114111 →
    Calls Tryd.prog 27 #[.int .i64 n] w fun e w' => e = .returned (.string ⟨(Lib.decDigits n).toArray⟩) ∧ ∃ q, w' = w.drewN q := by
  induction m using Nat.strongRecOn with
  | _ m ih =>
    intro n w hn hb
    by_cases h : n < 10
    · have hext := dig_ext5 ⟨n, h⟩
      simp only at hext
      have e : Lib.decDigits n = [UInt8.ofNat (48 + n)] := by rw [Lib.decDigits, dif_pos h]
      rw [e]
      have HE := Lib.hid hext
      have t1 : decide ((n : Int) < 10) = true := by simp; omega
      clear ih hext e
      go_enter Tryd.func27, Tryd.ntmps27
      go_wp2_with fail
      go_ret
      exact ⟨by rw [HE.out]; rfl, 0, rfl⟩
    · have hext := dig_ext5 ⟨n % 10, by omega⟩
      simp only at hext
      have e : Lib.decDigits n = Lib.decDigits (n / 10) ++ [UInt8.ofNat (48 + n % 10)] := by conv => lhs; rw [Lib.decDigits, dif_neg h]
      have HE := Lib.hid hext
      have HD := Lib.hid e
      have t1 : decide ((n : Int) < 10) = false := by simp; omega
      have z0 : (n : Int).tdiv 10 = ((n / 10 : Nat) : Int) := by rw [Int.tdiv_eq_ediv_of_nonneg (by omega)]; omega
      have z1 : IntKind.i64.wrap (((n / 10 : Nat) : Int)) = ((n / 10 : Nat) : Int) := IntWalk.i64_in _ (by omega)
      have z3 : (n : Int).tmod 10 = ((n % 10 : Nat) : Int) := by rw [Int.tmod_eq_emod_of_nonneg (by omega)]; omega
      have z5 : IntKind.i64.wrap (((n % 10 : Nat) : Int)) = ((n % 10 : Nat) : Int) := IntWalk.i64_in _ (by omega)
      have z4 : IntKind.i64.wrap (((n % 10 : Nat) : Int) + 1) = ((n % 10 : Nat) : Int) + 1 := IntWalk.i64_in _ (by omega)
      have IH := Lib.hid fun w => ih (n / 10) (by omega) (n / 10) w (Nat.le_refl _) (by omega)
      have hln := dec_len5 (n / 10) (n / 10) (Nat.le_refl _)
      have hq : ¬ 9223372036854775807 < (Lib.decDigits (n / 10)).length + (min (n % 10 + 1) 10 - n % 10) := by omega
      clear ih hext e
      go_enter Tryd.func27, Tryd.ntmps27
      go_wp2_with fail
      go_quiet (first | (go_at_call 27; refine (IH.out _).mono ?_; rintro e w4 ⟨rfl, n4, rfl⟩; exact ⟨rfl, _, World.drewN_drewN _ _ _⟩))
      go_wp2_with fail
      go_ret
      refine ⟨?_, _, rfl⟩
      rw [HD.out, HE.out]
      exact congrArg (fun x => Ending.returned (.string x)) (app_arr5 (Lib.decDigits (n / 10)) [UInt8.ofNat (48 + n % 10)])
end Go.Proofs.YtmgnpgbganjgfaaDoor
