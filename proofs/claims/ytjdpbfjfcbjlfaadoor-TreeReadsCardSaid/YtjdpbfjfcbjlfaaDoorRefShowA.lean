/- DERIVED. The walk of the reference's digits. -/
import Derived.Test.YtjdpbfjfcbjlfaaDoorBufW
import Derived.Lib.ItoaNum
import Derived.Lib.Strings
set_option linter.unusedSimpArgs false
set_option linter.unusedVariables false
namespace Go.Proofs.YtjdpbfjfcbjlfaaDoor
open Go.RowKit

theorem dig_ext : ∀ n : Fin 10, (⟨#[48, 49, 50, 51, 52, 53, 54, 55, 56, 57]⟩ : ByteArray).extract n.val (n.val + 1) = ⟨#[UInt8.ofNat (48 + n.val)]⟩ := by
  intro n
  match n with
  | 0 => rfl
  | 1 => rfl
  | 2 => rfl
  | 3 => rfl
  | 4 => rfl
  | 5 => rfl
  | 6 => rfl
  | 7 => rfl
  | 8 => rfl
  | 9 => rfl
theorem dec_len (m : Nat) : ∀ n : Nat, n ≤ m → (Lib.decDigits n).length ≤ n + 1 := by
  induction m with
  | zero => intro n h; rw [Lib.decDigits, dif_pos (by omega)]; simp
  | succ m ih =>
    intro n h
    rw [Lib.decDigits]
    split
    · simp
    · have := ih (n / 10) (by omega)
      rw [List.length_append]; simp only [List.length_cons, List.length_nil]; omega
theorem app_arr (a b : List UInt8) : (⟨a.toArray⟩ ++ ⟨b.toArray⟩ : ByteArray) = ⟨(a ++ b).toArray⟩ := by
  apply ByteArray.ext
  simp
set_option maxHeartbeats 1000000 in
theorem digits_any (m : Nat) : ∀ (n : Nat) (w : World), n ≤ m → n ≤ 1152921504606846976 →
    Calls Tryd.prog 39 #[.int .i64 n] w fun e w' => e = .returned (.string ⟨(Lib.decDigits n).toArray⟩) ∧ w = w' := by
  induction m using Nat.strongRecOn with
  | _ m ih =>
    intro n w hn hb
    have hext := dig_ext ⟨n % 10, by omega⟩
    simp only at hext
    by_cases h : n < 10
    · have e : Lib.decDigits n = [UInt8.ofNat (48 + n % 10)] := by rw [Lib.decDigits, dif_pos h, Nat.mod_eq_of_lt h]
      rw [e]
      have HE := Lib.hid hext
      have t1 : decide ((n : Int) < 10) = true := by simp; omega
      have h1 : 0 ≤ (n : Int) % 10 := by omega
      have h2 : (n : Int) % 10 < 10 := by omega
      clear ih hext e
      go_enter Tryd.func39, Tryd.ntmps39
      go_wp2_with fail
      go_ret
      exact ⟨by rw [HE.out]; rfl, rfl⟩
    · have e : Lib.decDigits n = Lib.decDigits (n / 10) ++ [UInt8.ofNat (48 + n % 10)] := by conv => lhs; rw [Lib.decDigits, dif_neg h]
      have HE := Lib.hid hext
      have HD := Lib.hid e
      have t1 : decide ((n : Int) < 10) = false := by simp; omega
      have h1 : 0 ≤ (n : Int) % 10 := by omega
      have h2 : (n : Int) % 10 < 10 := by omega
      have IH := Lib.hid fun w => ih (n / 10) (by omega) (n / 10) w (Nat.le_refl _) (by omega)
      have hln := dec_len (n / 10) (n / 10) (Nat.le_refl _)
      have hq : ¬ 9223372036854775807 < (Lib.decDigits (n / 10)).length + (min (n % 10 + 1) 10 - n % 10) := by omega
      clear ih hext e
      go_enter Tryd.func39, Tryd.ntmps39
      go_wp2_with fail
      rw [show ((n : Int) / 10) = ((n / 10 : Nat) : Int) from by omega]
      refine (IH.out _).mono ?_
      rintro e w' ⟨rfl, rfl⟩
      go_wp2_with fail
      go_ret
      refine ⟨?_, rfl⟩
      rw [HD.out, HE.out]
      exact congrArg (fun x => Ending.returned (.string x)) (app_arr (Lib.decDigits (n / 10)) [UInt8.ofNat (48 + n % 10)])
end Go.Proofs.YtjdpbfjfcbjlfaaDoor
