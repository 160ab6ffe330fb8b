/- DERIVED. The walks of the document's Bare and Short. -/
import Derived.Test.YthcogfceighbpaaDoorNumQ
import Derived.Test.YthcogfceighbpaaDoorRefNumD
set_option linter.unusedSimpArgs false
set_option linter.unusedVariables false
namespace Go.Proofs.YthcogfceighbpaaDoor
open Go.RowKit

theorem bare_end (l : List UInt8) (k : Nat) (h : l.length ≤ k + 1) : bareL (l.drop k) = l.drop k := by
  have hl : (l.drop k).length ≤ 1 := by rw [List.length_drop]; omega
  cases hd : l.drop k with
  | nil => rw [bareL]
  | cons a t =>
    rw [hd] at hl
    cases t with
    | nil => rw [bareL]
    | cons b r => simp at hl
theorem bare_step (l : List UInt8) (k : Nat) (h : k + 1 < l.length) : bareL (l.drop k) = if l[k] = 48 then bareL (l.drop (k + 1)) else l.drop k := by
  rw [List.drop_eq_getElem_cons (show k < l.length by omega), List.drop_eq_getElem_cons h, bareL]
set_option maxHeartbeats 2000000 in
theorem refBare_any (s : ByteArray) (w : World) (hs : s.size ≤ 1152921504606846976) :
    Calls Tryd.prog 32 #[.string s] w fun e w' => e = .returned (.string ⟨(bareL s.data.toList).toArray⟩) ∧ w = w' := by
  obtain ⟨R, hR⟩ : ∃ R, bareL s.data.toList = R := ⟨_, rfl⟩
  rw [hR]
  have HR := Lib.hid hR
  clear hR
  go_enter Tryd.func32, Tryd.ntmps32
  go_wp2_with fail
  go_loop [3] (fun j => ∃ k : Nat, j = .int .i64 k ∧ k ≤ s.size ∧ Hid (bareL (s.data.toList.drop k) = R)) (fun j => s.size - (intOf j).toNat)
  case atStart => exact ⟨0, rfl, Nat.zero_le _, by rw [List.drop_zero]; exact HR⟩
  case round =>
    obtain ⟨k, rfl, hk, hK⟩ := hrel
    by_cases hlt : k + 1 < s.size
    · have hst := bare_step s.data.toList k (by rw [← Lib.size_eq]; exact hlt)
      have hbe : s.data.toList[k]'(by rw [← Lib.size_eq]; omega) = s[k] := rfl
      rw [hbe, hK.out] at hst
      obtain ⟨y, n⟩ := byteK s[k] 48 48 rfl (by decide)
      have t0 : decide ((k : Int) + 1 < s.size) = true := by simp; omega
      have hks : k < s.size := by omega
      by_cases hz : s[k] = 48
      · rw [if_pos hz] at hst
        have q := (y hz).1
        have HK2 := Lib.hid hst.symm
        clear hst y n hz hbe
        go_wp2_with fail
        go_round
        case rel => exact ⟨k + 1, by go_num, by omega, HK2⟩
        case measure => simp [intOf]; omega
      · rw [if_neg hz] at hst
        have q := (n hz).1
        have HK2 := Lib.hid (show (⟨R.toArray⟩ : ByteArray) = s.extract k s.size from by
          rw [hst, ← cut_data s k])
        clear hst y n hz hbe
        go_wp2_with fail
        go_ret
        exact ⟨by rw [HK2.out]; rfl, rfl⟩
    · have hst := bare_end s.data.toList k (by rw [← Lib.size_eq]; omega)
      rw [hK.out] at hst
      have t0 : decide ((k : Int) + 1 < s.size) = false := by simp; omega
      have HK2 := Lib.hid (show (⟨R.toArray⟩ : ByteArray) = s.extract k s.size from by
        rw [hst, ← cut_data s k])
      clear hst
      go_wp2_with fail
      go_ret
      exact ⟨by rw [HK2.out]; rfl, rfl⟩
/-- How long digits are without noughts at the end; one stays. -/
def stripN (l : List UInt8) : Nat → Nat
  | 0 => 0
  | n + 1 => if 1 < n + 1 ∧ l[n]? = some 48 then stripN l n else n + 1
theorem stripN_le (l : List UInt8) (n : Nat) : stripN l n ≤ n := by
  induction n with
  | zero => exact Nat.le_refl _
  | succ n ih => rw [stripN]; split <;> omega
set_option maxHeartbeats 2000000 in
theorem refShort_any (s : ByteArray) (x : Int) (w : World) (hs : s.size ≤ 1152921504606846976) (hx : -4611686018427387904 ≤ x) (hx2 : x ≤ 4611686018427387904) :
    Calls Tryd.prog 37 #[.string s, .int .i64 x] w fun e w' => e = .returned (if s.data.toList = [48] then .tuple #[.string s, .int .i64 0] else .tuple #[.string (s.extract 0 (stripN s.data.toList s.size)), .int .i64 (x + (s.size - stripN s.data.toList s.size : Nat))]) ∧ w = w' := by
  by_cases h1 : s.data.toList = [48]
  · rw [if_pos h1]
    have t0 : (s.toList == [48]) = true := by rw [Lib.toList_data, h1]; rfl
    clear h1
    go_enter Tryd.func37, Tryd.ntmps37
    go_wp2_with fail
    go_ret2
    exact ⟨rfl, rfl⟩
  · rw [if_neg h1]
    have t0 : (s.toList == [48]) = false := by rw [Lib.toList_data]; simpa using h1
    obtain ⟨R, hR⟩ : ∃ R, stripN s.data.toList s.size = R := ⟨_, rfl⟩
    rw [hR]
    have hRs : R ≤ s.size := by rw [← hR]; exact stripN_le _ _
    have HR := Lib.hid hR
    clear hR h1
    go_enter Tryd.func37, Tryd.ntmps37
    go_wp2_with fail
    go_loop [1, 6] (fun xv nv => ∃ (n : Nat), nv = .int .i64 n ∧ xv = .int .i64 (x + (s.size - n : Nat)) ∧ n ≤ s.size ∧ Hid (stripN s.data.toList n = R)) (fun _ nv => (intOf nv).toNat)
    case atStart => exact ⟨s.size, rfl, by simp, Nat.le_refl _, HR⟩
    case round =>
      obtain ⟨n, rfl, rfl, hn, hN⟩ := hrel
      by_cases h1 : 1 < n
      · obtain ⟨m, rfl⟩ : ∃ m, n = m + 1 := ⟨n - 1, by omega⟩
        have hml : m < s.size := by omega
        have hst := hN.out
        rw [stripN, at_list s m hml] at hst
        simp only [Option.some.injEq] at hst
        obtain ⟨y, nn⟩ := byteK s[m] 48 48 rfl (by decide)
        obtain ⟨d, hd⟩ : ∃ d : Nat, s.size - (m + 1) = d := ⟨_, rfl⟩
        have hd2 : s.size - m = d + 1 := by omega
        have HD2 := Lib.hid hd2
        have hdb : d ≤ s.size := by omega
        rw [hd]
        have HD := Lib.hid hd
        clear hd hd2
        by_cases hz : s[m] = 48
        · rw [if_pos ⟨h1, hz⟩] at hst
          have q := (y hz).1
          have HK2 := Lib.hid hst
          clear hst y nn hz
          go_wp2_with fail
          go_round
          case rel => exact ⟨m, by first | rfl | go_num, by rw [HD2.out]; try go_num, by omega, HK2⟩
          case measure => simp [intOf]
        · rw [if_neg (fun h => hz h.2)] at hst
          have q := (nn hz).1
          subst hst
          clear y nn hz
          go_wp2_with fail
          go_ret2
          exact ⟨by rw [HD.out]; rfl, rfl⟩
      · have hnR : n = R := by
          have hst := hN.out
          cases n with
          | zero => rw [stripN] at hst; exact hst
          | succ n => rw [stripN, if_neg (fun h => h1 h.1)] at hst; exact hst
        subst hnR
        go_wp2_with fail
        go_ret2
        exact ⟨rfl, rfl⟩
end Go.Proofs.YthcogfceighbpaaDoor
