/- DERIVED. The walks of place's Trim and the reference's. -/
import Derived.Test.YthhlnahehpigeaaDoorPlaceF
import Derived.Shelf.Strings.SlTrimAscii
set_option linter.unusedSimpArgs false
set_option linter.unusedVariables false
namespace Go.Proofs.YthhlnahehpigeaaDoor
open Go.RowKit

def blanksL : List UInt8 := [32, 9, 10, 11, 12, 13]

set_option maxHeartbeats 1000000 in
theorem trim_any (s : ByteArray) (w : World) (hs : s.size ≤ 72057594037927936) :
    Calls Tryd.prog 45 #[.string s] w fun e w' => e = .returned (strV (Lib.trimRightS s.data.toList blanksL)) ∧ Below w.heap.size w w' := by
  have T1 := Lib.hid fun w => Any.strings_TrimRight_laid Tryd.lays162 (by kernel_rfl) s ⟨#[32, 9, 10, 11, 12, 13]⟩ w (by omega) (by decide) (ascii_of_all (by decide))
  go_enter Tryd.func45, Tryd.ntmps45
  go_wp2_with fail
  refine (T1.out _).mono ?_
  rintro e w1 ⟨rfl, hb⟩
  have HB := Lib.hid hb
  clear hb
  go_wp2_with fail
  go_ret
  exact ⟨rfl, HB.out⟩

theorem strV_pre (s : ByteArray) (n : Nat) : Value.string (s.extract 0 n) = strV (s.data.toList.take n) := by rw [strV_ext, List.drop_zero, Nat.sub_zero]
theorem trimR_on (l cs : List UInt8) (b : UInt8) : Lib.trimRightS (l ++ [b]) cs = if cs.contains b = true then Lib.trimRightS l cs else l ++ [b] := by
  unfold Lib.trimRightS
  rw [List.reverse_append, List.reverse_singleton, List.singleton_append, List.dropWhile_cons]
  split
  · rfl
  · simp
theorem blank_is : ∀ b : UInt8, blanksL.contains b = (b == 32 || (decide ((9 : Int) ≤ b.toNat) && decide ((b.toNat : Int) ≤ 13))) := by
  intro b
  rw [Bool.eq_iff_iff]
  simp only [blanksL, List.contains_cons, List.contains_nil, Bool.or_eq_true, Bool.and_eq_true, decide_eq_true_eq, beq_iff_eq, Bool.or_false, ← UInt8.toNat_inj]
  have e : (32 : UInt8).toNat = 32 ∧ (9 : UInt8).toNat = 9 ∧ (10 : UInt8).toNat = 10 ∧ (11 : UInt8).toNat = 11 ∧ (12 : UInt8).toNat = 12 ∧ (13 : UInt8).toNat = 13 := by decide
  obtain ⟨e1, e2, e3, e4, e5, e6⟩ := e
  rw [e1, e2, e3, e4, e5, e6]
  omega

set_option maxHeartbeats 1000000 in
theorem refTrim_any (s : ByteArray) (w : World) (hs : s.size ≤ 72057594037927936) :
    Calls Tryd.prog 46 #[.string s] w fun e w' => e = .returned (strV (Lib.trimRightS s.data.toList blanksL)) ∧ w = w' := by
  obtain ⟨R, hR⟩ : ∃ R, Lib.trimRightS s.data.toList blanksL = R := ⟨_, rfl⟩
  rw [hR]
  have HR := Lib.hid hR
  clear hR
  go_enter Tryd.func46, Tryd.ntmps46
  go_wp2_with fail
  go_loop [3] (fun c => ∃ n : Nat, c = .int .i64 n ∧ n ≤ s.size ∧ Lib.trimRightS (s.data.toList.take n) blanksL = R) (fun c => (intOf c).toNat)
  case atStart => exact ⟨s.size, rfl, Nat.le_refl _, by rw [List.take_of_length_le (by rw [← Lib.size_eq]; exact Nat.le_refl _)]; exact HR.out⟩
  case round =>
    obtain ⟨n, rfl, hn, hO⟩ := hrel
    cases n with
    | zero =>
      have he : R = [] := by rw [← hO]; rfl
      subst he
      clear hO
      go_wp2_with fail
      go_ret
      exact ⟨rfl, rfl⟩
    | succ m =>
      have hm : m < s.size := by omega
      have hb := blank_is s[m]
      have htk : s.data.toList.take (m + 1) = s.data.toList.take m ++ [s[m]] := by
        rw [List.take_add_one, Lib.data_getElem? s m hm]; rfl
      rw [htk, trimR_on] at hO
      have c32 : ((s[m].toNat : Int) == 32) = (s[m] == 32) := toNat_beq _ 32
      have t0 : decide ((0 : Int) < (m + 1 : Nat)) = true := by simp
      have hend : ∀ (hbl : blanksL.contains s[m] = false), R = s.data.toList.take (m + 1) := by
        intro hbl
        rw [← hO, if_neg (by rw [hbl]; simp), htk]
      have hgo : ∀ (hbl : blanksL.contains s[m] = true), Lib.trimRightS (s.data.toList.take m) blanksL = R := by
        intro hbl
        rw [← hO, if_pos hbl]
      have HEND := Lib.hid hend; have HGO := Lib.hid hgo; have HBI := Lib.hid hb
      clear hend hgo hb hO htk
      by_cases h32 : s[m] = 32
      · rw [beq_iff_eq.2 h32] at c32
        have HO := Lib.hid (HGO.out (by rw [HBI.out, beq_iff_eq.2 h32]; rfl))
        clear h32
        go_wp2_with fail
        go_round
        case rel => exact ⟨m, by go_num, by omega, HO.out⟩
        case measure => simp [intOf]
      · rw [beq_eq_false_iff_ne.2 h32] at c32
        by_cases h9 : (9 : Int) ≤ s[m].toNat
        · have d9 : decide ((9 : Int) ≤ s[m].toNat) = true := decide_eq_true h9
          by_cases h13 : (s[m].toNat : Int) ≤ 13
          · have d13 : decide ((s[m].toNat : Int) ≤ 13) = true := decide_eq_true h13
            have HO := Lib.hid (HGO.out (by rw [HBI.out, d9, d13]; simp))
            clear h32
            go_wp2_with fail
            go_round
            case rel => exact ⟨m, by go_num, by omega, HO.out⟩
            case measure => simp [intOf]
          · have d13 : decide ((s[m].toNat : Int) ≤ 13) = false := decide_eq_false h13
            have HE := Lib.hid (HEND.out (by rw [HBI.out, d9, d13, beq_eq_false_iff_ne.2 h32]; rfl))
            clear h32
            go_wp2_with fail
            go_ret
            exact ⟨by rw [HE.out]; exact congrArg Ending.returned (strV_pre s (m + 1)), rfl⟩
        · have d9 : decide ((9 : Int) ≤ s[m].toNat) = false := decide_eq_false h9
          have HE := Lib.hid (HEND.out (by rw [HBI.out, d9, beq_eq_false_iff_ne.2 h32]; rfl))
          clear h32
          go_wp2_with fail
          go_ret
          exact ⟨by rw [HE.out]; exact congrArg Ending.returned (strV_pre s (m + 1)), rfl⟩
end Go.Proofs.YthhlnahehpigeaaDoor
