/- DERIVED. The walk of quoted. -/
import Derived.Test.YtjdpbfjfcbjlfaaDoorBld
set_option linter.unusedSimpArgs false
set_option linter.unusedVariables false
namespace Go.Proofs.YtjdpbfjfcbjlfaaDoor
open Go.RowKit

/-- The sign of a digit to base 16. -/
def hexD (n : Nat) : UInt8 := if n < 10 then UInt8.ofNat (48 + n) else UInt8.ofNat (87 + n)
def plainB (c : UInt8) : Bool := 32 ≤ c && c ≤ 126 && c != 34 && c != 92
/-- How a byte is written within quotes. -/
def escL (c : UInt8) : List UInt8 := if plainB c = true then [c] else [92, hexD (c.toNat / 16), hexD (c.toNat % 16)]
def quotedL (l : List UInt8) : List UInt8 := 34 :: (l.flatMap escL ++ [34])
theorem plain_iff {c : UInt8} : plainB c = true ↔ 32 ≤ c.toNat ∧ c.toNat ≤ 126 ∧ c.toNat ≠ 34 ∧ c.toNat ≠ 92 := by
  unfold plainB
  simp only [Bool.and_eq_true, decide_eq_true_eq, bne_iff_ne, ne_eq, UInt8.le_iff_toNat_le, ← UInt8.toNat_inj]
  simp [and_assoc]
theorem escL_len (c : UInt8) : (escL c).length ≤ 3 ∧ 1 ≤ (escL c).length := by unfold escL; split <;> simp
theorem escs_len (l : List UInt8) : (l.flatMap escL).length ≤ 3 * l.length := by
  induction l with
  | nil => simp
  | cons c r ih => rw [List.flatMap_cons, List.length_append]; have := escL_len c; simp only [List.length_cons]; omega

theorem hex_get : ∀ (n : Nat) (h : n < (⟨#[48, 49, 50, 51, 52, 53, 54, 55, 56, 57, 97, 98, 99, 100, 101, 102]⟩ : ByteArray).size), (⟨#[48, 49, 50, 51, 52, 53, 54, 55, 56, 57, 97, 98, 99, 100, 101, 102]⟩ : ByteArray)[n] = hexD n := by
  intro n h
  have h : n < 16 := h
  match n, h with
  | 0, _ => exact rfl
  | 1, _ => exact rfl
  | 2, _ => exact rfl
  | 3, _ => exact rfl
  | 4, _ => exact rfl
  | 5, _ => exact rfl
  | 6, _ => exact rfl
  | 7, _ => exact rfl
  | 8, _ => exact rfl
  | 9, _ => exact rfl
  | 10, _ => exact rfl
  | 11, _ => exact rfl
  | 12, _ => exact rfl
  | 13, _ => exact rfl
  | 14, _ => exact rfl
  | 15, _ => exact rfl
  | n + 16, h => exact absurd h (by omega)
set_option maxHeartbeats 1000000 in
theorem quoted_any (s : ByteArray) (w : World) (hs : s.size ≤ 1099511627776) :
    Calls Tryd.prog 37 #[.string s] w fun e w' => e = .returned (.string ⟨(quotedL s.data.toList).toArray⟩) ∧ Below w.heap.size w w' := by
  go_enter Tryd.func37, Tryd.ntmps37
  go_wp2_with fail
  refine (writeByte_of w.heap.size w.heap.size [] _ 34 rfl _ (fresh_IsB w) (by simp) (by simp)).mono ?_
  rintro e w1 ⟨rfl, hI1, hb1, _⟩
  have HI1 := Lib.hid hI1
  have HB1 := Lib.hid (((Below.refl _ _).alloc (Nat.le_refl _) _).trans hb1)
  clear hI1 hb1
  go_wp2_with fail
  go_loopw [9] (fun a wr => ∃ i : Nat, a = .int .i64 i ∧ i ≤ s.size ∧ Below w.heap.size w wr ∧ IsB w.heap.size w.heap.size (34 :: (s.data.toList.take i).flatMap escL) wr) (fun a _ => s.size - (intOf a).toNat)
  case atStart => exact ⟨0, rfl, by omega, HB1.out, HI1.out⟩
  case round =>
    obtain ⟨i, rfl, hi, hb, hI⟩ := hrel
    have HB := Lib.hid hb
    have HI := Lib.hid hI
    have hst := hb.size
    have hel := escs_len (s.data.toList.take i)
    rw [List.length_take] at hel
    clear hb hI
    by_cases hin : i < s.size
    · have htk : (s.data.toList.take (i + 1)).flatMap escL = (s.data.toList.take i).flatMap escL ++ escL s[i] := by
        rw [List.take_add_one, List.getElem?_eq_getElem (by rw [← Lib.size_eq]; exact hin), Option.toList_some, List.flatMap_append]; simp; rfl
      have HT := Lib.hid htk
      clear htk
      obtain ⟨c, hc⟩ : ∃ c, s[i] = c := ⟨_, rfl⟩
      rw [hc] at HT
      have hlt := c.toNat_lt
      by_cases hp : plainB c = true
      · have hE : escL c = [c] := by unfold escL; rw [if_pos hp]
        have h4 : 32 ≤ c.toNat ∧ c.toNat ≤ 126 ∧ c.toNat ≠ 34 ∧ c.toNat ≠ 92 := plain_iff.1 hp
        obtain ⟨h1, h2, h3, h5⟩ := h4
        have g3 : ((c.toNat : Int) == 34) = false := by rw [beq_eq_false_iff_ne]; omega
        have g4 : ((c.toNat : Int) == 92) = false := by rw [beq_eq_false_iff_ne]; omega
        have g5 : ((c.toNat : Int) != 34) = true := by rw [bne_iff_ne]; omega
        have g6 : ((c.toNat : Int) != 92) = true := by rw [bne_iff_ne]; omega
        rw [hE] at HT
        clear hE hp
        go_wp2_with fail
        refine (writeByte_of w.heap.size w.heap.size _ _ c rfl _ HI.out (by simp only [List.length_cons]; omega) (by omega)).mono ?_
        rintro e w2 ⟨rfl, hI2, hb2, _⟩
        have HI2 := Lib.hid hI2
        have HB2 := Lib.hid (HB.out.trans hb2)
        clear hI2 hb2
        go_wp2_with fail
        go_roundw
        case rel => exact ⟨i + 1, by go_num, by omega, HB2.out, by rw [HT.out]; exact HI2.out⟩
        case measure => simp [intOf]; omega
      · have hE : escL c = [92, hexD (c.toNat / 16), hexD (c.toNat % 16)] := by unfold escL; rw [if_neg hp]
        rw [hE] at HT
        have h4 : c.toNat < 32 ∨ 126 < c.toNat ∨ c.toNat = 34 ∨ c.toNat = 92 := by
          false_or_by_contra
          exact hp (plain_iff.2 (by omega))
        clear hE hp
        rcases h4 with h4 | h4 | h4 | h4
        all_goals
          go_wp2_with fail
          refine (writeByte_of w.heap.size w.heap.size _ _ 92 rfl _ HI.out (by simp only [List.length_cons]; omega) (by omega)).mono ?_
          rintro e w2 ⟨rfl, hI2, hb2, _⟩
          have HI2 := Lib.hid hI2
          have HB2 := Lib.hid (HB.out.trans hb2)
          have hst2 := HB2.out.size
          clear hI2 hb2
          go_wp2_with fail
          refine (writeByte_of w.heap.size w.heap.size _ _ (hexD (c.toNat / 16)) (by simp only [hex_get, h4]) _ HI2.out (by simp only [List.length_cons, List.length_append, List.length_nil]; omega) (by omega)).mono ?_
          rintro e w3 ⟨rfl, hI3, hb3, _⟩
          have HI3 := Lib.hid hI3
          have HB3 := Lib.hid (HB2.out.trans hb3)
          have hst3 := HB3.out.size
          clear hI3 hb3
          go_wp2_with fail
          refine (writeByte_of w.heap.size w.heap.size _ _ (hexD (c.toNat % 16)) (by simp only [hex_get, h4]) _ HI3.out (by simp only [List.length_cons, List.length_append, List.length_nil]; omega) (by omega)).mono ?_
          rintro e w4 ⟨rfl, hI4, hb4, _⟩
          have HI4 := Lib.hid hI4
          have HB4 := Lib.hid (HB3.out.trans hb4)
          clear hI4 hb4
          go_wp2_with fail
          go_roundw
          case rel => exact ⟨i + 1, by go_num, by omega, HB4.out, by rw [HT.out]; have := HI4.out; simpa using this⟩
          case measure => simp [intOf]; omega
    · have hi' : i = s.size := by omega
      subst hi'
      have t3 : decide ((s.size : Int) < s.size) = false := by simp
      go_wp2_with fail
      refine (writeByte_of w.heap.size w.heap.size _ _ 34 rfl _ HI.out (by simp only [List.length_cons]; omega) (by omega)).mono ?_
      rintro e w2 ⟨rfl, hI2, hb2, _⟩
      have HI2 := Lib.hid hI2
      have HB2 := Lib.hid (HB.out.trans hb2)
      have hst2 := HB2.out.size
      clear hI2 hb2
      go_wp2_with fail
      refine (bString_any w.heap.size w.heap.size _ _ HI2.out (by omega)).mono ?_
      rintro e w3 ⟨rfl, _, hb3, _⟩
      have HB3 := Lib.hid (HB2.out.trans hb3)
      clear hb3
      go_wp2_with fail
      go_ret
      refine ⟨?_, HB3.out⟩
      rw [show s.data.toList.take s.size = s.data.toList from by rw [Lib.size_eq]; exact List.take_length]
      rfl
end Go.Proofs.YtjdpbfjfcbjlfaaDoor
