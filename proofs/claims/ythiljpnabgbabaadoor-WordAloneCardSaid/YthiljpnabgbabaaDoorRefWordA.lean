/- DERIVED. The walks of the reference's functions on words: lists of texts, the class at a byte, where a name ends. -/
import Derived.Test.YthiljpnabgbabaaDoorWordA
import Derived.Test.YthiljpnabgbabaaDoorRefRun
set_option linter.unusedSimpArgs false
set_option linter.unusedVariables false
namespace Go.Proofs.YthiljpnabgbabaaDoor
open Go.RowKit

/-- Block b holds these texts, one a cell. -/
def RowIs (w : World) (b : Nat) (ls : List (List UInt8)) : Prop := ∀ i, i < ls.length → w.cell? ⟨b, i, none⟩ = some (.string ⟨(ls.getD i []).toArray⟩)

theorem contains_take (ls : List (List UInt8)) (k : Nat) (h : k < ls.length) (x : List UInt8) : (ls.take (k + 1)).contains x = ((ls.take k).contains x || x == ls.getD k []) := by
  rw [List.take_succ_eq_append_getElem h, List.getD_eq_getElem?_getD, List.getElem?_eq_getElem h, Bool.eq_iff_iff]
  simp only [List.contains_iff_mem, List.mem_append, List.mem_singleton, Bool.or_eq_true, beq_iff_eq, Option.getD_some]
theorem contains_of (ls : List (List UInt8)) (k : Nat) (h : k < ls.length) (x : List UInt8) (hx : x = ls.getD k []) : ls.contains x = true := by
  rw [List.contains_iff_mem, hx, List.getD_eq_getElem?_getD, List.getElem?_eq_getElem h]
  exact List.getElem_mem h

set_option maxHeartbeats 1000000 in
theorem among_any (ls : List (List UInt8)) (b : Nat) (s : ByteArray) (w : World) (hl : ls.length ≤ 1000) (hrow : RowIs w b ls) :
    Calls Tryd.prog 24 #[.slice (some ⟨b, 0, none⟩) ls.length ls.length, .string s] w fun e w' => e = .returned (.bool (ls.contains s.data.toList)) ∧ w = w' := by
  obtain ⟨R, hR⟩ : ∃ R, ls.contains s.data.toList = R := ⟨_, rfl⟩
  rw [hR]
  have HR := Lib.hid hR
  have HW := Lib.hid hrow
  clear hR hrow
  obtain ⟨n, hn⟩ : ∃ n, ls.length = n := ⟨_, rfl⟩
  have HN := Lib.hid hn
  rw [hn] at hl ⊢
  clear hn
  go_enter Tryd.func24, Tryd.ntmps24
  go_wp2_with fail
  go_loop [5] (fun i => ∃ k : Nat, k ≤ n ∧ i = .int .i64 k ∧ Hid ((ls.take k).contains s.data.toList = false)) (fun i => n - (intOf i).toNat)
  case atStart => exact ⟨0, Nat.zero_le _, rfl, by simp [Hid]⟩
  case round =>
    obtain ⟨k, hk, rfl, hC⟩ := hrel
    by_cases hlt : k < n
    · have hlk : k < ls.length := by rw [HN.out]; exact hlt
      have hc := HW.out k hlk
      by_cases he : s.data.toList = ls.getD k []
      · have hE := contains_of ls k hlk _ he
        rw [HR.out] at hE
        subst hE
        have hb : ((⟨(ls.getD k []).toArray⟩ : ByteArray).toList == s.toList) = true := by
          rw [Lib.toList_data, Lib.toList_data, ← he]; simp
        generalize (⟨(ls.getD k []).toArray⟩ : ByteArray) = x at *
        clear he
        go_wp2_with fail
        go_ret
        exact ⟨rfl, rfl⟩
      · have hb : ((⟨(ls.getD k []).toArray⟩ : ByteArray).toList == s.toList) = false := by
          rw [Lib.toList_data, Lib.toList_data, beq_eq_false_iff_ne]; exact fun e => he e.symm
        have hC2 : Hid ((ls.take (k + 1)).contains s.data.toList = false) := by
          show _ = _; rw [contains_take ls k hlk, hC.out, beq_eq_false_iff_ne.2 he]; rfl
        generalize (⟨(ls.getD k []).toArray⟩ : ByteArray) = x at *
        clear he
        go_wp2_with fail
        go_round
        case rel => exact ⟨k + 1, by omega, by go_num, hC2⟩
        case measure => simp [intOf]; omega
    · have hE := hC.out
      rw [List.take_of_length_le (by rw [HN.out]; omega), HR.out] at hE
      subst hE
      go_wp2_with fail
      go_ret
      exact ⟨rfl, rfl⟩

/-- The class at a byte, and how many bytes the rune has. -/
def classAt (l : List UInt8) (i : Int) : Int × Int := if 0 ≤ i ∧ i < l.length then (cls (dec (l.drop i.toNat)).1, ((dec (l.drop i.toNat)).2 : Int)) else (0, 0)
set_option maxHeartbeats 1000000 in
theorem refClassAt_any (s : ByteArray) (i : Int) (w : World) (hs : s.size ≤ 1152921504606846976) :
    Calls Tryd.prog 20 #[.string s, .int .i64 i] w fun e w' => e = .returned (.tuple #[.int .i64 (classAt s.data.toList i).1, .int .i64 (classAt s.data.toList i).2]) ∧ w = w' := by
  have n1 := fun w => refNext_any s i w hs
  by_cases h : 0 ≤ i ∧ i < s.data.toList.length
  · have hn : nextL s.data.toList i = (((dec (s.data.toList.drop i.toNat)).1 : Int), ((dec (s.data.toList.drop i.toNat)).2 : Int)) := by unfold nextL; rw [if_pos h]
    have hc : classAt s.data.toList i = (cls (dec (s.data.toList.drop i.toNat)).1, ((dec (s.data.toList.drop i.toNat)).2 : Int)) := by unfold classAt; rw [if_pos h]
    have hdl := dec_len _ (drop_ne (l := s.data.toList) (pos := i.toNat) (by omega))
    rw [hn] at n1
    rw [hc]
    generalize dec (s.data.toList.drop i.toNat) = d at *
    have hb : ((d.2 : Int) == 0) = false := beq_eq_false_iff_ne.2 (by omega)
    have N1 := Lib.hid n1
    clear n1 hn hc h
    go_enter Tryd.func20, Tryd.ntmps20
    go_wp2_with (first | (go_at_call 30; refine (N1.out _).mono ?_; rintro e w' ⟨rfl, rfl⟩) | (go_at_call 31; refine (refClass_any _ _).mono ?_; rintro e w' ⟨rfl, rfl⟩))
    go_ret2
    exact ⟨rfl, rfl⟩
  · have hn : nextL s.data.toList i = (0, 0) := by unfold nextL; rw [if_neg h]
    have hc : classAt s.data.toList i = (0, 0) := by unfold classAt; rw [if_neg h]
    rw [hn] at n1
    rw [hc]
    have N1 := Lib.hid n1
    clear n1 hn hc h
    go_enter Tryd.func20, Tryd.ntmps20
    go_wp2_with (go_at_call 30; refine (N1.out _).mono ?_; rintro e w' ⟨rfl, rfl⟩)
    go_ret2
    exact ⟨rfl, rfl⟩
end Go.Proofs.YthiljpnabgbabaaDoor
