/- DERIVED. The walks of word's inner functions. -/
import Derived.Test.YtikkdkacflkifaaDoorWord
import Derived.Test.YtikkdkacflkifaaDoorRun
set_option linter.unusedSimpArgs false
set_option linter.unusedVariables false
namespace Go.Proofs.YtikkdkacflkifaaDoor
open Go.RowKit

theorem of_list {s : ByteArray} {l : List UInt8} (h : s.data.toList = l) : s = ⟨l.toArray⟩ := by
  obtain ⟨⟨a⟩⟩ := s
  simp only at h
  subst h
  rfl

set_option maxHeartbeats 4000000 in
theorem reserved_any (s : ByteArray) (w : World) :
    Calls Tryd.prog 77 #[.string s] w fun e w' => e = .returned (.bool (resv s.data.toList)) ∧ w = w' := by
  by_cases hn : s.data.toList ∈ wordsL
  · have hr : resv s.data.toList = true := by unfold resv; simpa using hn
    rw [hr]
    clear hr
    simp only [wordsL, List.mem_cons, List.not_mem_nil, or_false] at hn
    rcases hn with h | h | h | h | h | h | h | h | h | h | h | h | h | h | h | h | h | h | h | h | h | h | h
    all_goals
      obtain rfl := of_list h
      clear h
      go_enter Tryd.func77, Tryd.ntmps77
      go_wp2_with fail
      go_ret
      exact ⟨rfl, rfl⟩
  have hr : resv s.data.toList = false := by unfold resv; simpa using hn
  rw [hr]
  clear hr
  have n0 : (s.toList == [95]) = false := by rw [Lib.toList_data]; exact beq_eq_false_iff_ne.2 fun h => hn (by rw [h]; decide)
  have n1 : (s.toList == [99, 97, 115, 101]) = false := by rw [Lib.toList_data]; exact beq_eq_false_iff_ne.2 fun h => hn (by rw [h]; decide)
  have n2 : (s.toList == [99, 108, 97, 115, 115]) = false := by rw [Lib.toList_data]; exact beq_eq_false_iff_ne.2 fun h => hn (by rw [h]; decide)
  have n3 : (s.toList == [100, 97, 116, 97]) = false := by rw [Lib.toList_data]; exact beq_eq_false_iff_ne.2 fun h => hn (by rw [h]; decide)
  have n4 : (s.toList == [100, 101, 102, 97, 117, 108, 116]) = false := by rw [Lib.toList_data]; exact beq_eq_false_iff_ne.2 fun h => hn (by rw [h]; decide)
  have n5 : (s.toList == [100, 101, 114, 105, 118, 105, 110, 103]) = false := by rw [Lib.toList_data]; exact beq_eq_false_iff_ne.2 fun h => hn (by rw [h]; decide)
  have n6 : (s.toList == [100, 111]) = false := by rw [Lib.toList_data]; exact beq_eq_false_iff_ne.2 fun h => hn (by rw [h]; decide)
  have n7 : (s.toList == [101, 108, 115, 101]) = false := by rw [Lib.toList_data]; exact beq_eq_false_iff_ne.2 fun h => hn (by rw [h]; decide)
  have n8 : (s.toList == [102, 111, 114, 101, 105, 103, 110]) = false := by rw [Lib.toList_data]; exact beq_eq_false_iff_ne.2 fun h => hn (by rw [h]; decide)
  have n9 : (s.toList == [105, 102]) = false := by rw [Lib.toList_data]; exact beq_eq_false_iff_ne.2 fun h => hn (by rw [h]; decide)
  have n10 : (s.toList == [105, 109, 112, 111, 114, 116]) = false := by rw [Lib.toList_data]; exact beq_eq_false_iff_ne.2 fun h => hn (by rw [h]; decide)
  have n11 : (s.toList == [105, 110]) = false := by rw [Lib.toList_data]; exact beq_eq_false_iff_ne.2 fun h => hn (by rw [h]; decide)
  have n12 : (s.toList == [105, 110, 102, 105, 120]) = false := by rw [Lib.toList_data]; exact beq_eq_false_iff_ne.2 fun h => hn (by rw [h]; decide)
  have n13 : (s.toList == [105, 110, 102, 105, 120, 108]) = false := by rw [Lib.toList_data]; exact beq_eq_false_iff_ne.2 fun h => hn (by rw [h]; decide)
  have n14 : (s.toList == [105, 110, 102, 105, 120, 114]) = false := by rw [Lib.toList_data]; exact beq_eq_false_iff_ne.2 fun h => hn (by rw [h]; decide)
  have n15 : (s.toList == [105, 110, 115, 116, 97, 110, 99, 101]) = false := by rw [Lib.toList_data]; exact beq_eq_false_iff_ne.2 fun h => hn (by rw [h]; decide)
  have n16 : (s.toList == [108, 101, 116]) = false := by rw [Lib.toList_data]; exact beq_eq_false_iff_ne.2 fun h => hn (by rw [h]; decide)
  have n17 : (s.toList == [109, 111, 100, 117, 108, 101]) = false := by rw [Lib.toList_data]; exact beq_eq_false_iff_ne.2 fun h => hn (by rw [h]; decide)
  have n18 : (s.toList == [110, 101, 119, 116, 121, 112, 101]) = false := by rw [Lib.toList_data]; exact beq_eq_false_iff_ne.2 fun h => hn (by rw [h]; decide)
  have n19 : (s.toList == [111, 102]) = false := by rw [Lib.toList_data]; exact beq_eq_false_iff_ne.2 fun h => hn (by rw [h]; decide)
  have n20 : (s.toList == [116, 104, 101, 110]) = false := by rw [Lib.toList_data]; exact beq_eq_false_iff_ne.2 fun h => hn (by rw [h]; decide)
  have n21 : (s.toList == [116, 121, 112, 101]) = false := by rw [Lib.toList_data]; exact beq_eq_false_iff_ne.2 fun h => hn (by rw [h]; decide)
  have n22 : (s.toList == [119, 104, 101, 114, 101]) = false := by rw [Lib.toList_data]; exact beq_eq_false_iff_ne.2 fun h => hn (by rw [h]; decide)
  clear hn
  go_enter Tryd.func77, Tryd.ntmps77
  go_wp2_with fail
  go_ret
  exact ⟨rfl, rfl⟩

theorem inName_yes {c : Nat} (h : cls c = 2 ∨ cls c = 3 ∨ cls c = 4 ∨ (c : Int) = 39) : inName c = true := by
  unfold inName
  simp only [Bool.or_eq_true, beq_iff_eq]
  omega
theorem inName_no {c : Nat} (h : ¬ (cls c = 2 ∨ cls c = 3 ∨ cls c = 4 ∨ (c : Int) = 39)) : inName c = false := by
  rw [← Bool.not_eq_true]
  unfold inName
  simp only [Bool.or_eq_true, beq_iff_eq]
  omega
set_option maxHeartbeats 2000000 in
theorem within_any (c : Nat) (w : World) :
    Calls Tryd.prog 89 #[.int .i32 c] w fun e w' => e = .returned (.bool (inName c)) ∧ w = w' := by
  obtain ⟨k, hk⟩ : ∃ k, cls c = k := ⟨_, rfl⟩
  have cc := fun w => class_any c w
  rw [hk] at cc
  have CC := Lib.hid cc
  clear cc
  have hy := @inName_yes c
  have hno := @inName_no c
  rw [hk] at hy hno
  clear hk
  by_cases h : k = 2 ∨ k = 3 ∨ k = 4 ∨ (c : Int) = 39
  · rw [hy h]
    clear hy hno
    rcases h with rfl | rfl | rfl | h
    · go_enter Tryd.func89, Tryd.ntmps89
      go_wp2_with (go_at_call 88; refine (CC.out _).mono ?_; rintro e w' ⟨rfl, rfl⟩)
      go_ret
      exact ⟨rfl, rfl⟩
    · go_enter Tryd.func89, Tryd.ntmps89
      go_wp2_with (go_at_call 88; refine (CC.out _).mono ?_; rintro e w' ⟨rfl, rfl⟩)
      go_ret
      exact ⟨rfl, rfl⟩
    · go_enter Tryd.func89, Tryd.ntmps89
      go_wp2_with (go_at_call 88; refine (CC.out _).mono ?_; rintro e w' ⟨rfl, rfl⟩)
      go_ret
      exact ⟨rfl, rfl⟩
    · have hb : ((c : Int) == 39) = true := by simpa using h
      clear h
      go_enter Tryd.func89, Tryd.ntmps89
      go_wp2_with (go_at_call 88; refine (CC.out _).mono ?_; rintro e w' ⟨rfl, rfl⟩)
      all_goals (go_ret; exact ⟨ret_bool (by first | rfl | assumption), rfl⟩)
  · rw [hno h]
    clear hy hno
    have h2 : (k == 2) = false := beq_eq_false_iff_ne.2 (by omega)
    have h3 : (k == 3) = false := beq_eq_false_iff_ne.2 (by omega)
    have h4 : (k == 4) = false := beq_eq_false_iff_ne.2 (by omega)
    have hb : ((c : Int) == 39) = false := beq_eq_false_iff_ne.2 (by omega)
    clear h
    go_enter Tryd.func89, Tryd.ntmps89
    go_wp2_with (go_at_call 88; refine (CC.out _).mono ?_; rintro e w' ⟨rfl, rfl⟩)
    go_ret
    exact ⟨rfl, rfl⟩

set_option maxHeartbeats 1000000 in
theorem name_any (s : ByteArray) (w : World) (hs : s.size ≤ 1152921504606846976) :
    Calls Tryd.prog 76 #[.string s] w fun e w' => e = .returned (.string (s.extract 0 (nameLen s.data.toList))) ∧ Below w.heap.size w w' := by
  obtain ⟨R, hR⟩ : ∃ R : Nat, nameLen s.data.toList = R := ⟨_, rfl⟩
  have hRs : R ≤ s.size := by have := span_le' inName s.data.toList; unfold nameLen at hR; rw [hR, ← Lib.size_eq] at this; exact this
  rw [hR]
  have HR := Lib.hid hR
  clear hR
  go_enter Tryd.func76, Tryd.ntmps76
  go_wp2_with fail
  go_loopw [] (fun wr => ∃ pos : Nat, Iter w s pos wr ∧ Come inName s.data.toList pos) (fun wr => s.size - wr.iterPos w.heap.size)
  case atStart => exact ⟨0, Iter.start _ _, Come.start _ _⟩
  case round =>
    obtain ⟨pos, hI, hC⟩ := hrel
    have HP := Lib.hid (iterPos_at hI)
    by_cases hp : pos < s.size
    · have hpl : pos < s.data.toList.length := by rw [← Lib.size_eq]; exact hp
      have hnx : ∀ ty, (Instr.next (.pointer (some ⟨w.heap.size, 0, none⟩)) true ty).run Tryd.prog wr = _ := fun ty => Lib.run_next_any_at wr w.heap.size s pos ty hI.1 hp
      rw [decode_eq] at hnx
      have hdl := dec_len _ (drop_ne hpl)
      have hI2 := hI.next (pos + (dec (s.data.toList.drop pos)).2)
      by_cases hk : inName (dec (s.data.toList.drop pos)).1 = true
      · have hC2 := hC.next hpl hk
        have hq := Lib.hid hC2.1
        go_wp2_with (go_at_call 89; refine (within_any _ _).mono ?_; rintro e w' ⟨rfl, rfl⟩)
        go_roundw
        case rel => exact ⟨_, hI2, hC2⟩
        case measure =>
          rw [HP.out, iterPos_at hI2]
          have := hq.out
          rw [← Lib.size_eq] at this
          omega
      · have hk : inName (dec (s.data.toList.drop pos)).1 = false := by simpa using hk
        have hE := hC.stop hk
        have : nameLen s.data.toList = pos := hE
        rw [HR.out] at this
        subst this
        go_wp2_with (go_at_call 89; refine (within_any _ _).mono ?_; rintro e w' ⟨rfl, rfl⟩)
        go_ret
        exact ⟨rfl, hI2.2⟩
    · have hpl : ¬ pos < s.data.toList.length := by rw [← Lib.size_eq]; exact hp
      have hnx : ∀ ty, (Instr.next (.pointer (some ⟨w.heap.size, 0, none⟩)) true ty).run Tryd.prog wr = _ := fun ty => Lib.run_next_end_at wr w.heap.size s pos ty hI.1 hp
      have hE : nameLen s.data.toList = pos := hC.end hpl
      have hS := hC.size hpl
      rw [HR.out] at hE
      rw [← Lib.size_eq] at hS
      have HF : Hid (s.extract 0 R = s) := by show _ = _; rw [hE, hS]; exact ByteArray.extract_zero_size
      clear hE hS
      go_wp2_with fail
      go_ret
      exact ⟨ret_str HF.out.symm, hI.2⟩
end Go.Proofs.YtikkdkacflkifaaDoor
