/- DERIVED. The walks of word's inner functions: a row of symbols, the word that begins a text, the qualified one. -/
import Derived.Test.YtikkdkacflkifaaDoorWordA
set_option linter.unusedSimpArgs false
set_option linter.unusedVariables false
namespace Go.Proofs.YtikkdkacflkifaaDoor
open Go.RowKit

theorem hasPrefix_one (l : List UInt8) (c : UInt8) : Lib.hasPrefix l [c] = (l.getD 0 0 == c && decide (0 < l.length)) := by
  cases l with
  | nil => simp [Lib.hasPrefix]
  | cons a t =>
    by_cases h : a = c
    · subst h; simp [Lib.hasPrefix]
    · have e1 : (a == c) = false := beq_eq_false_iff_ne.2 h
      have e2 : (c == a) = false := beq_eq_false_iff_ne.2 fun e => h e.symm
      simp only [Lib.hasPrefix, List.isPrefixOf, List.getD_cons_zero, e1, e2, Bool.false_and]

set_option maxHeartbeats 4000000 in
theorem symbols_any (s : ByteArray) (w : World) :
    Calls Tryd.prog 75 #[.string s] w fun e w' => e = .returned (.int .i64 (symK s.data.toList)) ∧ w = w' := by
  by_cases hn : s.data.toList ∈ marksL
  · have hr : symK s.data.toList = 10 := by unfold symK; rw [if_pos (by simpa using hn)]
    rw [hr]
    clear hr
    simp only [marksL, List.mem_cons, List.not_mem_nil, or_false] at hn
    rcases hn with h | h | h | h | h | h | h | h | h | h | h
    all_goals
      obtain rfl := of_list h
      clear h
      go_enter Tryd.func75, Tryd.ntmps75
      go_wp2_with fail
      go_ret
      exact ⟨rfl, rfl⟩
  have hr : symK s.data.toList = if Lib.hasPrefix s.data.toList [58] = true then 6 else 5 := by
    unfold symK; rw [if_neg (by simpa using hn), hasPrefix_one]
    cases s.data.toList <;> simp
  rw [hr]
  clear hr
  have hc := Tryd.strings_HasPrefix s ⟨#[58]⟩
  generalize hb : Lib.hasPrefix s.data.toList [58] = b at *
  have HC : Hid (∀ w, Calls Tryd.prog 62 #[.string s, .string ⟨#[58]⟩] w fun e w' => e = .returned (.bool b) ∧ w' = w) := by
    exact hc
  clear hc hb
  have n0 : (s.toList == [46, 46]) = false := by rw [Lib.toList_data]; exact beq_eq_false_iff_ne.2 fun h => hn (by rw [h]; decide)
  have n1 : (s.toList == [58]) = false := by rw [Lib.toList_data]; exact beq_eq_false_iff_ne.2 fun h => hn (by rw [h]; decide)
  have n2 : (s.toList == [58, 58]) = false := by rw [Lib.toList_data]; exact beq_eq_false_iff_ne.2 fun h => hn (by rw [h]; decide)
  have n3 : (s.toList == [61]) = false := by rw [Lib.toList_data]; exact beq_eq_false_iff_ne.2 fun h => hn (by rw [h]; decide)
  have n4 : (s.toList == [92]) = false := by rw [Lib.toList_data]; exact beq_eq_false_iff_ne.2 fun h => hn (by rw [h]; decide)
  have n5 : (s.toList == [124]) = false := by rw [Lib.toList_data]; exact beq_eq_false_iff_ne.2 fun h => hn (by rw [h]; decide)
  have n6 : (s.toList == [60, 45]) = false := by rw [Lib.toList_data]; exact beq_eq_false_iff_ne.2 fun h => hn (by rw [h]; decide)
  have n7 : (s.toList == [45, 62]) = false := by rw [Lib.toList_data]; exact beq_eq_false_iff_ne.2 fun h => hn (by rw [h]; decide)
  have n8 : (s.toList == [64]) = false := by rw [Lib.toList_data]; exact beq_eq_false_iff_ne.2 fun h => hn (by rw [h]; decide)
  have n9 : (s.toList == [126]) = false := by rw [Lib.toList_data]; exact beq_eq_false_iff_ne.2 fun h => hn (by rw [h]; decide)
  have n10 : (s.toList == [61, 62]) = false := by rw [Lib.toList_data]; exact beq_eq_false_iff_ne.2 fun h => hn (by rw [h]; decide)
  clear hn
  cases b with
  | true =>
    go_enter Tryd.func75, Tryd.ntmps75
    go_wp2_with (go_at_call 62; refine (HC.out _).mono ?_; rintro e w' ⟨rfl, rfl⟩)
    go_ret
    exact ⟨rfl, rfl⟩
  | false =>
    go_enter Tryd.func75, Tryd.ntmps75
    go_wp2_with (go_at_call 62; refine (HC.out _).mono ?_; rintro e w' ⟨rfl, rfl⟩)
    go_ret
    exact ⟨rfl, rfl⟩

set_option maxHeartbeats 1000000 in
theorem first_any (s : ByteArray) (w : World) (hs : s.size ≤ 1152921504606846976) (hT : Tabs w) :
    Calls Tryd.prog 73 #[.string s] w fun e w' => e = .returned (.int .i64 (firstC s.data.toList)) ∧ Below w.heap.size w w' := by
  have n1 := next_any s 0 w hs hT
  by_cases h0 : s.data.toList = []
  · have hn : nextL s.data.toList 0 = (0, 0) := by rw [h0]; rfl
    have hf : firstC s.data.toList = 0 := by rw [h0]; rfl
    rw [hn] at n1
    rw [hf]
    have N1 := Lib.hid n1
    clear n1 hn hf h0 hT
    go_enter Tryd.func73, Tryd.ntmps73
    go_wp2_with fail
    refine N1.out.mono ?_
    rintro e w1 ⟨rfl, hb⟩
    have HB := Lib.hid hb
    clear hb
    go_wp2_with fail
    go_ret
    exact ⟨rfl, HB.out⟩
  · have hl : 0 < s.data.toList.length := List.length_pos_iff.2 h0
    have hn : nextL s.data.toList 0 = (((dec s.data.toList).1 : Int), ((dec s.data.toList).2 : Int)) := by
      unfold nextL; rw [if_pos ⟨Int.le_refl _, by omega⟩]; rfl
    have hf : firstC s.data.toList = cls (dec s.data.toList).1 := by unfold firstC; rw [if_neg h0]
    have hdl := dec_len _ h0
    rw [hn] at n1
    rw [hf]
    have hb0 : (((dec s.data.toList).2 : Int) == 0) = false := beq_eq_false_iff_ne.2 (by omega)
    have N1 := Lib.hid n1
    clear n1 hn hf h0 hT
    go_enter Tryd.func73, Tryd.ntmps73
    go_wp2_with fail
    refine N1.out.mono ?_
    rintro e w1 ⟨rfl, hb⟩
    have HB := Lib.hid hb
    clear hb
    go_wp2_with (go_at_call 88; refine (class_any _ _).mono ?_; rintro e w' ⟨rfl, rfl⟩)
    go_ret
    exact ⟨rfl, HB.out⟩

set_option maxHeartbeats 1000000 in
theorem qualified_any (k : Int) (w : World) :
    Calls Tryd.prog 63 #[.int .i64 k] w fun e w' => e = .returned (.int .i64 (qualK k)) ∧ w = w' := by
  by_cases h1 : k = 1
  · subst h1
    go_enter Tryd.func63, Tryd.ntmps63
    go_wp2_with fail
    go_ret
    exact ⟨rfl, rfl⟩
  by_cases h2 : k = 2
  · subst h2
    go_enter Tryd.func63, Tryd.ntmps63
    go_wp2_with fail
    go_ret
    exact ⟨rfl, rfl⟩
  by_cases h5 : k = 5
  · subst h5
    go_enter Tryd.func63, Tryd.ntmps63
    go_wp2_with fail
    go_ret
    exact ⟨rfl, rfl⟩
  by_cases h6 : k = 6
  · subst h6
    go_enter Tryd.func63, Tryd.ntmps63
    go_wp2_with fail
    go_ret
    exact ⟨rfl, rfl⟩
  have hq : qualK k = 0 := by unfold qualK; rw [if_neg h1, if_neg h2, if_neg h5, if_neg h6]
  rw [hq]
  have b1 : (k == 1) = false := beq_eq_false_iff_ne.2 h1
  have b2 : (k == 2) = false := beq_eq_false_iff_ne.2 h2
  have b5 : (k == 5) = false := beq_eq_false_iff_ne.2 h5
  have b6 : (k == 6) = false := beq_eq_false_iff_ne.2 h6
  clear hq h1 h2 h5 h6
  go_enter Tryd.func63, Tryd.ntmps63
  go_wp2_with fail
  go_ret
  exact ⟨rfl, rfl⟩
end Go.Proofs.YtikkdkacflkifaaDoor
