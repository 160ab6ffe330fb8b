/- DERIVED. The walks of plain and scan. -/
import Derived.Test.YtikkdkacflkifaaDoorWordB
set_option linter.unusedSimpArgs false
set_option linter.unusedVariables false
namespace Go.Proofs.YtikkdkacflkifaaDoor
open Go.RowKit

theorem ext_data (s : ByteArray) (n : Nat) : (s.extract 0 n).data.toList = s.data.toList.take n := by
  rw [Lib.extract_data]; simp
theorem ext_size (s : ByteArray) (n : Nat) (h : n ≤ s.size) : (s.extract 0 n).size = n := by simp; omega
theorem ext_nil (s : ByteArray) : s.extract 0 0 = ⟨#[]⟩ := by
  rw [Lib.extract_eq]; rfl
theorem run_zero (l : List UInt8) (k : Int) : runL l 0 k = (span (isCls k) l : Nat) := by
  unfold runL; rw [if_pos ⟨Int.le_refl _, by omega⟩]; simp

set_option maxHeartbeats 1000000 in
theorem plain_any (s : ByteArray) (w : World) (hs : s.size ≤ 1152921504606846976) (hT : Tabs w) :
    Calls Tryd.prog 61 #[.string s] w fun e w' => e = .returned (.tuple #[.int .i64 (plainW s.data.toList).1, .string (s.extract 0 (plainW s.data.toList).2)]) ∧ Below w.heap.size w w' := by
  have f1 := first_any s w hs hT
  have HT := Lib.hid hT
  clear hT
  by_cases h6 : firstC s.data.toList = 6
  · have hp : plainW s.data.toList = (15, 1) := by unfold plainW; rw [if_pos h6]
    rw [h6] at f1
    rw [hp]
    have hl : 1 ≤ s.size := by
      have := plainW_le s.data.toList; rw [hp, ← Lib.size_eq] at this; exact this
    have F1 := Lib.hid f1
    clear f1 hp h6
    go_enter Tryd.func61, Tryd.ntmps61
    go_wp2_with fail
    refine F1.out.mono ?_
    rintro e w1 ⟨rfl, hb⟩
    have HB := Lib.hid hb
    clear hb
    go_wp2_with fail
    go_quiet (fail)
    go_wp2_with fail
    go_ret2
    exact ⟨rfl, below_drewN HB.out _⟩
  by_cases h5 : firstC s.data.toList = 5
  · obtain ⟨n, hn⟩ : ∃ n, span (isCls 5) s.data.toList = n := ⟨_, rfl⟩
    have hp : plainW s.data.toList = (symK (s.data.toList.take n), n) := by unfold plainW; rw [if_neg h6, if_pos h5, hn]
    rw [h5] at f1
    rw [hp]
    have hl : n ≤ s.size := by
      have := plainW_le s.data.toList; rw [hp, ← Lib.size_eq] at this; exact this
    have r1 := fun w => run_any s 0 5 w hs
    rw [run_zero, hn] at r1
    have k1 := fun w => symbols_any (s.extract 0 n) w
    rw [ext_data] at k1
    have F1 := Lib.hid f1; have R1 := Lib.hid r1; have K1 := Lib.hid k1
    clear f1 r1 k1 hp h6 h5 hn
    go_enter Tryd.func61, Tryd.ntmps61
    go_wp2_with fail
    refine F1.out.mono ?_
    rintro e w1 ⟨rfl, hb⟩
    have HB := Lib.hid hb
    clear hb
    go_wp2_with fail
    refine (R1.out _).mono ?_
    rintro e w2 ⟨rfl, hb2⟩
    have HB2 := Lib.hid (Below.then HB.out hb2)
    clear hb2
    go_wp2_with fail
    refine (K1.out _).mono ?_
    rintro e w' ⟨rfl, rfl⟩
    go_wp2_with fail
    go_ret2
    exact ⟨rfl, HB2.out⟩
  by_cases h3 : firstC s.data.toList = 3
  · have hp : plainW s.data.toList = (2, nameLen s.data.toList) := by unfold plainW; rw [if_neg h6, if_neg h5, if_pos h3]
    rw [h3] at f1
    rw [hp]
    have n1 := fun w => name_any s w hs
    generalize nameLen s.data.toList = n at *
    have F1 := Lib.hid f1; have N1 := Lib.hid n1
    clear f1 n1 hp h6 h5 h3
    go_enter Tryd.func61, Tryd.ntmps61
    go_wp2_with fail
    refine F1.out.mono ?_
    rintro e w1 ⟨rfl, hb⟩
    have HB := Lib.hid hb
    clear hb
    go_wp2_with fail
    refine (N1.out _).mono ?_
    rintro e w2 ⟨rfl, hb2⟩
    have HB2 := Lib.hid (Below.then HB.out hb2)
    clear hb2
    go_wp2_with fail
    go_ret2
    exact ⟨rfl, HB2.out⟩
  by_cases h2 : firstC s.data.toList = 2
  · have hp : plainW s.data.toList = ((if resv (s.data.toList.take (nameLen s.data.toList)) then 9 else 1), nameLen s.data.toList) := by unfold plainW; rw [if_neg h6, if_neg h5, if_neg h3, if_pos h2]
    rw [h2] at f1
    rw [hp]
    have n1 := fun w => name_any s w hs
    have r1 := fun w => reserved_any (s.extract 0 (nameLen s.data.toList)) w
    rw [ext_data] at r1
    generalize nameLen s.data.toList = n at *
    generalize resv (s.data.toList.take n) = b at *
    have F1 := Lib.hid f1; have N1 := Lib.hid n1; have R1 := Lib.hid r1
    clear f1 n1 r1 hp h6 h5 h3 h2
    cases b
    all_goals
      go_enter Tryd.func61, Tryd.ntmps61
      go_wp2_with fail
      refine F1.out.mono ?_
      rintro e w1 ⟨rfl, hb⟩
      have HB := Lib.hid hb
      clear hb
      go_wp2_with fail
      refine (N1.out _).mono ?_
      rintro e w2 ⟨rfl, hb2⟩
      have HB2 := Lib.hid (Below.then HB.out hb2)
      clear hb2
      go_wp2_with fail
      refine (R1.out _).mono ?_
      rintro e w' ⟨rfl, rfl⟩
      go_wp2_with fail
      go_ret2
      exact ⟨rfl, HB2.out⟩
  have hp : plainW s.data.toList = (0, 0) := by unfold plainW; rw [if_neg h6, if_neg h5, if_neg h3, if_neg h2]
  rw [hp, ext_nil]
  generalize firstC s.data.toList = k at *
  have b6 : (k == 6) = false := beq_eq_false_iff_ne.2 h6
  have b5 : (k == 5) = false := beq_eq_false_iff_ne.2 h5
  have b3 : (k == 3) = false := beq_eq_false_iff_ne.2 h3
  have b2 : (k == 2) = false := beq_eq_false_iff_ne.2 h2
  have F1 := Lib.hid f1
  clear f1 hp h6 h5 h3 h2
  go_enter Tryd.func61, Tryd.ntmps61
  go_wp2_with fail
  refine F1.out.mono ?_
  rintro e w1 ⟨rfl, hb⟩
  have HB := Lib.hid hb
  clear hb
  go_wp2_with fail
  go_ret2
  exact ⟨rfl, HB.out⟩
end Go.Proofs.YtikkdkacflkifaaDoor
