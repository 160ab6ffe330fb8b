/- DERIVED. The walks of the reference's Of and Width. -/
import Derived.Test.YtmbgfchbjedjnaaDoorPlaceC
set_option linter.unusedSimpArgs false
set_option linter.unusedVariables false
namespace Go.Proofs.YtmbgfchbjedjnaaDoor
open Go.RowKit

theorem nextL_at (s : ByteArray) (i : Nat) (hi : i < s.size) : nextL s.data.toList i = (((dec (s.data.toList.drop i)).1 : Int), ((dec (s.data.toList.drop i)).2 : Int)) := by
  unfold nextL; rw [if_pos ⟨by omega, by rw [← Lib.size_eq]; omega⟩, Int.toNat_natCast]
theorem drop_ne (s : ByteArray) (i : Nat) (hi : i < s.size) : s.data.toList.drop i ≠ [] := by
  intro e; have := congrArg List.length e; rw [List.length_drop, ← Lib.size_eq] at this; simp at this; omega
theorem colS_tab (s : ByteArray) (i : Nat) (hi : i < s.size) (col : Int) (hn : ¬ 0 < nl (s.data.toList.drop i)) (h9 : s[i] = 9) : colS (s.data.toList.drop i) col = stopC col := by
  unfold colS; rw [if_neg hn, getD_drop, Nat.add_zero, ← byte_at s i hi, if_pos h9]
theorem colS_not (s : ByteArray) (i : Nat) (hi : i < s.size) (col : Int) (hn : ¬ 0 < nl (s.data.toList.drop i)) (h9 : s[i] ≠ 9) : colS (s.data.toList.drop i) col = col + 1 := by
  unfold colS; rw [if_neg hn, getD_drop, Nat.add_zero, ← byte_at s i hi, if_neg h9]

set_option maxHeartbeats 1000000 in
theorem refOf_any (s : ByteArray) (k : Int) (w : World) (hs : s.size ≤ 72057594037927936) :
    Calls Tryd.prog 11 #[.string s, .int .i64 k] w fun e w' => e = .returned (ofV s k) ∧ w = w' := by
  by_cases h : k < 0 ∨ k > s.size
  · have hv : ofV s k = .tuple #[.int .i64 0, .int .i64 0, .int .i64 1] := by unfold ofV; rw [if_pos h]
    rw [hv]
    rcases h with h | h
    all_goals
      go_enter Tryd.func11, Tryd.ntmps11
      go_wp2_with fail
      go_ret3
      exact ⟨rfl, rfl⟩
  · have hv : ofV s k = .tuple #[.int .i64 (ofL s.data.toList k.toNat 1 1).1, .int .i64 (ofL s.data.toList k.toNat 1 1).2, .int .i64 0] := by unfold ofV; rw [if_neg h]
    rw [hv]
    obtain ⟨k, rfl⟩ := Int.eq_ofNat_of_zero_le (show 0 ≤ k by omega)
    rw [Int.toNat_natCast]
    have hk : k ≤ s.size := by omega
    have t1 : decide ((k : Int) < 0) = false := by simp
    have t2 : decide ((s.size : Int) < k) = false := by simp; omega
    have t2n : decide (s.size < k) = false := by simp; omega
    clear h hv
    obtain ⟨R, hR⟩ : ∃ R, ofL s.data.toList k 1 1 = R := ⟨_, rfl⟩
    rw [hR]
    have HR := Lib.hid hR
    clear hR
    go_enter Tryd.func11, Tryd.ntmps11
    go_wp2_with fail
    go_loop [7, 8, 9] (fun a b c => ∃ (i : Nat) (line col : Int), a = .int .i64 line ∧ b = .int .i64 col ∧ c = .int .i64 i ∧ i ≤ k ∧ (1 ≤ line ∧ line ≤ 1 + i) ∧ (1 ≤ col ∧ col ≤ 1 + 8 * i) ∧ ofL (s.data.toList.drop i) (k - i) line col = R) (fun _ _ c => k - (intOf c).toNat)
    case atStart => exact ⟨0, 1, 1, rfl, rfl, rfl, by omega, by omega, by omega, HR.out⟩
    case round =>
      obtain ⟨i, line, col, rfl, rfl, rfl, hik, hl, hc, hO⟩ := hrel
      have HO := Lib.hid hO
      clear hO
      by_cases hi : i < k
      · have hi2 : i < s.size := by omega
        have hne := drop_ne s i hi2
        have n1 := fun w => end_any s i w hi2 (by omega)
        have x1 := fun w => refNext_any s i w (by omega)
        rw [nextL_at s i hi2] at x1
        have hub := unit_bd _ hne
        have hon := ofL_on (s.data.toList.drop i) (k - i) line col hne
        have hsp := ofL_stop (s.data.toList.drop i) (k - i) line col
        rw [List.drop_drop] at hon
        by_cases hn : 0 < nl (s.data.toList.drop i)
        · have hu : unit (s.data.toList.drop i) = nl (s.data.toList.drop i) := by unfold unit; rw [if_pos hn]
          have hls : lineS (s.data.toList.drop i) line = line + 1 := by unfold lineS; rw [if_pos hn]
          have hcs : colS (s.data.toList.drop i) col = 1 := by unfold colS; rw [if_pos hn]
          rw [hls, hcs, hu] at hon
          rw [hu] at hsp hub
          clear hu hls hcs
          generalize nl (s.data.toList.drop i) = U at *
          have N1 := Lib.hid n1; have HON := Lib.hid hon; have HSP := Lib.hid hsp
          have t0 : decide ((0 : Int) < U) = true := by simp; omega
          clear n1 x1 hne hon hsp
          by_cases hu : i + U ≤ k
          · have t3 : decide ((k : Int) < i + U) = false := by simp; omega
            go_wp2_with fail
            refine (N1.out _).mono ?_
            rintro e w1 ⟨rfl, rfl⟩
            go_wp2_with fail
            go_round
            case rel =>
              refine ⟨i + U, line + 1, 1, by go_num, rfl, by go_num, hu, by omega, by omega, ?_⟩
              have := HON.out (by omega); rw [HO.out, Nat.sub_sub] at this; exact this.symm
            case measure => simp [intOf]; omega
          · have t3 : decide ((k : Int) < i + U) = true := by simp; omega
            have he : R = (line, col) := by rw [← HO.out]; exact HSP.out (by omega)
            subst he
            go_wp2_with fail
            refine (N1.out _).mono ?_
            rintro e w1 ⟨rfl, rfl⟩
            go_wp2_with fail
            go_ret3
            exact ⟨rfl, rfl⟩
        · have hu : unit (s.data.toList.drop i) = (dec (s.data.toList.drop i)).2 := by unfold unit; rw [if_neg hn]
          have hls : lineS (s.data.toList.drop i) line = line := by unfold lineS; rw [if_neg hn]
          have c9 : ((s[i].toNat : Int) == 9) = (s[i] == 9) := toNat_beq _ 9
          have hct := colS_tab s i hi2 col hn
          have hcn := colS_not s i hi2 col hn
          rw [hls, hu] at hon
          rw [hu] at hsp hub
          clear hu hls
          generalize colS (s.data.toList.drop i) col = C at *
          generalize nl (s.data.toList.drop i) = n at *
          generalize dec (s.data.toList.drop i) = D at *
          obtain ⟨d, U⟩ := D
          simp only at *
          have N1 := Lib.hid n1; have HON := Lib.hid hon; have HSP := Lib.hid hsp; have X1 := Lib.hid x1
          have t0 : decide ((0 : Int) < n) = false := by simp; omega
          clear n1 x1 hne hon hsp
          by_cases hu : i + U ≤ k
          · have t3 : decide ((k : Int) < i + U) = false := by simp; omega
            by_cases h9 : s[i] = 9
            · rw [beq_iff_eq.2 h9] at c9
              have hC : C = col + 8 - (col - 1) % 8 := by rw [hct h9]; unfold stopC; omega
              clear hct hcn h9
              go_wp2_with fail
              refine (N1.out _).mono ?_
              rintro e w1 ⟨rfl, rfl⟩
              go_wp2_with fail
              refine (X1.out _).mono ?_
              rintro e w1 ⟨rfl, rfl⟩
              go_wp2_with fail
              go_round
              case rel =>
                refine ⟨i + U, line, C, rfl, by rw [hC], by go_num, hu, by omega, by omega, ?_⟩
                have := HON.out (by omega); rw [HO.out, Nat.sub_sub] at this; exact this.symm
              case measure => simp [intOf]; omega
            · rw [beq_eq_false_iff_ne.2 h9] at c9
              have hC := hcn h9
              clear hct hcn h9
              go_wp2_with fail
              refine (N1.out _).mono ?_
              rintro e w1 ⟨rfl, rfl⟩
              go_wp2_with fail
              refine (X1.out _).mono ?_
              rintro e w1 ⟨rfl, rfl⟩
              go_wp2_with fail
              go_round
              case rel =>
                refine ⟨i + U, line, C, rfl, by rw [hC], by go_num, hu, by omega, by omega, ?_⟩
                have := HON.out (by omega); rw [HO.out, Nat.sub_sub] at this; exact this.symm
              case measure => simp [intOf]; omega
          · have t3 : decide ((k : Int) < i + U) = true := by simp; omega
            have he : R = (line, col) := by rw [← HO.out]; exact HSP.out (by omega)
            subst he
            clear hct hcn c9
            go_wp2_with fail
            refine (N1.out _).mono ?_
            rintro e w1 ⟨rfl, rfl⟩
            go_wp2_with fail
            refine (X1.out _).mono ?_
            rintro e w1 ⟨rfl, rfl⟩
            go_wp2_with fail
            go_ret3
            exact ⟨rfl, rfl⟩
      · have t3 : decide ((i : Int) < k) = false := by simp; omega
        have he : R = (line, col) := by rw [← HO.out, show k - i = 0 from by omega, ofL_end]
        subst he
        go_wp2_with fail
        go_ret3
        exact ⟨rfl, rfl⟩

set_option maxHeartbeats 1000000 in
theorem refWidth_any (s : ByteArray) (cl : Int) (w : World) (hs : s.size ≤ 72057594037927936) :
    Calls Tryd.prog 17 #[.string s, .int .i64 cl] w fun e w' => e = .returned (widthV s cl) ∧ w = w' := by
  by_cases h : cl < 1 ∨ cl > 2147483648
  · have hv : widthV s cl = .tuple #[.int .i64 0, .int .i64 1] := by unfold widthV; rw [if_pos h]
    rw [hv]
    rcases h with h | h
    all_goals
      go_enter Tryd.func17, Tryd.ntmps17
      go_wp2_with fail
      go_ret2
      exact ⟨rfl, rfl⟩
  · have hv : widthV s cl = .tuple #[.int .i64 (ofL s.data.toList s.size 1 cl).2, .int .i64 0] := by unfold widthV; rw [if_neg h]
    rw [hv]
    have t1 : decide (cl < 1) = false := by simp; omega
    have t2 : decide (2147483648 < cl) = false := by simp; omega
    have hcl : 1 ≤ cl ∧ cl ≤ 2147483648 := by omega
    clear h hv
    obtain ⟨R, hR⟩ : ∃ R, ofL s.data.toList s.size 1 cl = R := ⟨_, rfl⟩
    rw [hR]
    have HR := Lib.hid hR
    clear hR
    go_enter Tryd.func17, Tryd.ntmps17
    go_wp2_with fail
    go_loop [1, 6] (fun b c => ∃ (i : Nat) (line col : Int), b = .int .i64 col ∧ c = .int .i64 i ∧ i ≤ s.size ∧ (1 ≤ col ∧ col ≤ cl + 8 * i) ∧ ofL (s.data.toList.drop i) (s.size - i) line col = R) (fun _ c => s.size - (intOf c).toNat)
    case atStart => exact ⟨0, 1, cl, rfl, rfl, by omega, by omega, HR.out⟩
    case round =>
      obtain ⟨i, line, col, rfl, rfl, hik, hc, hO⟩ := hrel
      have HO := Lib.hid hO
      clear hO
      by_cases hi : i < s.size
      · have hne := drop_ne s i hi
        have n1 := fun w => end_any s i w hi (by omega)
        have x1 := fun w => refNext_any s i w (by omega)
        rw [nextL_at s i hi] at x1
        have hub := unit_bd _ hne
        rw [List.length_drop, ← Lib.size_eq] at hub
        have hon := ofL_on (s.data.toList.drop i) (s.size - i) line col hne
        rw [List.drop_drop] at hon
        by_cases hn : 0 < nl (s.data.toList.drop i)
        · have hu : unit (s.data.toList.drop i) = nl (s.data.toList.drop i) := by unfold unit; rw [if_pos hn]
          have hcs : colS (s.data.toList.drop i) col = 1 := by unfold colS; rw [if_pos hn]
          rw [hcs, hu] at hon
          rw [hu] at hub
          clear hu hcs
          generalize lineS (s.data.toList.drop i) line = L at *
          generalize nl (s.data.toList.drop i) = U at *
          have N1 := Lib.hid n1; have HON := Lib.hid hon
          have t0 : decide ((0 : Int) < U) = true := by simp; omega
          clear n1 x1 hne hon
          go_wp2_with fail
          refine (N1.out _).mono ?_
          rintro e w1 ⟨rfl, rfl⟩
          go_wp2_with fail
          go_round
          case rel =>
            refine ⟨i + U, L, 1, rfl, by go_num, by omega, by omega, ?_⟩
            have := HON.out (by omega); rw [HO.out, Nat.sub_sub] at this; exact this.symm
          case measure => simp [intOf]; omega
        · have hu : unit (s.data.toList.drop i) = (dec (s.data.toList.drop i)).2 := by unfold unit; rw [if_neg hn]
          have c9 : ((s[i].toNat : Int) == 9) = (s[i] == 9) := toNat_beq _ 9
          have hct := colS_tab s i hi col hn
          have hcn := colS_not s i hi col hn
          rw [hu] at hon
          rw [hu] at hub
          clear hu
          generalize lineS (s.data.toList.drop i) line = L at *
          generalize colS (s.data.toList.drop i) col = C at *
          generalize nl (s.data.toList.drop i) = n at *
          generalize dec (s.data.toList.drop i) = D at *
          obtain ⟨d, U⟩ := D
          simp only at *
          have N1 := Lib.hid n1; have HON := Lib.hid hon; have X1 := Lib.hid x1
          have t0 : decide ((0 : Int) < n) = false := by simp; omega
          clear n1 x1 hne hon
          by_cases h9 : s[i] = 9
          · rw [beq_iff_eq.2 h9] at c9
            have hC : C = col + 8 - (col - 1) % 8 := by rw [hct h9]; unfold stopC; omega
            clear hct hcn h9
            go_wp2_with fail
            refine (N1.out _).mono ?_
            rintro e w1 ⟨rfl, rfl⟩
            go_wp2_with fail
            refine (X1.out _).mono ?_
            rintro e w1 ⟨rfl, rfl⟩
            go_wp2_with fail
            go_round
            case rel =>
              refine ⟨i + U, L, C, by rw [hC], by go_num, by omega, by omega, ?_⟩
              have := HON.out (by omega); rw [HO.out, Nat.sub_sub] at this; exact this.symm
            case measure => simp [intOf]; omega
          · rw [beq_eq_false_iff_ne.2 h9] at c9
            have hC := hcn h9
            clear hct hcn h9
            go_wp2_with fail
            refine (N1.out _).mono ?_
            rintro e w1 ⟨rfl, rfl⟩
            go_wp2_with fail
            refine (X1.out _).mono ?_
            rintro e w1 ⟨rfl, rfl⟩
            go_wp2_with fail
            go_round
            case rel =>
              refine ⟨i + U, L, C, by rw [hC], by go_num, by omega, by omega, ?_⟩
              have := HON.out (by omega); rw [HO.out, Nat.sub_sub] at this; exact this.symm
            case measure => simp [intOf]; omega
      · have t3 : decide ((i : Int) < s.size) = false := by simp; omega
        have he : R = (line, col) := by rw [← HO.out, show s.size - i = 0 from by omega, ofL_end]
        subst he
        go_wp2_with fail
        go_ret2
        exact ⟨rfl, rfl⟩
end Go.Proofs.YtmbgfchbjedjnaaDoor
