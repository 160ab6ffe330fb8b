/- DERIVED. The walk of the reference's Run. -/
import Derived.Test.YtmgnpgbganjgfaaDoorRun
set_option linter.unusedSimpArgs false
set_option linter.unusedVariables false
namespace Go.Proofs.YtmgnpgbganjgfaaDoor
open Go.RowKit

set_option maxHeartbeats 1000000 in
theorem refRun_any (s : ByteArray) (i k : Int) (w : World) (hs : s.size ≤ 1152921504606846976) :
    Calls Tryd.prog 35 #[.string s, .int .i64 i, .int .i64 k] w fun e w' => e = .returned (.int .i64 (runL s.data.toList i k)) ∧ w = w' := by
  by_cases h : 0 ≤ i ∧ i ≤ s.size
  · obtain ⟨i, rfl⟩ := Int.eq_ofNat_of_zero_le h.1
    have hi : i ≤ s.size := by omega
    obtain ⟨R, hR⟩ : ∃ R : Nat, span (isCls k) (s.data.toList.drop i) = R := ⟨_, rfl⟩
    have hF : runL s.data.toList i k = (i + R : Nat) := by
      unfold runL
      rw [if_pos ⟨by omega, by rw [← Lib.size_eq]; omega⟩, Int.toNat_natCast, hR]; omega
    rw [hF]
    have HR := Lib.hid hR
    clear hF hR h
    have t0 : decide ((i : Int) < 0) = false := by simp
    have t1 : decide (s.size < i) = false := by simp; omega
    go_enter Tryd.func35, Tryd.ntmps35
    go_wp2_with fail
    go_loop [1] (fun j => ∃ pos : Nat, j = .int .i64 ((i : Int) + pos) ∧ i + pos ≤ s.size ∧ Hid (Come (isCls k) (s.data.toList.drop i) pos)) (fun j => s.size - (intOf j).toNat)
    case atStart => exact ⟨0, by simp, by omega, Come.start _ _⟩
    case round =>
      obtain ⟨pos, rfl, hle, hC⟩ := hrel
      by_cases hp : i + pos < s.size
      · have hpl : pos < (s.data.toList.drop i).length := by rw [List.length_drop, ← Lib.size_eq]; omega
        have hdl := dec_len _ (drop_ne hpl)
        have hdd : (s.data.toList.drop i).drop pos = s.data.toList.drop (i + pos) := List.drop_drop
        have hlen : (s.data.toList.drop (i + pos)).length = s.size - (i + pos) := by rw [List.length_drop, ← Lib.size_eq]
        have hnx : Hid (nextL s.data.toList ((i : Int) + pos) = (((dec ((s.data.toList.drop i).drop pos)).1 : Int), ((dec ((s.data.toList.drop i).drop pos)).2 : Int))) := by
          show nextL s.data.toList ((i : Int) + pos) = _
          unfold nextL; rw [if_pos ⟨by omega, by rw [← Lib.size_eq]; omega⟩, show ((i : Int) + pos).toNat = i + pos from by omega, hdd]
        rw [hdd, hlen] at hdl
        rw [← hdd] at hdl
        clear hlen hdd
        by_cases hk : cls (dec ((s.data.toList.drop i).drop pos)).1 = k
        · have hC2 := Lib.hid (hC.out.next hpl (by unfold isCls; simpa using hk))
          have hkb : (cls (dec ((s.data.toList.drop i).drop pos)).1 != k) = false := by simpa using hk
          clear hk
          generalize hn : dec ((s.data.toList.drop i).drop pos) = d at *
          have HN := Lib.hid hn
          clear hn
          go_wp2_with (first | (go_at_call 43; refine (refNext_any _ _ _ hs).mono ?_; rw [hnx.out]; rintro e w' ⟨rfl, rfl⟩) | (go_at_call 44; refine (refClass_any _ _).mono ?_; rintro e w' ⟨rfl, rfl⟩))
          go_round
          case rel => exact ⟨pos + d.2, by go_num, by omega, hC2⟩
          case measure => simp [intOf]; omega
        · have hkb : (cls (dec ((s.data.toList.drop i).drop pos)).1 != k) = true := by simpa using hk
          have hE := hC.out.stop (by unfold isCls; simpa using hk)
          rw [HR.out] at hE
          subst hE
          clear hk
          generalize hn : dec ((s.data.toList.drop i).drop R) = d at *
          have HN := Lib.hid hn
          clear hn
          go_wp2_with (first | (go_at_call 43; refine (refNext_any _ _ _ hs).mono ?_; rw [hnx.out]; rintro e w' ⟨rfl, rfl⟩) | (go_at_call 44; refine (refClass_any _ _).mono ?_; rintro e w' ⟨rfl, rfl⟩))
          go_ret
          exact ⟨by go_num, rfl⟩
      · have hpl : ¬ pos < (s.data.toList.drop i).length := by rw [List.length_drop, ← Lib.size_eq]; omega
        have hE := hC.out.end hpl
        rw [HR.out] at hE
        subst hE
        go_wp2_with fail
        go_ret
        exact ⟨by go_num, rfl⟩
  · have hF : runL s.data.toList i k = 0 := by
      unfold runL; rw [if_neg (by rw [← Lib.size_eq]; exact h)]
    rw [hF]
    clear hF
    by_cases h0 : i < 0
    · clear h
      go_enter Tryd.func35, Tryd.ntmps35
      go_wp2_with fail
      go_ret
      exact ⟨rfl, rfl⟩
    · have h1 : (s.size : Int) < i := by omega
      clear h
      go_enter Tryd.func35, Tryd.ntmps35
      go_wp2_with fail
      go_ret
      exact ⟨rfl, rfl⟩
end Go.Proofs.YtmgnpgbganjgfaaDoor
