/- DERIVED. The walk of the document's Find. -/
import Derived.Test.YtikkdkacflkifaaDoorRefFixA
import Derived.Test.YtikkdkacflkifaaDoorFixB
set_option linter.unusedSimpArgs false
set_option linter.unusedVariables false
namespace Go.Proofs.YtikkdkacflkifaaDoor
open Go.RowKit

theorem ok_cases (x : Fx) : (x.ok = true ∧ decide (0 ≤ x.prec) = true ∧ decide (x.prec ≤ 9) = true ∧ decide (1 ≤ x.side) = true ∧ decide (x.side ≤ 3) = true) ∨
    (x.ok = false ∧ (decide (0 ≤ x.prec) = false ∨ (decide (0 ≤ x.prec) = true ∧ decide (x.prec ≤ 9) = false) ∨ (decide (0 ≤ x.prec) = true ∧ decide (x.prec ≤ 9) = true ∧ decide (1 ≤ x.side) = false) ∨ (decide (0 ≤ x.prec) = true ∧ decide (x.prec ≤ 9) = true ∧ decide (1 ≤ x.side) = true ∧ decide (x.side ≤ 3) = false))) := by
  unfold Fx.ok
  cases h1 : decide (0 ≤ x.prec) <;> cases h2 : decide (x.prec ≤ 9) <;> cases h3 : decide (1 ≤ x.side) <;> cases h4 : decide (x.side ≤ 3) <;> simp

set_option maxRecDepth 20000 in
set_option maxHeartbeats 4000000 in
theorem refFind_any (env : List Fx) (xa : Option Addr) (cap b o : Nat) (op : ByteArray) (w : World) (hxa : 0 < env.length → xa = some ⟨b, o, none⟩) (hE : Fixes w b o env) :
    Calls Tryd.prog 12 #[.slice xa env.length cap, .string op] w fun e w' => e = .returned (fxV (findX env op)) ∧ Below w.heap.size w w' := by
  obtain ⟨R, hR⟩ : ∃ R, findX env op = R := ⟨_, rfl⟩
  rw [hR]
  unfold findX at hR
  have hlen := hE.len
  have hrl : env.reverse.length = env.length := List.length_reverse
  have HE := Lib.hid hE
  have HX := Lib.hid hxa
  have HR := Lib.hid hR
  obtain ⟨KL, hKL, hK31, hKN⟩ : ∃ KL, knownL = KL ∧ KL.length = 31 ∧ findR op [] = findK op KL := ⟨_, rfl, known_len, rfl⟩
  have K1 := fun w => refKnown_any w
  rw [hKL] at K1
  have K1 := Lib.hid K1
  have HK31 := Lib.hid hK31
  have HKN := Lib.hid hKN
  clear hE hxa hR hKL hK31 hKN
  go_enter Tryd.func12, Tryd.ntmps12
  go_wp2_with fail
  go_loopw [5] (fun a wr => ∃ i : Nat, a = .int .i64 ((env.length : Int) - 1 - i) ∧ i ≤ env.length ∧ Below w.heap.size w wr ∧ RowX wr w.heap.size zeroX ∧ findR op (env.reverse.drop i) = R) (fun a _ => (intOf a + 1).toNat)
  case atStart => exact ⟨0, by simp, by omega, (Below.refl _ _).alloc (Nat.le_refl _) _, rowX_new _ zeroX, by simpa using HR.out⟩
  case round =>
    obtain ⟨i, rfl, hi, hb, hX, hF⟩ := hrel
    have HB := Lib.hid hb
    have HN := Lib.hid hX
    have hst := hb.size
    have hnl := hX.lt
    by_cases hin : i < env.length
    · have hx := HX.out (by omega)
      subst hx
      obtain ⟨m, hm, hml⟩ : ∃ m : Nat, (env.length : Int) - 1 - i = m ∧ m < env.length := ⟨env.length - 1 - i, by omega, by omega⟩
      have hEk := (HE.out.at_ m hml).below hb
      have c0 := hEk.c0; have c1 := hEk.c1; have c2 := hEk.c2
      have hget : env.reverse[i]'(by rw [hrl]; exact hin) = env[m] := by
        rw [List.getElem_reverse]; congr 1; omega
      rw [findR_drop op env.reverse i (by rw [hrl]; exact hin), hget] at hF
      have HF := Lib.hid hF
      have HMM := Lib.hid hm
      rw [hm]
      clear hb hX hF hget hEk hm
      obtain ⟨x, hx⟩ : ∃ x, env[m] = x := ⟨_, rfl⟩
      rw [hx] at c0 c1 c2 HF
      clear hx
      have m0 : decide ((0 : Int) ≤ m) = true := by simp
      obtain ⟨e0, e1', e2⟩ := HN.out.cells
      have z := HN.out.frozen
      by_cases hop : x.op = op
      · have e1 := op_eq hop
        have HOP := Lib.hid hop
        clear hop
        rcases ok_cases x with ⟨hok, q1, q2, q3, q4⟩ | ⟨hok, hq⟩
        · have HRX := Lib.hid (show R = x by rw [← HF.out, if_pos ⟨HOP.out, hok⟩])
          clear hok
          go_wp2_with fail
          refine bodyPost_ret (results_cell_row rfl _ _ w.heap.size 25 _ (0, 0) _ rfl (HN.out.set x) Tryd.underlying25 rfl (by kernel_rfl)) rfl ?_
          exact ⟨by rw [HRX.out]; rfl, set3_below HB.out _ (Nat.le_refl _) _⟩
        · have HRX := Lib.hid (show findR op (env.reverse.drop (i + 1)) = R by rw [← HF.out, if_neg (by rw [hok]; simp)])
          clear hok
          rcases hq with q1 | ⟨q1, q2⟩ | ⟨q1, q2, q3⟩ | ⟨q1, q2, q3, q4⟩
          all_goals
            go_wp2_with fail
            go_roundw
            case rel => exact ⟨i + 1, by have := HMM.out; congr 1; omega, by omega, HB.out, HN.out, HRX.out⟩
            case measure => first | (simp [intOf]; done) | (simp [intOf]; omega)
      · have e1 := op_ne hop
        have HRX := Lib.hid (show findR op (env.reverse.drop (i + 1)) = R by rw [← HF.out, if_neg (fun h => hop h.1)])
        clear hop
        go_wp2_with fail
        go_roundw
        case rel => exact ⟨i + 1, by have := HMM.out; congr 1; omega, by omega, HB.out, HN.out, HRX.out⟩
        case measure => first | (simp [intOf]; done) | (simp [intOf]; omega)
    · have hi' : i = env.length := by omega
      subst hi'
      rw [List.drop_eq_nil_of_le (by rw [hrl]; exact Nat.le_refl _)] at hF
      have HF := Lib.hid hF
      have hm1 : (env.length : Int) - 1 - env.length = -1 := by omega
      rw [hm1]
      clear hb hX hF hm1
      go_wp2_with fail
      refine (K1.out _).mono ?_
      rintro e w1 ⟨v, rfl, hO1, hb1, -⟩
      obtain ⟨ya, yc, b2, o2, rfl, hya, hF2⟩ := hO1.fixes
      have HB1 := Lib.hid (Below.then HB.out hb1)
      have HN1 := Lib.hid (HN.out.below hb1)
      have HF2 := Lib.hid hF2
      have hya := hya (by rw [HK31.out]; omega)
      subst hya
      clear hb1 hO1 hF2
      rw [HK31.out]
      go_wp2_with fail
      generalize wr = W1 at *
      go_loopw [7] (fun a wr => ∃ j : Nat, a = .int .i64 j ∧ j ≤ 31 ∧ Below w.heap.size w wr ∧ Below w1.heap.size w1 wr ∧ RowX wr w.heap.size zeroX ∧ findK op (KL.drop j) = R) (fun a _ => 31 - (intOf a).toNat)
      case atStart => exact ⟨0, rfl, by omega, HB1.out, Below.refl _ _, HN1.out, by rw [List.drop_zero, ← HKN.out]; exact HF.out⟩
      case round =>
        obtain ⟨j, rfl, hj, hb, hb1, hX, hK⟩ := hrel
        have HBq := Lib.hid hb
        have HB1q := Lib.hid hb1
        have HNq := Lib.hid hX
        have hstq := hb.size
        have hst1 := hb1.size
        obtain ⟨e0, e1', e2⟩ := HNq.out.cells
        have z := HNq.out.frozen
        by_cases hjn : j < 31
        · have hjl : j < KL.length := by rw [HK31.out]; exact hjn
          have hEk := (HF2.out.at_ j hjl).below hb1
          have c0 := hEk.c0; have c1 := hEk.c1; have c2 := hEk.c2
          rw [findK_drop op KL j hjl] at hK
          have HK := Lib.hid hK
          clear hb hb1 hX hK hEk
          obtain ⟨x, hx⟩ : ∃ x, KL[j] = x := ⟨_, rfl⟩
          rw [hx] at c0 c1 c2 HK
          clear hx hjl
          by_cases hop : x.op = op
          · have e1 := op_eq hop
            have HRX := Lib.hid (show R = x by rw [← HK.out, if_pos hop])
            clear hop
            go_wp2_with fail
            refine bodyPost_ret (results_cell_row rfl _ _ w.heap.size 25 _ (0, 0) _ rfl (HNq.out.set x) Tryd.underlying25 rfl (by kernel_rfl)) rfl ?_
            exact ⟨by rw [HRX.out]; rfl, set3_below HBq.out _ (Nat.le_refl _) _⟩
          · have e1 := op_ne hop
            have HRX := Lib.hid (show findK op (KL.drop (j + 1)) = R by rw [← HK.out, if_neg hop])
            clear hop
            go_wp2_with fail
            go_roundw
            case rel => exact ⟨j + 1, by go_num, by omega, HBq.out, HB1q.out, HNq.out, HRX.out⟩
            case measure => first | (simp [intOf]; done) | (simp [intOf]; omega)
        · have hj' : j = 31 := by omega
          subst hj'
          have hK2 : R = ⟨op, 1, 9⟩ := by rw [← hK, List.drop_eq_nil_of_le (by rw [HK31.out]; exact Nat.le_refl _)]; rfl
          have HK2 := Lib.hid hK2
          clear hb hb1 hX hK hK2
          go_wp2_with fail
          refine bodyPost_ret (results_cell_row rfl _ _ w.heap.size 25 _ (0, 0) _ rfl (rowX_set3 HNq.out op 1 9) Tryd.underlying25 rfl (by kernel_rfl)) rfl ?_
          exact ⟨by rw [HK2.out, fxV_mk], below_set3 HBq.out _ (Nat.le_refl _) _ _ _⟩
end Go.Proofs.YtikkdkacflkifaaDoor
