/- DERIVED. The walk of the document's Scan of numbers, where no base is told. -/
import Derived.Test.YtikkdkacflkifaaDoorRefNumA
set_option linter.unusedSimpArgs false
set_option linter.unusedVariables false
namespace Go.Proofs.YtikkdkacflkifaaDoor
open Go.RowKit

theorem expX_at (S : List UInt8) (E : Nat) : expX (S.drop E) = if S[E]? = some 101 ∨ S[E]? = some 69 then (fun n => if digN 10 (S.drop (E + n)) = 0 then 0 else n + digN 10 (S.drop (E + n))) (if S[E + 1]? = some 43 ∨ S[E + 1]? = some 45 then 2 else 1) else 0 := by
  unfold expX
  simp only [List.getElem?_drop, List.drop_drop, Nat.add_zero]
theorem some_at {s : ByteArray} {i : Nat} (h : i < s.size) {c : UInt8} : (s.data.toList[i]? = some c) = (s[i] = c) := by rw [at_list s i h]; simp
theorem lt_of_some {s : ByteArray} {i : Nat} {c : UInt8} (h : s.data.toList[i]? = some c) : i < s.size := by have := (List.getElem?_eq_some_iff.1 h).1; rw [← Lib.size_eq] at this; exact this
set_option maxRecDepth 20000 in
set_option maxHeartbeats 4000000 in
theorem refScan_dec (s : ByteArray) (i : Nat) (w : World) (hs : s.size ≤ 1152921504606846976) (hi : i < s.size) (hp : prefX (s.data.toList.drop i) = (10, 0)) (hh : HeadX s i) (hd : digN 10 (s.data.toList.drop i) ≠ 0) :
    Calls Tryd.prog 69 #[.string s, .int .i64 i] w fun e w' => e = .returned (pairV (scanI s.data.toList i)) ∧ w = w' := by
  have hil : i < s.data.toList.length := by rw [← Lib.size_eq]; exact hi
  rw [scanI_dec s.data.toList i hil hp hd]
  have hdl := digN_le 10 (s.data.toList.drop i)
  rw [List.length_drop, ← Lib.size_eq] at hdl
  have D0 := fun w => refDigits_any s i 10 w hs (by omega)
  obtain ⟨E, hE⟩ : ∃ E, i + digN 10 (s.data.toList.drop i) = E := ⟨_, rfl⟩
  rw [hE] at D0 ⊢
  have hEi : i < E := by omega
  have hEs : E ≤ s.size := by omega
  have D0 := Lib.hid D0
  have D8 := Lib.hid fun w (h : i + 2 ≤ s.size) => digitsI s (i + 2) (i + 2) 8 w hs (by omega) h
  have D16 := Lib.hid fun w (h : i + 2 ≤ s.size) => digitsI s (i + 2) (i + 2) 16 w hs (by omega) h
  have D1 := Lib.hid fun w (h : E + 1 ≤ s.size) => digitsI s (E + 1) (E + 1) 10 w hs (by omega) h
  obtain ⟨⟨k1, E1⟩, hP⟩ : ∃ P, pointX s.data.toList E = P := ⟨_, rfl⟩
  rw [hP]
  simp only
  have hE1 : E1 ≤ s.size := by
    unfold pointX at hP
    have := digN_le 10 (s.data.toList.drop (E + 1))
    rw [List.length_drop, ← Lib.size_eq] at this
    split at hP
    · next h => have := lt_of_some h.1; injection hP with h1 h2; omega
    · injection hP with h1 h2; omega
  have HP := Lib.hid hP
  obtain ⟨R, hR⟩ : ∃ R, postX s.data.toList k1 E1 = R := ⟨_, rfl⟩
  rw [hR]
  have HR := Lib.hid hR
  have HH := Lib.hid hh
  obtain ⟨c35, h35⟩ : ∃ c, (decide (s.data.toList[i]? = some 48) && decide (i + 1 < s.size)) = c := ⟨_, rfl⟩
  have H35 := Lib.hid h35
  obtain ⟨c98, h98⟩ : ∃ c, (decide (s.data.toList[E]? = some 46) && decide (0 < digN 10 (s.data.toList.drop (E + 1)))) = c := ⟨_, rfl⟩
  have H98 := Lib.hid h98
  have t0 : decide ((i : Int) < 0) = false := by simp
  have t1 : decide (s.size ≤ i) = false := by simp; omega
  have t2 : ((E : Int) == i) = false := by simp; omega
  clear hp hh hd hE hP hR h35 h98 hdl hil
  go_enter Tryd.func69, Tryd.ntmps69
  go_upto_region 3 with (go_at_call 86; refine (D0.out _).mono ?_; rintro e w' ⟨rfl, rfl⟩)
  go_cut [35] (fun c wx => c = .bool c35 ∧ wx = w)
  case first =>
    have h := H35.out
    simp only [some_at hi] at h
    obtain ⟨y48, n48⟩ := byteK s[i] 48 48 rfl (by decide)
    by_cases a : s[i] = 48
    · obtain ⟨a1, a2⟩ := y48 a
      by_cases b : i + 1 < s.size
      · have b1 : decide ((i : Int) + 1 < s.size) = true := by simp; omega
        rw [decide_eq_true a, decide_eq_true b] at h
        subst h
        clear a y48 n48
        go_wp2_with fail
        go_meet
        exact ⟨rfl, rfl⟩
      · have b1 : decide ((i : Int) + 1 < s.size) = false := by simp; omega
        rw [decide_eq_false b, Bool.and_false] at h
        subst h
        clear a y48 n48
        go_wp2_with fail
        go_meet
        exact ⟨rfl, rfl⟩
    · obtain ⟨a1, a2⟩ := n48 a
      rw [decide_eq_false a, Bool.false_and] at h
      subst h
      clear a y48 n48
      go_wp2_with fail
      go_meet
      exact ⟨rfl, rfl⟩
  case rest =>
    obtain ⟨rfl, rfl⟩ := hcut
    go_upto_if 35 with fail
    go_cut [] (fun wx => wx = wc)
    case first =>
      have h := H35.out
      cases c35 with
      | false =>
        clear h
        go_wp2_with fail
        go_meet
        rfl
      | true =>
        simp only [Bool.and_eq_true, decide_eq_true_eq] at h
        obtain ⟨ha, hb⟩ := h
        have hx := HH.out
        unfold HeadX at hx
        have hx := (hx.resolve_left (fun h => h ha)).resolve_left (fun h => h hb)
        simp only [some_at hb, ne_eq] at hx
        obtain ⟨y1, n1⟩ := byteK s[i + 1] 111 111 rfl (by decide)
        obtain ⟨y2, n2⟩ := byteK s[i + 1] 79 79 rfl (by decide)
        obtain ⟨y3, n3⟩ := byteK s[i + 1] 120 120 rfl (by decide)
        obtain ⟨y4, n4⟩ := byteK s[i + 1] 88 88 rfl (by decide)
        have j0 : (i : Int) + 1 < s.size := by omega
        have j1 : (0 : Int) ≤ (i : Int) + 1 := by omega
        have j2 : ((i : Int) + 1).toNat = i + 1 := by omega
        rcases hx with ⟨h1, h2, h3, h4⟩ | ⟨hc, h0⟩ | ⟨hc, h0⟩
        · obtain ⟨a1, a2⟩ := n1 h1
          obtain ⟨a3, a4⟩ := n2 h2
          obtain ⟨a5, a6⟩ := n3 h3
          obtain ⟨a7, a8⟩ := n4 h4
          clear n1 n2 n3 n4 y1 y2 y3 y4 h1 h2 h3 h4 ha
          go_wp2_with fail
          go_meet
          rfl
        · have hq : (((s[i + 1].toNat : Int) == 111) = true) ∨ (((s[i + 1].toNat : Int) == 111) = false ∧ ((s[i + 1].toNat : Int) == 79) = true) := by
            by_cases h : s[i + 1] = 111
            · exact .inl (y1 h).1
            · exact .inr ⟨(n1 h).1, (y2 (hc.resolve_left h)).1⟩
          have hn : s[i + 1] ≠ 120 ∧ s[i + 1] ≠ 88 := by
            refine ⟨fun h => ?_, fun h => ?_⟩ <;> rcases hc with hc | hc <;> rw [h] at hc <;> revert hc <;> decide
          obtain ⟨a5, a6⟩ := n3 hn.1
          obtain ⟨a7, a8⟩ := n4 hn.2
          have D8 := fun w => D8.out w (by omega)
          rw [h0] at D8
          have D8 := Lib.hid D8
          clear n1 n2 n3 n4 y1 y2 y3 y4 hc h0 hn ha
          rcases hq with q1 | ⟨q1, q2⟩
          all_goals
            go_wp2_with (go_at_call 86; refine (D8.out _).mono ?_; rintro e w' ⟨rfl, rfl⟩)
            go_meet
            rfl
        · have hq : (((s[i + 1].toNat : Int) == 120) = true) ∨ (((s[i + 1].toNat : Int) == 120) = false ∧ ((s[i + 1].toNat : Int) == 88) = true) := by
            by_cases h : s[i + 1] = 120
            · exact .inl (y3 h).1
            · exact .inr ⟨(n3 h).1, (y4 (hc.resolve_left h)).1⟩
          have hn : s[i + 1] ≠ 111 ∧ s[i + 1] ≠ 79 := by
            refine ⟨fun h => ?_, fun h => ?_⟩ <;> rcases hc with hc | hc <;> rw [h] at hc <;> revert hc <;> decide
          obtain ⟨a5, a6⟩ := n1 hn.1
          obtain ⟨a7, a8⟩ := n2 hn.2
          have D16 := fun w => D16.out w (by omega)
          rw [h0] at D16
          have D16 := Lib.hid D16
          clear n1 n2 n3 n4 y1 y2 y3 y4 hc h0 hn ha
          rcases hq with q1 | ⟨q1, q2⟩
          all_goals
            go_wp2_with (go_at_call 86; refine (D16.out _).mono ?_; rintro e w' ⟨rfl, rfl⟩)
            go_meet
            rfl
    case rest =>
      subst hcut
      go_upto_region 13 with (go_at_call 86; refine (D0.out _).mono ?_; rintro e w' ⟨rfl, rfl⟩)
      go_cut [98] (fun c wx => c = .bool c98 ∧ wx = wc)
      case first =>
        have h := H98.out
        by_cases b : E < s.size
        · have b1 : decide (E < s.size) = true := by simp; omega
          simp only [some_at b] at h
          obtain ⟨y46, n46⟩ := byteK s[E] 46 46 rfl (by decide)
          by_cases a : s[E] = 46
          · obtain ⟨a1, a2⟩ := y46 a
            rw [decide_eq_true a, Bool.true_and] at h
            have D1 := fun w => D1.out w (by omega)
            generalize digN 10 (s.data.toList.drop (E + 1)) = f at h D1
            have D1 := Lib.hid D1
            have b2 : decide ((E : Int) + 1 < E + 1 + f) = c98 := by rw [← h, decide_eq_decide]; omega
            have HB2 := Lib.hid b2
            clear a y46 n46 h b2
            cases c98 with
            | true =>
              have b3 := HB2.out
              go_wp2_with (go_at_call 86; refine (D1.out _).mono ?_; rintro e w' ⟨rfl, rfl⟩)
              go_meet
              exact ⟨by first | rfl | (rw [b3]), rfl⟩
            | false =>
              have b3 := HB2.out
              go_wp2_with (go_at_call 86; refine (D1.out _).mono ?_; rintro e w' ⟨rfl, rfl⟩)
              go_meet
              exact ⟨by first | rfl | (rw [b3]), rfl⟩
          · obtain ⟨a1, a2⟩ := n46 a
            rw [decide_eq_false a, Bool.false_and] at h
            subst h
            clear a y46 n46
            go_wp2_with fail
            go_meet
            exact ⟨rfl, rfl⟩
        · have b1 : decide (E < s.size) = false := by simp; omega
          rw [at_none s E b] at h
          simp only [reduceCtorEq, decide_false, Bool.false_and] at h
          subst h
          go_wp2_with fail
          go_meet
          exact ⟨rfl, rfl⟩
      case rest =>
        obtain ⟨rfl, rfl⟩ := hcut
        go_upto_if 98 with fail
        go_cut [7, 8] (fun k e wx => k = .int .i64 k1 ∧ e = .int .i64 E1 ∧ wx = wc)
        case first =>
          have h := H98.out
          have hP := HP.out
          unfold pointX at hP
          cases c98 with
          | false =>
            simp only [Bool.and_eq_false_iff, decide_eq_false_iff_not] at h
            rw [if_neg (fun h9 => h.elim (fun h1 => h1 h9.1) (fun h1 => h1 h9.2))] at hP
            injection hP with h1 h2
            subst h1 h2
            clear h
            go_wp2_with fail
            go_meet
            exact ⟨rfl, rfl, rfl⟩
          | true =>
            simp only [Bool.and_eq_true, decide_eq_true_eq] at h
            rw [if_pos h] at hP
            have hlt := lt_of_some h.1
            have D1 := fun w => D1.out w (by omega)
            generalize digN 10 (s.data.toList.drop (E + 1)) = f at hP D1
            injection hP with h1 h2
            have H1 := Lib.hid h1
            have H2 := Lib.hid h2
            have D1 := Lib.hid D1
            clear h h1 h2 hlt
            go_wp2_with (go_at_call 86; refine (D1.out _).mono ?_; rintro e w' ⟨rfl, rfl⟩)
            go_meet
            exact ⟨by rw [← H1.out], by rw [← H2.out]; go_num, rfl⟩
        case rest =>
          obtain ⟨rfl, rfl, rfl⟩ := hcut
          have hR := HR.out
          unfold postX at hR
          rw [expX_at] at hR
          have DJ1 := Lib.hid fun w (h : E1 + 1 ≤ s.size) => digitsI s (E1 + 1) (E1 + 1) 10 w hs (by omega) h
          have DJ2 := Lib.hid fun w (h : E1 + 2 ≤ s.size) => digitsI s (E1 + 1 + 1) (E1 + 2) 10 w hs (by omega) h
          by_cases b : E1 < s.size
          · have b1 : decide (E1 < s.size) = true := by simp; omega
            rw [at_list s E1 b] at hR
            simp only [Option.some.injEq] at hR
            obtain ⟨y1, n1⟩ := byteK s[E1] 101 101 rfl (by decide)
            obtain ⟨y2, n2⟩ := byteK s[E1] 69 69 rfl (by decide)
            by_cases he : s[E1] = 101 ∨ s[E1] = 69
            · have hq : ((s[E1].toNat : Int) == 101) = true ∨ (((s[E1].toNat : Int) == 101) = false ∧ ((s[E1].toNat : Int) == 69) = true) := by
                by_cases h : s[E1] = 101
                · exact .inl (y1 h).1
                · exact .inr ⟨(n1 h).1, (y2 (he.resolve_left h)).1⟩
              simp only [if_pos he] at hR
              clear y1 n1 y2 n2 he
              by_cases b2 : E1 + 1 < s.size
              · have b3 : decide ((E1 : Int) + 1 < s.size) = true := by simp; omega
                have b4 : (E1 : Int) + 1 < s.size := by omega
                have b5 : (0 : Int) ≤ (E1 : Int) + 1 := by omega
                have b6 : ((E1 : Int) + 1).toNat = E1 + 1 := by omega
                rw [at_list s (E1 + 1) b2] at hR
                simp only [Option.some.injEq] at hR
                obtain ⟨y1, n1⟩ := byteK s[E1 + 1] 43 43 rfl (by decide)
                obtain ⟨y2, n2⟩ := byteK s[E1 + 1] 45 45 rfl (by decide)
                by_cases hg : s[E1 + 1] = 43 ∨ s[E1 + 1] = 45
                · have hp : ((s[E1 + 1].toNat : Int) == 43) = true ∨ (((s[E1 + 1].toNat : Int) == 43) = false ∧ ((s[E1 + 1].toNat : Int) == 45) = true) := by
                    by_cases h : s[E1 + 1] = 43
                    · exact .inl (y1 h).1
                    · exact .inr ⟨(n1 h).1, (y2 (hg.resolve_left h)).1⟩
                  simp only [if_pos hg] at hR
                  clear y1 n1 y2 n2 hg
                  rcases hp with p1 | ⟨p1, p2⟩
                  all_goals
                    have D := fun w => DJ2.out w (by omega)
                    generalize digN 10 (s.data.toList.drop (E1 + 2)) = f at hR D
                    have D := Lib.hid D
                    by_cases hf : f = 0
                    · have HR2 := Lib.hid (show R = (k1, E1) from by rw [← hR, if_pos hf, if_neg (by omega)])
                      have b9 : decide ((E1 : Int) + 1 + 1 < E1 + 1 + 1 + f) = false := by simp; omega
                      clear hR hf
                      rcases hq with q1 | ⟨q1, q2⟩
                      all_goals
                        go_wp2_with (go_at_call 86; refine (D.out _).mono ?_; rintro e w' ⟨rfl, rfl⟩)
                        go_ret2
                        exact ⟨by rw [HR2.out]; rfl, rfl⟩
                    · have HR2 := Lib.hid (show R = (12, E1 + (2 + f)) from by rw [← hR, if_neg hf, if_pos (by omega)])
                      have b9 : decide ((E1 : Int) + 1 + 1 < E1 + 1 + 1 + f) = true := by simp; omega
                      clear hR hf
                      rcases hq with q1 | ⟨q1, q2⟩
                      all_goals
                        go_wp2_with (go_at_call 86; refine (D.out _).mono ?_; rintro e w' ⟨rfl, rfl⟩)
                        go_ret2
                        exact ⟨by rw [HR2.out]; unfold pairV; go_num, rfl⟩
                · obtain ⟨p1, p3⟩ := n1 (fun h => hg (.inl h))
                  obtain ⟨p2, p4⟩ := n2 (fun h => hg (.inr h))
                  simp only [if_neg hg] at hR
                  clear y1 n1 y2 n2 hg
                  have D := fun w => DJ1.out w (by omega)
                  generalize digN 10 (s.data.toList.drop (E1 + 1)) = f at hR D
                  have D := Lib.hid D
                  by_cases hf : f = 0
                  · have HR2 := Lib.hid (show R = (k1, E1) from by rw [← hR, if_pos hf, if_neg (by omega)])
                    have b9 : decide ((E1 : Int) + 1 < E1 + 1 + f) = false := by simp; omega
                    clear hR hf
                    rcases hq with q1 | ⟨q1, q2⟩
                    all_goals
                      go_wp2_with (go_at_call 86; refine (D.out _).mono ?_; rintro e w' ⟨rfl, rfl⟩)
                      go_ret2
                      exact ⟨by rw [HR2.out]; rfl, rfl⟩
                  · have HR2 := Lib.hid (show R = (12, E1 + (1 + f)) from by rw [← hR, if_neg hf, if_pos (by omega)])
                    have b9 : decide ((E1 : Int) + 1 < E1 + 1 + f) = true := by simp; omega
                    clear hR hf
                    rcases hq with q1 | ⟨q1, q2⟩
                    all_goals
                      go_wp2_with (go_at_call 86; refine (D.out _).mono ?_; rintro e w' ⟨rfl, rfl⟩)
                      go_ret2
                      exact ⟨by rw [HR2.out]; unfold pairV; go_num, rfl⟩
              · have b3 : decide ((E1 : Int) + 1 < s.size) = false := by simp; omega
                rw [at_none s (E1 + 1) b2] at hR
                simp only [reduceCtorEq, or_self, if_false] at hR
                have D := fun w => DJ1.out w (by omega)
                generalize digN 10 (s.data.toList.drop (E1 + 1)) = f at hR D
                have D := Lib.hid D
                by_cases hf : f = 0
                · have HR2 := Lib.hid (show R = (k1, E1) from by rw [← hR, if_pos hf, if_neg (by omega)])
                  have b9 : decide ((E1 : Int) + 1 < E1 + 1 + f) = false := by simp; omega
                  clear hR hf
                  rcases hq with q1 | ⟨q1, q2⟩
                  all_goals
                    go_wp2_with (go_at_call 86; refine (D.out _).mono ?_; rintro e w' ⟨rfl, rfl⟩)
                    go_ret2
                    exact ⟨by rw [HR2.out]; rfl, rfl⟩
                · have HR2 := Lib.hid (show R = (12, E1 + (1 + f)) from by rw [← hR, if_neg hf, if_pos (by omega)])
                  have b9 : decide ((E1 : Int) + 1 < E1 + 1 + f) = true := by simp; omega
                  clear hR hf
                  rcases hq with q1 | ⟨q1, q2⟩
                  all_goals
                    go_wp2_with (go_at_call 86; refine (D.out _).mono ?_; rintro e w' ⟨rfl, rfl⟩)
                    go_ret2
                    exact ⟨by rw [HR2.out]; unfold pairV; go_num, rfl⟩
            · obtain ⟨a1, a2⟩ := n1 (fun h => he (.inl h))
              obtain ⟨a3, a4⟩ := n2 (fun h => he (.inr h))
              have HR2 := Lib.hid (show R = (k1, E1) from by rw [← hR, if_neg he, if_neg (by omega)])
              clear hR y1 n1 y2 n2 he
              go_wp2_with fail
              go_ret2
              exact ⟨by rw [HR2.out]; rfl, rfl⟩
          · have b1 : decide (E1 < s.size) = false := by simp; omega
            have HR2 := Lib.hid (show R = (k1, E1) from by rw [← hR, at_none s E1 b]; simp)
            clear hR
            go_wp2_with fail
            go_ret2
            exact ⟨by rw [HR2.out]; rfl, rfl⟩
end Go.Proofs.YtikkdkacflkifaaDoor
