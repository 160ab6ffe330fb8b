/- DERIVED. The walk of the reference's text. -/
import Derived.Test.YtjdpbfjfcbjlfaaDoorRefReadA
set_option linter.unusedSimpArgs false
set_option linter.unusedVariables false
namespace Go.Proofs.YtjdpbfjfcbjlfaaDoor
open Go.RowKit

def textV (i : Nat) (R : Option (List UInt8 × Nat)) : Value :=
  match R with
  | some (t, n) => .tuple #[.string ⟨t.toArray⟩, .int .i64 ((i + n : Nat) : Int)]
  | none => .tuple #[.string ⟨#[]⟩, .int .i64 (-1)]
theorem byte_ne {c : UInt8} {n : Nat} (h : c.toNat ≠ n) : ((c.toNat : Int) != n) = true := by rw [bne, byte_no h]; rfl

set_option maxRecDepth 20000 in
set_option maxHeartbeats 4000000 in
theorem refText_any (s : ByteArray) (i : Nat) (x : Int) (hx : x = i) (w : World) (hs : s.size ≤ 1099511627776) (hi : i ≤ s.size) :
    Calls Tryd.prog 44 #[.string s, .int .i64 x] w fun e w' => e = .returned (textV i (textL (s.data.toList.drop i))) ∧ Below w.heap.size w w' := by
  subst hx
  obtain ⟨R, hRR⟩ : ∃ R, textL (s.data.toList.drop i) = R := ⟨_, rfl⟩
  rw [hRR]
  have HRR := Lib.hid hRR
  clear hRR
  by_cases hq : ∃ h : i < s.size, s[i].toNat = 34
  · obtain ⟨hii, hq⟩ := hq
    have q1 : decide ((s.size : Int) ≤ i) = false := by simp; omega
    have q1n : decide (s.size ≤ i) = false := by simp; omega
    have q2 : ((s[i].toNat : Int) != 34) = false := by rw [hq]; rfl
    have HQ := Lib.hid hq
    clear hq
    go_enter Tryd.func44, Tryd.ntmps44
    go_wp2_with fail
    go_loopw [1, 6] (fun a bv wr => ∃ (j : Nat) (acc : List UInt8), a = .int .i64 j ∧ i + 1 ≤ j ∧ j ≤ s.size ∧ acc.length ≤ j ∧ Buf w.heap.size bv acc w wr ∧ TextInv s i j acc R) (fun a _ _ => s.size - (intOf a).toNat)
    case atStart =>
      refine ⟨i + 1, [], by go_num, Nat.le_refl _, by omega, by simp, Buf.nil _ _ _ (Below.refl _ _) (Nat.le_refl _), ?_⟩
      unfold TextInv
      rw [← HRR.out]
      unfold textL
      rw [if_pos (by rw [drop_get s i hii]; congr 1; exact UInt8.toNat_inj.1 HQ.out), List.drop_drop, show i + 1 - i = 1 from by omega]
      simp only [List.nil_append]
      congr 1
      funext x
      rw [show 1 + x.2 + 1 = x.2 + 2 from by omega]
    case round =>
      obtain ⟨j, acc, rfl, hij, hjs, hal, hI, hV⟩ := hrel
      have HI := Lib.hid hI
      unfold TextInv at hV
      have HV := Lib.hid hV
      have hst := hI.below.size
      clear hI hV
      by_cases hin : j < s.size
      · have t1 : decide ((j : Int) < s.size) = true := by simp; exact hin
        have t1' : decide ((s.size : Int) ≤ j) = false := by simp; omega
        have t1n : decide (s.size ≤ j) = false := by simp; omega
        have HDR := Lib.hid (show s.data.toList.drop j = s[j] :: s.data.toList.drop (j + 1) by
          rw [List.drop_eq_getElem_cons (by rw [← Lib.size_eq]; exact hin)]; rfl)
        have hclt := s[j].toNat_lt
        by_cases h34 : s[j] = 34
        · have m34 : ((s[j].toNat : Int) != 34) = false := by rw [h34]; rfl
          have HRS := Lib.hid (show R = some (acc, j - i + 1) by rw [HV.out, HDR.out, h34, textGo_quote]; simp)
          have hcv := HI.out.text
          clear h34
          go_wp2_with fail
          go_ret2
          refine ⟨?_, HI.out.below⟩
          rw [HRS.out]
          unfold textV
          have e : (j : Int) + 1 = ((i + (j - i + 1) : Nat) : Int) := by omega
          simp only
          rw [← e]
          rfl
        · have m34 : ((s[j].toNat : Int) != 34) = true := byte_ne (n := 34) (fun e => h34 (UInt8.toNat_inj.1 e))
          by_cases h92 : s[j] = 92
          · have n92 : ((s[j].toNat : Int) == 92) = true := by rw [h92]; rfl
            have z1 : decide ((s[j].toNat : Int) < 32) = false := by rw [h92]; rfl
            have z2 : decide ((126 : Int) < s[j].toNat) = false := by rw [h92]; rfl
            have H92 := Lib.hid h92
            clear h34 h92
            by_cases h3 : j + 3 ≤ s.size
            · obtain ⟨h, hh⟩ : ∃ h, s[j + 1] = h := ⟨_, rfl⟩
              obtain ⟨l, hl⟩ : ∃ l, s[j + 2] = l := ⟨_, rfl⟩
              have hlt := h.toNat_lt
              have llt := l.toNat_lt
              have t2 : decide ((s.size : Int) ≤ (j : Int) + 2) = false := by simp; omega
              have hto1 : ((j : Int) + 1).toNat = j + 1 := by omega
              have hto2 : ((j : Int) + 2).toNat = j + 2 := by omega
              have I1 := Lib.hid fun w => half_any h w
              have I2 := Lib.hid fun w => half_any l w
              have hhb := hexI_bd h
              have llb := hexI_bd l
              have hgo := textGo_esc h l (s.data.toList.drop (j + 3))
              obtain ⟨hi4, hhi⟩ : ∃ x, hexI h = x := ⟨_, rfl⟩
              obtain ⟨lo4, hlo⟩ : ∃ x, hexI l = x := ⟨_, rfl⟩
              rw [hhi] at I1 hhb hgo
              rw [hlo] at I2 llb hgo
              have HHI := Lib.hid hhi
              have HLO := Lib.hid hlo
              have hdr3 : s.data.toList.drop (j + 1) = h :: l :: s.data.toList.drop (j + 3) := by
                rw [List.drop_eq_getElem_cons (show j + 1 < s.data.toList.length by rw [← Lib.size_eq]; omega), List.drop_eq_getElem_cons (show j + 1 + 1 < s.data.toList.length by rw [← Lib.size_eq]; omega), ← hh, ← hl]; rfl
              have hV2 := HV.out
              rw [HDR.out, H92.out, hdr3] at hV2
              have HR3 := Lib.hid hgo
              have HV3 := Lib.hid hV2
              clear hdr3 hgo hV2 hhi hlo
              by_cases hneg : hi4 < 0 ∨ lo4 < 0
              · have HRN := Lib.hid (show R = none by rw [HV3.out, HR3.out, if_pos (by rcases hneg with h1 | h1 <;> simp [h1])]; rfl)
                have hcase : (decide (hi4 < 0) = true) ∨ (decide (hi4 < 0) = false ∧ decide (lo4 < 0) = true) := by simp only [decide_eq_true_eq, decide_eq_false_iff_not]; omega
                clear hneg
                rcases hcase with k1 | ⟨k1, k2⟩
                all_goals
                  go_wp2_with (first | (go_at_call_of 48 (h.toNat); refine (I1.out _).mono ?_; rintro e w2 ⟨rfl, rfl⟩) | (go_at_call_of 48 (l.toNat); refine (I2.out _).mono ?_; rintro e w2 ⟨rfl, rfl⟩))
                  go_ret2
                  exact ⟨by rw [HRN.out]; rfl, HI.out.below⟩
              · obtain ⟨hn, rfl⟩ := Int.eq_ofNat_of_zero_le (show 0 ≤ hi4 by omega)
                obtain ⟨ln, rfl⟩ := Int.eq_ofNat_of_zero_le (show 0 ≤ lo4 by omega)
                have u1 : decide ((hn : Int) < 0) = false := by simp
                have u2 : decide ((ln : Int) < 0) = false := by simp
                obtain ⟨d, hd⟩ : ∃ d, hexB h l = d := ⟨_, rfl⟩
                have hdn : d.toNat = hn * 16 + ln := by
                  rw [← hd]; unfold hexB; rw [HHI.out, HLO.out]; simp; omega
                have gw1 : IntKind.i64.wrap ((hn : Int) * 16) = (hn : Int) * 16 := IntWalk.i64_in _ (by omega)
                have gw2 : IntKind.i64.wrap ((hn : Int) * 16 + ln) = (hn : Int) * 16 + ln := IntWalk.i64_in _ (by omega)
                have gw3 : IntKind.u8.wrap ((hn : Int) * 16 + ln) = d.toNat := by rw [IntWalk.u8_in _ (by omega)]; omega
                have gw4 : IntKind.i64.wrap ((j : Int) + 1) = (j : Int) + 1 := IntWalk.i64_in _ (by omega)
                have gw5 : IntKind.i64.wrap ((j : Int) + 2) = (j : Int) + 2 := IntWalk.i64_in _ (by omega)
                have k1 : (0 : Int) ≤ (j : Int) + 1 ∧ (j : Int) + 1 < s.size := by omega
                have k2 : (0 : Int) ≤ (j : Int) + 2 ∧ (j : Int) + 2 < s.size := by omega
                have hdlt := d.toNat_lt
                rw [hd] at HR3
                clear hneg hdn hd hhb llb
                go_wp2_with (first | (go_at_call_of 48 (h.toNat); refine (I1.out _).mono ?_; rintro e w2 ⟨rfl, rfl⟩) | (go_at_call_of 48 (l.toNat); refine (I2.out _).mono ?_; rintro e w2 ⟨rfl, rfl⟩))
                go_quiet (first | (go_at_call_of 48 (h.toNat); refine (I1.out _).mono ?_; rintro e w2 ⟨rfl, rfl⟩; exact ⟨rfl, _, rfl⟩) | (go_at_call_of 48 (l.toNat); refine (I2.out _).mono ?_; rintro e w2 ⟨rfl, rfl⟩; exact ⟨rfl, _, rfl⟩))
                by_cases hp : plainB d = true
                · have HRN := Lib.hid (show R = none by rw [HV3.out, HR3.out, if_pos (.inr (.inr hp))]; rfl)
                  obtain ⟨p1, p2, p3, p4⟩ := plain_iff.1 hp
                  have q3 : ((d.toNat : Int) != 34) = true := byte_ne p3
                  have q4 : ((d.toNat : Int) != 92) = true := byte_ne p4
                  have q5 : decide ((32 : Int) ≤ d.toNat) = true := by simp; omega
                  have q6 : decide ((d.toNat : Int) ≤ 126) = true := by simp; omega
                  clear hp p3 p4
                  go_wp2_with fail
                  go_ret2
                  exact ⟨by rw [HRN.out]; rfl, below_drewN HI.out.below _⟩
                · have hRs := HV3.out
                  rw [HR3.out, if_neg (by simp [hp])] at hRs
                  have HRS := Lib.hid hRs
                  have h4 : decide ((32 : Int) ≤ d.toNat) = false ∨ (decide ((32 : Int) ≤ d.toNat) = true ∧ decide ((d.toNat : Int) ≤ 126) = false) ∨ (decide ((32 : Int) ≤ d.toNat) = true ∧ decide ((d.toNat : Int) ≤ 126) = true ∧ ((d.toNat : Int) != 34) = false) ∨ (decide ((32 : Int) ≤ d.toNat) = true ∧ decide ((d.toNat : Int) ≤ 126) = true ∧ ((d.toNat : Int) != 34) = true ∧ ((d.toNat : Int) != 92) = false) := by
                    have h5 : d.toNat < 32 ∨ 126 < d.toNat ∨ d.toNat = 34 ∨ d.toNat = 92 := by
                      false_or_by_contra
                      exact hp (plain_iff.2 (by omega))
                    simp only [decide_eq_true_eq, decide_eq_false_iff_not, bne_iff_ne, bne_eq_false_iff_eq, ne_eq]
                    omega
                  clear hp hRs
                  rcases h4 with r1 | ⟨r1, r2⟩ | ⟨r1, r2, r3⟩ | ⟨r1, r2, r3, r4⟩
                  · go_wp2_with (at_builtin; refine buf_add rfl _ _ rfl w.heap.size _ _ [d] ?hs21 w _ (HI.out.drewN _) _ ?hc21 1 rfl ?gg21 ?hh21 ?hx21 (by (try simp only [List.length_append, List.length_cons, List.length_nil]); omega) ?_; (case hs21 => rfl); (case hx21 => rfl); (case hc21 => rfl); (case hh21 => first | rfl | simp); rintro v21 w21 hI21 ho21; have HI21 := Lib.hid hI21; have HO21 := Lib.hid ho21; clear hI21 ho21)
                    go_roundw
                    case rel =>
                      refine ⟨j + 3, acc ++ [d], by go_num, by omega, by omega, by simp; omega, HI21.out, ?_⟩
                      unfold TextInv
                      rw [HRS.out]
                      cases hg : textGo (s.data.toList.drop (j + 3)) with
                      | none => simp
                      | some z => simp [show j - i + (z.2 + 3) + 1 = j + 3 - i + z.2 + 1 from by omega]
                    case measure => simp [intOf]; omega
                  · go_wp2_with (at_builtin; refine buf_add rfl _ _ rfl w.heap.size _ _ [d] ?hs22 w _ (HI.out.drewN _) _ ?hc22 1 rfl ?gg22 ?hh22 ?hx22 (by (try simp only [List.length_append, List.length_cons, List.length_nil]); omega) ?_; (case hs22 => rfl); (case hx22 => rfl); (case hc22 => rfl); (case hh22 => first | rfl | simp); rintro v22 w22 hI22 ho22; have HI22 := Lib.hid hI22; have HO22 := Lib.hid ho22; clear hI22 ho22)
                    go_roundw
                    case rel =>
                      refine ⟨j + 3, acc ++ [d], by go_num, by omega, by omega, by simp; omega, HI22.out, ?_⟩
                      unfold TextInv
                      rw [HRS.out]
                      cases hg : textGo (s.data.toList.drop (j + 3)) with
                      | none => simp
                      | some z => simp [show j - i + (z.2 + 3) + 1 = j + 3 - i + z.2 + 1 from by omega]
                    case measure => simp [intOf]; omega
                  · go_wp2_with (at_builtin; refine buf_add rfl _ _ rfl w.heap.size _ _ [d] ?hs23 w _ (HI.out.drewN _) _ ?hc23 1 rfl ?gg23 ?hh23 ?hx23 (by (try simp only [List.length_append, List.length_cons, List.length_nil]); omega) ?_; (case hs23 => rfl); (case hx23 => rfl); (case hc23 => rfl); (case hh23 => first | rfl | simp); rintro v23 w23 hI23 ho23; have HI23 := Lib.hid hI23; have HO23 := Lib.hid ho23; clear hI23 ho23)
                    go_roundw
                    case rel =>
                      refine ⟨j + 3, acc ++ [d], by go_num, by omega, by omega, by simp; omega, HI23.out, ?_⟩
                      unfold TextInv
                      rw [HRS.out]
                      cases hg : textGo (s.data.toList.drop (j + 3)) with
                      | none => simp
                      | some z => simp [show j - i + (z.2 + 3) + 1 = j + 3 - i + z.2 + 1 from by omega]
                    case measure => simp [intOf]; omega
                  · go_wp2_with (at_builtin; refine buf_add rfl _ _ rfl w.heap.size _ _ [d] ?hs24 w _ (HI.out.drewN _) _ ?hc24 1 rfl ?gg24 ?hh24 ?hx24 (by (try simp only [List.length_append, List.length_cons, List.length_nil]); omega) ?_; (case hs24 => rfl); (case hx24 => rfl); (case hc24 => rfl); (case hh24 => first | rfl | simp); rintro v24 w24 hI24 ho24; have HI24 := Lib.hid hI24; have HO24 := Lib.hid ho24; clear hI24 ho24)
                    go_roundw
                    case rel =>
                      refine ⟨j + 3, acc ++ [d], by go_num, by omega, by omega, by simp; omega, HI24.out, ?_⟩
                      unfold TextInv
                      rw [HRS.out]
                      cases hg : textGo (s.data.toList.drop (j + 3)) with
                      | none => simp
                      | some z => simp [show j - i + (z.2 + 3) + 1 = j + 3 - i + z.2 + 1 from by omega]
                    case measure => simp [intOf]; omega
            · have t2 : decide ((s.size : Int) ≤ (j : Int) + 2) = true := by simp; omega
              have HRN := Lib.hid (show R = none by rw [HV.out, HDR.out, H92.out, textGo_short _ (by rw [List.length_drop, ← Lib.size_eq]; omega)]; rfl)
              go_wp2_with fail
              go_ret2
              exact ⟨by rw [HRN.out]; rfl, HI.out.below⟩
          · have n92 : ((s[j].toNat : Int) == 92) = false := byte_no (n := 92) (fun e => h92 (UInt8.toNat_inj.1 e))
            have hgo := textGo_chr s[j] (s.data.toList.drop (j + 1)) h34 h92
            have hV2 := HV.out
            rw [HDR.out, hgo] at hV2
            clear h34 h92 hgo
            by_cases hin2 : inText s[j] = true
            · rw [if_pos hin2] at hV2
              have HV3 := Lib.hid hV2
              obtain ⟨h1, h2⟩ := inText_iff.1 hin2
              have z1 : decide ((s[j].toNat : Int) < 32) = false := by simp; omega
              have z2 : decide ((126 : Int) < s[j].toNat) = false := by simp; omega
              clear hin2 hV2
              go_wp2_with (at_builtin; refine buf_add rfl _ _ rfl w.heap.size _ _ [s[j]] ?hs7 w _ HI.out _ ?hc7 1 rfl ?gg7 ?hh7 ?hx7 (by (try simp only [List.length_append, List.length_cons, List.length_nil]); omega) ?_; (case hs7 => rfl); (case hx7 => rfl); (case hc7 => rfl); (case hh7 => first | rfl | simp); rintro v7 w7 hI7 ho7; have HI7 := Lib.hid hI7; have HO7 := Lib.hid ho7; clear hI7 ho7)
              go_roundw
              case rel =>
                refine ⟨j + 1, acc ++ [s[j]], by go_num, by omega, by omega, by simp; omega, HI7.out, ?_⟩
                unfold TextInv
                rw [HV3.out]
                cases hg : textGo (s.data.toList.drop (j + 1)) with
                | none => simp
                | some z => simp [show j - i + (z.2 + 1) + 1 = j + 1 - i + z.2 + 1 from by omega]
              case measure => simp [intOf]; omega
            · rw [if_neg hin2] at hV2
              have HRN := Lib.hid (show R = none from hV2)
              have hcase : decide ((s[j].toNat : Int) < 32) = true ∨ (decide ((s[j].toNat : Int) < 32) = false ∧ decide ((126 : Int) < s[j].toNat) = true) := by
                have h4 : s[j].toNat < 32 ∨ 126 < s[j].toNat := by
                  false_or_by_contra
                  exact hin2 (inText_iff.2 (by omega))
                simp only [decide_eq_true_eq, decide_eq_false_iff_not]; omega
              clear hin2 hV2
              rcases hcase with r1 | ⟨r1, r2⟩
              all_goals
                go_wp2_with fail
                go_ret2
                exact ⟨by rw [HRN.out]; rfl, HI.out.below⟩
      · have t1 : decide ((j : Int) < s.size) = false := by simp; omega
        have t1' : decide ((s.size : Int) ≤ j) = true := by simp; omega
        have t1n : decide (s.size ≤ j) = true := by simp; omega
        have HRN := Lib.hid (show R = none by rw [HV.out, List.drop_eq_nil_of_le (by rw [← Lib.size_eq]; omega)]; simp [textGo])
        go_wp2_with fail
        go_ret2
        exact ⟨by rw [HRN.out]; rfl, HI.out.below⟩
  · have HRN := Lib.hid (show R = none by
      rw [← HRR.out]; unfold textL; rw [if_neg]
      intro e
      by_cases hii : i < s.size
      · rw [drop_get s i hii] at e
        exact hq ⟨hii, by rw [Option.some.inj e]; rfl⟩
      · rw [List.drop_eq_nil_of_le (by rw [← Lib.size_eq]; omega)] at e; simp at e)
    have hcase : decide (s.size ≤ i) = true ∨ (∃ h : i < s.size, decide (s.size ≤ i) = false ∧ ((s[i].toNat : Int) != 34) = true) := by
      by_cases hii : i < s.size
      · exact .inr ⟨hii, by simp; omega, byte_ne (n := 34) (fun e => hq ⟨hii, e⟩)⟩
      · exact .inl (by simp; omega)
    clear hq
    rcases hcase with r1 | ⟨hii, r1, r2⟩
    all_goals
      go_enter Tryd.func44, Tryd.ntmps44
      go_wp2_with fail
      go_ret2
      exact ⟨by rw [HRN.out]; rfl, Below.refl _ _⟩
end Go.Proofs.YtjdpbfjfcbjlfaaDoor
