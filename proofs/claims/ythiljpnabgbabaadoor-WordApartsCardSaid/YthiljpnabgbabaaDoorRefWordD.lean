/- DERIVED. The walk of the reference's great: a name that begins great, and what is qualified by it. -/
import Derived.Test.YthiljpnabgbabaaDoorRefWordC
import Derived.Test.YthiljpnabgbabaaDoorWordC
import Derived.Deep.RegionWith
set_option linter.unusedSimpArgs false
set_option linter.unusedVariables false
namespace Go.Proofs.YthiljpnabgbabaaDoor
open Go.RowKit

/-- The test 'Among(Words(), ..)', as one contract a call. -/
theorem wordsLen : Hid (wordsL.length = 23) := rfl
theorem amongWords_any (b : Nat) (s : ByteArray) (w : World) (hrow : RowIs w b wordsL) :
    Calls Tryd.prog 24 #[.slice (some ⟨b, 0, none⟩) wordsL.length wordsL.length, .string s] w fun e w' => e = .returned (.bool (resv s.data.toList)) ∧ w = w' :=
  among_any wordsL b s w (by rw [wordsLen.out]; omega) hrow

/-- How far the reference's loop has come. -/
def GreatAt (l : List UInt8) (R : Int × Nat × Nat) (k : Int) (n : Nat) : Prop := (k = 2 ∨ k = 4) ∧ n ≤ l.length ∧ ∃ a, goOn l.length l k n a = R
theorem GreatAt.end {l : List UInt8} {R : Int × Nat × Nat} {k : Int} {n : Nat} (h : GreatAt l R k n) (hn : pointAt l n = false ∨ qualK (plainW (l.drop (n + 1))).1 = 0) : R.1 = k ∧ R.2.1 = n := by
  obtain ⟨_, _, a, h⟩ := h
  rw [goOn_end _ _ _ _ _ (by rintro ⟨_, h1, h2⟩; rcases hn with e | e; rw [e] at h1; cases h1; exact h2 e)] at h
  rw [← h]
  exact ⟨rfl, rfl⟩
theorem GreatAt.step {l : List UInt8} {R : Int × Nat × Nat} {k : Int} {n : Nat} (h : GreatAt l R k n) (hp : pointAt l n = true) (hq : qualK (plainW (l.drop (n + 1))).1 ≠ 0) :
    ∃ a, goOn l.length l (qualK (plainW (l.drop (n + 1))).1) (n + 1 + (plainW (l.drop (n + 1))).2) a = R := by
  obtain ⟨hk, _, a, h⟩ := h
  exact ⟨_, (goOn_step _ _ _ _ ⟨hk, hp, hq⟩).symm.trans h⟩
theorem GreatAt.last {l : List UInt8} {R : Int × Nat × Nat} {k : Int} {n : Nat} (h : GreatAt l R k n) (hp : pointAt l n = true) (hq : qualK (plainW (l.drop (n + 1))).1 ≠ 0) (h4 : qualK (plainW (l.drop (n + 1))).1 ≠ 4) :
    R.1 = qualK (plainW (l.drop (n + 1))).1 ∧ R.2.1 = n + 1 + (plainW (l.drop (n + 1))).2 := by
  obtain ⟨a, h⟩ := h.step hp hq
  rw [goOn_end _ _ _ _ _ (by rintro ⟨h1, _⟩; have := qualK_qual hq; unfold qual at this; omega)] at h
  rw [← h]
  exact ⟨rfl, rfl⟩

set_option maxHeartbeats 4000000 in
theorem great_any (s : ByteArray) (i : Nat) (w : World) (hs : s.size ≤ 1152921504606846976) (hi : i ≤ s.size) (h3 : firstC (s.data.toList.drop i) = 3) :
    Calls Tryd.prog 26 #[.string s, .int .i64 i] w fun e w' => e = .returned (.tuple #[.int .i64 (scanW (s.data.toList.drop i)).1, .int .i64 ((i : Int) + (scanW (s.data.toList.drop i)).2.1)]) ∧ Below w.heap.size w w' := by
  have hpl : plainW (s.data.toList.drop i) = (2, nameLen (s.data.toList.drop i)) := by unfold plainW; rw [if_neg (by omega), if_neg (by omega), if_pos h3]
  obtain ⟨R, hR⟩ : ∃ R, scanW (s.data.toList.drop i) = R := ⟨_, rfl⟩
  have hst : GreatAt (s.data.toList.drop i) R 2 (nameLen (s.data.toList.drop i)) := by
    refine ⟨.inl rfl, span_le' _ _, 0, ?_⟩
    rw [← hR]; unfold scanW; rw [hpl]
  rw [hR]
  have n1 := fun w => refName_any s i w hs hi
  have hL : (s.data.toList.drop i).length = s.size - i := by rw [List.length_drop, ← Lib.size_eq]
  have hdr : ∀ n, (s.data.toList.drop i).drop n = s.data.toList.drop (i + n) := fun n => List.drop_drop
  have hgd : ∀ n, (s.data.toList.drop i).getD n 0 = s.data.toList.getD (i + n) 0 := fun n => getD_drop _ _ _
  generalize hl : s.data.toList.drop i = l at *
  generalize nameLen l = n0 at *
  have HL := Lib.hid hL; have HDR := Lib.hid hdr; have HGD := Lib.hid hgd; have HS := Lib.hid hst; have N1 := Lib.hid n1
  clear hL hdr hgd hst n1 hpl hR h3 hl
  go_enter Tryd.func26, Tryd.ntmps26
  go_wp2_with (go_at_call 23; refine (N1.out _).mono ?_; rintro e w' ⟨rfl, rfl⟩)
  go_loopw [6, 7] (fun kv ev wr => ∃ (k : Int) (n : Nat), kv = .int .i64 k ∧ ev = .int .i64 ((i : Int) + n) ∧ i + n ≤ s.size ∧ Hid (GreatAt l R k n) ∧ Hid (Below w.heap.size w wr)) (fun _ ev _ => s.size - (intOf ev).toNat)
  case atStart => exact ⟨2, n0, rfl, by simp, by have := HS.out.2.1; rw [HL.out] at this; omega, HS, Below.refl _ _⟩
  case round =>
    obtain ⟨k, n, rfl, rfl, hn, hG, hB⟩ := hrel
    by_cases hlt : i + n + 1 < s.size
    · by_cases hb : s[i + n].toNat = 46
      · have hpt : pointAt l n = true := by
          unfold pointAt
          rw [HGD.out, List.getD_eq_getElem?_getD, Lib.data_getElem? s (i + n) (by omega), HL.out]
          simp only [Option.getD_some, Bool.and_eq_true, beq_iff_eq, decide_eq_true_eq]
          exact ⟨UInt8.toNat_inj.1 (by rw [hb]; rfl), by omega⟩
        have hbb : ((s[i + n].toNat : Int) == 46) = true := beq_iff_eq.2 (by omega)
        have hto : ((i : Int) + n).toNat = i + n := by omega
        have hdl : l.drop (n + 1) = s.data.toList.drop (i + n + 1) := HDR.out _
        have hne : l.drop (n + 1) ≠ [] := by rw [hdl]; exact drop_ne (by rw [← Lib.size_eq]; omega)
        have hlen : (l.drop (n + 1)).length = s.size - (i + n + 1) := by rw [hdl, List.length_drop, ← Lib.size_eq]
        have hca : classAt s.data.toList ((i : Int) + n + 1) = (firstC (l.drop (n + 1)), ((dec (l.drop (n + 1))).2 : Int)) := by
          unfold classAt firstC
          rw [if_pos ⟨by omega, by rw [← Lib.size_eq]; omega⟩, if_neg hne, show ((i : Int) + n + 1).toNat = i + n + 1 from by omega, hdl]
        have c1 := fun w => refClassAt_any s ((i : Int) + n + 1) w hs
        rw [hca] at c1
        have hcast : ((i + n + 1 : Nat) : Int) = (i : Int) + n + 1 := by omega
        have n2 := fun w => refName_any s (i + n + 1) w hs (by omega)
        rw [hcast, ← hdl] at n2
        have hnl := span_le' inName (l.drop (n + 1))
        have hsl := span_le' (isCls 5) (l.drop (n + 1))
        rw [hlen] at hnl hsl
        have r1 := fun w => refRun_any s ((i : Int) + n + 1) 5 w hs
        have hrl : runL s.data.toList ((i : Int) + n + 1) 5 = (i : Int) + n + 1 + (span (isCls 5) (l.drop (n + 1)) : Nat) := by
          unfold runL
          rw [if_pos ⟨by omega, by rw [← Lib.size_eq]; omega⟩, show ((i : Int) + n + 1).toNat = i + n + 1 from by omega, hdl]
        rw [hrl] at r1
        have hpw : ∀ m, (s.extract (i + n + 1) (i + n + 1 + m)).data.toList = (l.drop (n + 1)).take m := fun m => by
          rw [Lib.extract_data, Nat.add_sub_cancel_left, hdl]
        have C1 := Lib.hid c1; have N2 := Lib.hid n2; have R1 := Lib.hid r1; have HPW := Lib.hid hpw
        clear c1 n2 r1 hrl hpw hca hcast hdl hlen hb
        by_cases f3 : firstC (l.drop (n + 1)) = 3
        · have hpl : plainW (l.drop (n + 1)) = (2, nameLen (l.drop (n + 1))) := by unfold plainW; rw [if_neg (by omega), if_neg (by omega), if_pos f3]
          obtain ⟨a, hst⟩ := hG.out.step hpt (by rw [hpl]; simp [qualK])
          rw [hpl] at hst
          rw [f3] at C1
          have HST : Hid (GreatAt l R 4 (n + 1 + nameLen (l.drop (n + 1)))) := ⟨.inr rfl, by have := HL.out; unfold nameLen; omega, a, hst⟩
          have hnl' : nameLen (l.drop (n + 1)) ≤ s.size - (i + n + 1) := hnl
          generalize nameLen (l.drop (n + 1)) = m at *
          clear hst hpl hpt f3 hnl hsl hne
          go_wp2_with (first | (go_at_call 20; refine (C1.out _).mono ?_; rintro e w' ⟨rfl, rfl⟩) | (go_at_call 23; refine (N2.out _).mono ?_; rintro e w' ⟨rfl, rfl⟩))
          go_roundw
          case rel => exact ⟨4, n + 1 + m, rfl, by go_num, by omega, HST, hB⟩
          case measure => simp [intOf]; omega
        by_cases f2 : firstC (l.drop (n + 1)) = 2
        · have hpl : plainW (l.drop (n + 1)) = ((if resv ((l.drop (n + 1)).take (nameLen (l.drop (n + 1)))) then 9 else 1), nameLen (l.drop (n + 1))) := by unfold plainW; rw [if_neg (by omega), if_neg (by omega), if_neg f3, if_pos f2]
          rw [f2] at C1
          have hnl' : nameLen (l.drop (n + 1)) ≤ s.size - (i + n + 1) := hnl
          have hG1 := @GreatAt.end _ _ _ _ hG.out
          have hG2 := @GreatAt.last _ _ _ _ hG.out hpt
          rw [hpl] at hG1 hG2
          have a1 := fun b w hrow => amongWords_any b (s.extract (i + n + 1) (i + n + 1 + nameLen (l.drop (n + 1)))) w hrow
          rw [HPW.out] at a1
          generalize nameLen (l.drop (n + 1)) = m at *
          generalize resv ((l.drop (n + 1)).take m) = rv at *
          have A1 := Lib.hid a1
          clear a1 hpl hpt f3 f2 hnl hsl hne
          have g1 : IntKind.i64.wrap ((i : Int) + n + 1) = (i : Int) + n + 1 := IntWalk.i64_in _ (by omega)
          have g2 : (0 : Int) ≤ (i : Int) + n + 1 := by omega
          have g3 : ((i : Int) + n + 1).toNat = i + n + 1 := by omega
          have g4 : (i : Int) + n + 1 + m ≤ (s.size : Int) := by omega
          have g5 : ((i : Int) + n + 1 + m).toNat = i + n + 1 + m := by omega
          have g6 : (i : Int) + n + 1 ≤ (i : Int) + n + 1 + m := by omega
          have G1 := Lib.hid g1; have G3 := Lib.hid g3; have G5 := Lib.hid g5
          clear g1 g3 g5
          cases rv with
          | true =>
            have hE := hG1 (.inr (by rfl))
            obtain ⟨r1, r2, r3⟩ := R
            obtain ⟨e1, e2⟩ := hE
            simp only at e1 e2
            subst e1; subst e2
            clear hG1 hG2
            go_wp2_with (first | (go_at_call 20; refine (C1.out _).mono ?_; rintro e w' ⟨rfl, rfl⟩) | (go_at_call 23; refine (N2.out _).mono ?_; rintro e w' ⟨rfl, rfl⟩))
            have g1 := G1.out; have g3 := G3.out; have g5 := G5.out
            go_region_with (first | (go_at_call 25; refine (words_any _).mono ?_; rintro e w1 ⟨rfl, hrow, hb1⟩; have HROW := Lib.hid hrow; have HB1 := Lib.hid hb1; clear hrow hb1) | (go_at_call 24; refine (A1.out _ _ HROW.out).mono ?_; rintro e w' ⟨rfl, rfl⟩))
            all_goals go_wp2_with fail
            all_goals go_ret2
            all_goals exact ⟨rfl, (hB.out.drew).trans (HB1.out.mono (hB.out.drew).size)⟩
          | false =>
            have hE := hG2 (by simp [qualK]) (by simp [qualK])
            simp only [Bool.false_eq_true, if_false, show qualK 1 = 3 from rfl] at hE
            obtain ⟨r1, r2, r3⟩ := R
            obtain ⟨e1, e2⟩ := hE
            simp only at e1 e2
            subst e1; subst e2
            clear hG1 hG2
            go_wp2_with (first | (go_at_call 20; refine (C1.out _).mono ?_; rintro e w' ⟨rfl, rfl⟩) | (go_at_call 23; refine (N2.out _).mono ?_; rintro e w' ⟨rfl, rfl⟩))
            have g1 := G1.out; have g3 := G3.out; have g5 := G5.out
            go_region_with (first | (go_at_call 25; refine (words_any _).mono ?_; rintro e w1 ⟨rfl, hrow, hb1⟩; have HROW := Lib.hid hrow; have HB1 := Lib.hid hb1; clear hrow hb1) | (go_at_call 24; refine (A1.out _ _ HROW.out).mono ?_; rintro e w' ⟨rfl, rfl⟩))
            all_goals go_wp2_with fail
            all_goals go_ret2
            all_goals exact ⟨by go_num, (hB.out.drew).trans (HB1.out.mono (hB.out.drew).size)⟩
        by_cases f5 : firstC (l.drop (n + 1)) = 5
        · have hpl : plainW (l.drop (n + 1)) = (symK ((l.drop (n + 1)).take (span (isCls 5) (l.drop (n + 1)))), span (isCls 5) (l.drop (n + 1))) := by unfold plainW; rw [if_neg (by omega), if_pos f5]
          rw [f5] at C1
          have hpos : 0 < span (isCls 5) (l.drop (n + 1)) := by
            have hd := dec_len _ hne
            have hc : cls (dec (l.drop (n + 1))).1 = 5 := by unfold firstC at f5; rw [if_neg hne] at f5; exact f5
            rw [span_yes _ _ hne (by unfold isCls; simpa using hc)]
            omega
          have hG1 := @GreatAt.end _ _ _ _ hG.out
          have hG2 := @GreatAt.last _ _ _ _ hG.out hpt
          rw [hpl] at hG1 hG2
          have o1 := fun w => operator_any (s.extract (i + n + 1) (i + n + 1 + span (isCls 5) (l.drop (n + 1)))) w (by rw [ByteArray.size_extract]; omega)
          rw [HPW.out] at o1
          generalize span (isCls 5) (l.drop (n + 1)) = m at *
          have hsk : symK ((l.drop (n + 1)).take m) = 10 ∨ symK ((l.drop (n + 1)).take m) = 6 ∨ symK ((l.drop (n + 1)).take m) = 5 := by
            unfold symK
            (repeat' split) <;> simp
          generalize symK ((l.drop (n + 1)).take m) = sk at *
          have O1 := Lib.hid o1
          have hb4 : i + n + 1 + m ≤ s.size := by omega
          clear o1 hpl hpt f3 f2 f5 hnl hne
          rcases hsk with rfl | rfl | rfl
          · have hE := hG1 (.inr (by rfl))
            obtain ⟨r1, r2, r3⟩ := R
            obtain ⟨e1, e2⟩ := hE
            simp only at e1 e2
            subst e1; subst e2
            clear hG1 hG2
            go_wp2_with (first | (go_at_call 20; refine (C1.out _).mono ?_; rintro e w' ⟨rfl, rfl⟩) | (go_at_call 21; refine (R1.out _).mono ?_; rintro e w' ⟨rfl, rfl⟩))
            refine (O1.out _).mono ?_
            rintro e w1 ⟨rfl, hb1⟩
            have HB1 := Lib.hid hb1
            clear hb1
            go_wp2_with fail
            go_ret2
            exact ⟨rfl, hB.out.trans (HB1.out.mono hB.out.size)⟩
          · have hE := hG2 (by simp [qualK]) (by simp [qualK])
            simp only [show qualK 6 = 8 from rfl] at hE
            obtain ⟨r1, r2, r3⟩ := R
            obtain ⟨e1, e2⟩ := hE
            simp only at e1 e2
            subst e1; subst e2
            clear hG1 hG2
            go_wp2_with (first | (go_at_call 20; refine (C1.out _).mono ?_; rintro e w' ⟨rfl, rfl⟩) | (go_at_call 21; refine (R1.out _).mono ?_; rintro e w' ⟨rfl, rfl⟩))
            refine (O1.out _).mono ?_
            rintro e w1 ⟨rfl, hb1⟩
            have HB1 := Lib.hid hb1
            clear hb1
            go_wp2_with fail
            go_ret2
            exact ⟨by go_num, hB.out.trans (HB1.out.mono hB.out.size)⟩
          · have hE := hG2 (by simp [qualK]) (by simp [qualK])
            simp only [show qualK 5 = 7 from rfl] at hE
            obtain ⟨r1, r2, r3⟩ := R
            obtain ⟨e1, e2⟩ := hE
            simp only at e1 e2
            subst e1; subst e2
            clear hG1 hG2
            go_wp2_with (first | (go_at_call 20; refine (C1.out _).mono ?_; rintro e w' ⟨rfl, rfl⟩) | (go_at_call 21; refine (R1.out _).mono ?_; rintro e w' ⟨rfl, rfl⟩))
            refine (O1.out _).mono ?_
            rintro e w1 ⟨rfl, hb1⟩
            have HB1 := Lib.hid hb1
            clear hb1
            go_wp2_with fail
            go_ret2
            exact ⟨by go_num, hB.out.trans (HB1.out.mono hB.out.size)⟩
        · have hq : qualK (plainW (l.drop (n + 1))).1 = 0 := by
            unfold plainW
            rw [if_neg f5, if_neg f3, if_neg f2]
            split <;> rfl
          obtain ⟨e1, e2⟩ := hG.out.end (.inr hq)
          generalize firstC (l.drop (n + 1)) = f at *
          have b3 : (f == 3) = false := beq_eq_false_iff_ne.2 f3
          have b2 : (f == 2) = false := beq_eq_false_iff_ne.2 f2
          have b5 : (f == 5) = false := beq_eq_false_iff_ne.2 f5
          obtain ⟨r1, r2, r3⟩ := R
          simp only at e1 e2
          subst e1; subst e2
          clear hq f3 f2 f5 hpt hnl hsl hne
          go_wp2_with (go_at_call 20; refine (C1.out _).mono ?_; rintro e w' ⟨rfl, rfl⟩)
          go_ret2
          exact ⟨rfl, hB.out⟩
      · have hpt : pointAt l n = false := by
          unfold pointAt
          rw [HGD.out, List.getD_eq_getElem?_getD, Lib.data_getElem? s (i + n) (by omega)]
          simp only [Option.getD_some, Bool.and_eq_false_iff, beq_eq_false_iff_ne]
          exact .inl fun e => hb (by rw [e]; rfl)
        obtain ⟨e1, e2⟩ := hG.out.end (.inl hpt)
        obtain ⟨r1, r2, r3⟩ := R
        simp only at e1 e2
        subst e1; subst e2
        have hbb : ((s[i + r2].toNat : Int) == 46) = false := beq_eq_false_iff_ne.2 (by omega)
        clear hb hpt
        go_wp2_with fail
        go_ret2
        exact ⟨rfl, hB.out⟩
    · have hend : pointAt l n = false ∨ qualK (plainW (l.drop (n + 1))).1 = 0 := by
        right
        rw [List.drop_eq_nil_of_le (by rw [HL.out]; omega)]
        rfl
      obtain ⟨e1, e2⟩ := hG.out.end hend
      obtain ⟨r1, r2, r3⟩ := R
      simp only at e1 e2
      subst e1; subst e2
      clear hend
      go_wp2_with fail
      go_ret2
      exact ⟨rfl, hB.out⟩
end Go.Proofs.YthiljpnabgbabaaDoor
