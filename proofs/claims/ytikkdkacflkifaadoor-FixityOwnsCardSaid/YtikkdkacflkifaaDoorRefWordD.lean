/- DERIVED. The walk of the reference's great: a name that begins great, and what is qualified by it. DERIVED. The walks of the reference's Scan and Kind. -/
import Derived.Test.YtikkdkacflkifaaDoorRefWordA
import Derived.Test.YtikkdkacflkifaaDoorWordC
import Derived.Deep.RegionWith
set_option linter.unusedSimpArgs false
set_option linter.unusedVariables false
namespace Go.Proofs.YtikkdkacflkifaaDoor
open Go.RowKit

/-- The test 'Among(Words(), ..)', as one contract a call. -/
theorem wordsLen : Hid (wordsL.length = 23) := rfl
theorem amongWords_any (b : Nat) (s : ByteArray) (w : World) (hrow : RowIs w b wordsL) :
    Calls Tryd.prog 81 #[.slice (some ⟨b, 0, none⟩) wordsL.length wordsL.length, .string s] w fun e w' => e = .returned (.bool (resv s.data.toList)) ∧ w = w' :=
  among_any wordsL b s w (by rw [wordsLen.out]; omega) hrow

/-- How far the reference's loop has come. -/
def GreatAt (l : List UInt8) (R : Int × Nat × Nat) (k : Int) (n : Nat) : Prop := (k = 2 ∨ k = 4) ∧ n ≤ l.length ∧ ∃ a, goOn l.length l k n a = R
theorem GreatAt.end {l : List UInt8} {R : Int × Nat × Nat} {k : Int} {n : Nat} (h : GreatAt l R k n) (hn : pointAt l n = false ∨ qualK (plainW (l.drop (n + 1))).1 = 0) : R.1 = k ∧ R.2.1 = n := by
  obtain ⟨_, _, a, h⟩ := h
  rw [goOn_end _ _ _ _ _ (by rintro ⟨_, h1, h2⟩; rcases hn with e | e; rw [e] at h1; cases h1; exact h2 e)] at h
  rw [← h]
  exact ⟨rfl, rfl⟩
theorem GreatAt.step {l : List UInt8} {R : Int × Nat × Nat} {k : Int} {n : Nat} (h : GreatAt l R k n) (hp : pointAt l n = true) (hq : qualK (plainW (l.drop (n + 1))).1 ≠ 0) :
    ∃ a, goOn l.length l (qualK (plainW (l.drop (n + 1))).1) (n + 1 + (plainW (l.drop (n + 1))).2) a = R := by
  obtain ⟨hk, _, a, h⟩ := h
  exact ⟨_, (goOn_step _ _ _ _ ⟨hk, hp, hq⟩).symm.trans h⟩
theorem GreatAt.last {l : List UInt8} {R : Int × Nat × Nat} {k : Int} {n : Nat} (h : GreatAt l R k n) (hp : pointAt l n = true) (hq : qualK (plainW (l.drop (n + 1))).1 ≠ 0) (h4 : qualK (plainW (l.drop (n + 1))).1 ≠ 4) :
    R.1 = qualK (plainW (l.drop (n + 1))).1 ∧ R.2.1 = n + 1 + (plainW (l.drop (n + 1))).2 := by
  obtain ⟨a, h⟩ := h.step hp hq
  rw [goOn_end _ _ _ _ _ (by rintro ⟨h1, _⟩; have := qualK_qual hq; unfold qual at this; omega)] at h
  rw [← h]
  exact ⟨rfl, rfl⟩

set_option maxHeartbeats 4000000 in
theorem great_any (s : ByteArray) (i : Nat) (w : World) (hs : s.size ≤ 1152921504606846976) (hi : i ≤ s.size) (h3 : firstC (s.data.toList.drop i) = 3) :
    Calls Tryd.prog 83 #[.string s, .int .i64 i] w fun e w' => e = .returned (.tuple #[.int .i64 (scanW (s.data.toList.drop i)).1, .int .i64 ((i : Int) + (scanW (s.data.toList.drop i)).2.1)]) ∧ Below w.heap.size w w' := by
  have hpl : plainW (s.data.toList.drop i) = (2, nameLen (s.data.toList.drop i)) := by unfold plainW; rw [if_neg (by omega), if_neg (by omega), if_pos h3]
  obtain ⟨R, hR⟩ : ∃ R, scanW (s.data.toList.drop i) = R := ⟨_, rfl⟩
  have hst : GreatAt (s.data.toList.drop i) R 2 (nameLen (s.data.toList.drop i)) := by
    refine ⟨.inl rfl, span_le' _ _, 0, ?_⟩
    rw [← hR]; unfold scanW; rw [hpl]
  rw [hR]
  have n1 := fun w => refName_any s i w hs hi
  have hL : (s.data.toList.drop i).length = s.size - i := by rw [List.length_drop, ← Lib.size_eq]
  have hdr : ∀ n, (s.data.toList.drop i).drop n = s.data.toList.drop (i + n) := fun n => List.drop_drop
  have hgd : ∀ n, (s.data.toList.drop i).getD n 0 = s.data.toList.getD (i + n) 0 := fun n => getD_drop _ _ _
  generalize hl : s.data.toList.drop i = l at *
  generalize nameLen l = n0 at *
  have HL := Lib.hid hL; have HDR := Lib.hid hdr; have HGD := Lib.hid hgd; have HS := Lib.hid hst; have N1 := Lib.hid n1
  clear hL hdr hgd hst n1 hpl hR h3 hl
  go_enter Tryd.func83, Tryd.ntmps83
  go_wp2_with (go_at_call 50; refine (N1.out _).mono ?_; rintro e w' ⟨rfl, rfl⟩)
  go_loopw [6, 7] (fun kv ev wr => ∃ (k : Int) (n : Nat), kv = .int .i64 k ∧ ev = .int .i64 ((i : Int) + n) ∧ i + n ≤ s.size ∧ Hid (GreatAt l R k n) ∧ Hid (Below w.heap.size w wr)) (fun _ ev _ => s.size - (intOf ev).toNat)
  case atStart => exact ⟨2, n0, rfl, by simp, by have := HS.out.2.1; rw [HL.out] at this; omega, HS, Below.refl _ _⟩
  case round =>
    obtain ⟨k, n, rfl, rfl, hn, hG, hB⟩ := hrel
    by_cases hlt : i + n + 1 < s.size
    · by_cases hb : s[i + n].toNat = 46
      · have hpt : pointAt l n = true := by
          unfold pointAt
          rw [HGD.out, List.getD_eq_getElem?_getD, Lib.data_getElem? s (i + n) (by omega), HL.out]
          simp only [Option.getD_some, Bool.and_eq_true, beq_iff_eq, decide_eq_true_eq]
          exact ⟨UInt8.toNat_inj.1 (by rw [hb]; rfl), by omega⟩
        have hbb : ((s[i + n].toNat : Int) == 46) = true := beq_iff_eq.2 (by omega)
        have hto : ((i : Int) + n).toNat = i + n := by omega
        have hdl : l.drop (n + 1) = s.data.toList.drop (i + n + 1) := HDR.out _
        have hne : l.drop (n + 1) ≠ [] := by rw [hdl]; exact drop_ne (by rw [← Lib.size_eq]; omega)
        have hlen : (l.drop (n + 1)).length = s.size - (i + n + 1) := by rw [hdl, List.length_drop, ← Lib.size_eq]
        have hca : classAt s.data.toList ((i : Int) + n + 1) = (firstC (l.drop (n + 1)), ((dec (l.drop (n + 1))).2 : Int)) := by
          unfold classAt firstC
          rw [if_pos ⟨by omega, by rw [← Lib.size_eq]; omega⟩, if_neg hne, show ((i : Int) + n + 1).toNat = i + n + 1 from by omega, hdl]
        have c1 := fun w => refClassAt_any s ((i : Int) + n + 1) w hs
        rw [hca] at c1
        have hcast : ((i + n + 1 : Nat) : Int) = (i : Int) + n + 1 := by omega
        have n2 := fun w => refName_any s (i + n + 1) w hs (by omega)
        rw [hcast, ← hdl] at n2
        have hnl := span_le' inName (l.drop (n + 1))
        have hsl := span_le' (isCls 5) (l.drop (n + 1))
        rw [hlen] at hnl hsl
        have r1 := fun w => refRun_any s ((i : Int) + n + 1) 5 w hs
        have hrl : runL s.data.toList ((i : Int) + n + 1) 5 = (i : Int) + n + 1 + (span (isCls 5) (l.drop (n + 1)) : Nat) := by
          unfold runL
          rw [if_pos ⟨by omega, by rw [← Lib.size_eq]; omega⟩, show ((i : Int) + n + 1).toNat = i + n + 1 from by omega, hdl]
        rw [hrl] at r1
        have hpw : ∀ m, (s.extract (i + n + 1) (i + n + 1 + m)).data.toList = (l.drop (n + 1)).take m := fun m => by
          rw [Lib.extract_data, Nat.add_sub_cancel_left, hdl]
        have C1 := Lib.hid c1; have N2 := Lib.hid n2; have R1 := Lib.hid r1; have HPW := Lib.hid hpw
        clear c1 n2 r1 hrl hpw hca hcast hdl hlen hb
        by_cases f3 : firstC (l.drop (n + 1)) = 3
        · have hpl : plainW (l.drop (n + 1)) = (2, nameLen (l.drop (n + 1))) := by unfold plainW; rw [if_neg (by omega), if_neg (by omega), if_pos f3]
          obtain ⟨a, hst⟩ := hG.out.step hpt (by rw [hpl]; simp [qualK])
          rw [hpl] at hst
          rw [f3] at C1
          have HST : Hid (GreatAt l R 4 (n + 1 + nameLen (l.drop (n + 1)))) := ⟨.inr rfl, by have := HL.out; unfold nameLen; omega, a, hst⟩
          have hnl' : nameLen (l.drop (n + 1)) ≤ s.size - (i + n + 1) := hnl
          generalize nameLen (l.drop (n + 1)) = m at *
          clear hst hpl hpt f3 hnl hsl hne
          go_wp2_with (first | (go_at_call 51; refine (C1.out _).mono ?_; rintro e w' ⟨rfl, rfl⟩) | (go_at_call 50; refine (N2.out _).mono ?_; rintro e w' ⟨rfl, rfl⟩))
          go_roundw
          case rel => exact ⟨4, n + 1 + m, rfl, by go_num, by omega, HST, hB⟩
          case measure => simp [intOf]; omega
        by_cases f2 : firstC (l.drop (n + 1)) = 2
        · have hpl : plainW (l.drop (n + 1)) = ((if resv ((l.drop (n + 1)).take (nameLen (l.drop (n + 1)))) then 9 else 1), nameLen (l.drop (n + 1))) := by unfold plainW; rw [if_neg (by omega), if_neg (by omega), if_neg f3, if_pos f2]
          rw [f2] at C1
          have hnl' : nameLen (l.drop (n + 1)) ≤ s.size - (i + n + 1) := hnl
          have hG1 := @GreatAt.end _ _ _ _ hG.out
          have hG2 := @GreatAt.last _ _ _ _ hG.out hpt
          rw [hpl] at hG1 hG2
          have a1 := fun b w hrow => amongWords_any b (s.extract (i + n + 1) (i + n + 1 + nameLen (l.drop (n + 1)))) w hrow
          rw [HPW.out] at a1
          generalize nameLen (l.drop (n + 1)) = m at *
          generalize resv ((l.drop (n + 1)).take m) = rv at *
          have A1 := Lib.hid a1
          clear a1 hpl hpt f3 f2 hnl hsl hne
          have g1 : IntKind.i64.wrap ((i : Int) + n + 1) = (i : Int) + n + 1 := IntWalk.i64_in _ (by omega)
          have g2 : (0 : Int) ≤ (i : Int) + n + 1 := by omega
          have g3 : ((i : Int) + n + 1).toNat = i + n + 1 := by omega
          have g4 : (i : Int) + n + 1 + m ≤ (s.size : Int) := by omega
          have g5 : ((i : Int) + n + 1 + m).toNat = i + n + 1 + m := by omega
          have g6 : (i : Int) + n + 1 ≤ (i : Int) + n + 1 + m := by omega
          have G1 := Lib.hid g1; have G3 := Lib.hid g3; have G5 := Lib.hid g5
          clear g1 g3 g5
          cases rv with
          | true =>
            have hE := hG1 (.inr (by rfl))
            obtain ⟨r1, r2, r3⟩ := R
            obtain ⟨e1, e2⟩ := hE
            simp only at e1 e2
            subst e1; subst e2
            clear hG1 hG2
            go_wp2_with (first | (go_at_call 51; refine (C1.out _).mono ?_; rintro e w' ⟨rfl, rfl⟩) | (go_at_call 50; refine (N2.out _).mono ?_; rintro e w' ⟨rfl, rfl⟩))
            have g1 := G1.out; have g3 := G3.out; have g5 := G5.out
            go_region_with (first | (go_at_call 82; refine (words_any _).mono ?_; rintro e w1 ⟨rfl, hrow, hb1⟩; have HROW := Lib.hid hrow; have HB1 := Lib.hid hb1; clear hrow hb1) | (go_at_call 81; refine (A1.out _ _ HROW.out).mono ?_; rintro e w' ⟨rfl, rfl⟩))
            all_goals go_wp2_with fail
            all_goals go_ret2
            all_goals exact ⟨rfl, (hB.out.drew).trans (HB1.out.mono (hB.out.drew).size)⟩
          | false =>
            have hE := hG2 (by simp [qualK]) (by simp [qualK])
            simp only [Bool.false_eq_true, if_false, show qualK 1 = 3 from rfl] at hE
            obtain ⟨r1, r2, r3⟩ := R
            obtain ⟨e1, e2⟩ := hE
            simp only at e1 e2
            subst e1; subst e2
            clear hG1 hG2
            go_wp2_with (first | (go_at_call 51; refine (C1.out _).mono ?_; rintro e w' ⟨rfl, rfl⟩) | (go_at_call 50; refine (N2.out _).mono ?_; rintro e w' ⟨rfl, rfl⟩))
            have g1 := G1.out; have g3 := G3.out; have g5 := G5.out
            go_region_with (first | (go_at_call 82; refine (words_any _).mono ?_; rintro e w1 ⟨rfl, hrow, hb1⟩; have HROW := Lib.hid hrow; have HB1 := Lib.hid hb1; clear hrow hb1) | (go_at_call 81; refine (A1.out _ _ HROW.out).mono ?_; rintro e w' ⟨rfl, rfl⟩))
            all_goals go_wp2_with fail
            all_goals go_ret2
            all_goals exact ⟨by go_num, (hB.out.drew).trans (HB1.out.mono (hB.out.drew).size)⟩
        by_cases f5 : firstC (l.drop (n + 1)) = 5
        · have hpl : plainW (l.drop (n + 1)) = (symK ((l.drop (n + 1)).take (span (isCls 5) (l.drop (n + 1)))), span (isCls 5) (l.drop (n + 1))) := by unfold plainW; rw [if_neg (by omega), if_pos f5]
          rw [f5] at C1
          have hpos : 0 < span (isCls 5) (l.drop (n + 1)) := by
            have hd := dec_len _ hne
            have hc : cls (dec (l.drop (n + 1))).1 = 5 := by unfold firstC at f5; rw [if_neg hne] at f5; exact f5
            rw [span_yes _ _ hne (by unfold isCls; simpa using hc)]
            omega
          have hG1 := @GreatAt.end _ _ _ _ hG.out
          have hG2 := @GreatAt.last _ _ _ _ hG.out hpt
          rw [hpl] at hG1 hG2
          have o1 := fun w => operator_any (s.extract (i + n + 1) (i + n + 1 + span (isCls 5) (l.drop (n + 1)))) w (by rw [ByteArray.size_extract]; omega)
          rw [HPW.out] at o1
          generalize span (isCls 5) (l.drop (n + 1)) = m at *
          have hsk : symK ((l.drop (n + 1)).take m) = 10 ∨ symK ((l.drop (n + 1)).take m) = 6 ∨ symK ((l.drop (n + 1)).take m) = 5 := by
            unfold symK
            (repeat' split) <;> simp
          generalize symK ((l.drop (n + 1)).take m) = sk at *
          have O1 := Lib.hid o1
          have hb4 : i + n + 1 + m ≤ s.size := by omega
          clear o1 hpl hpt f3 f2 f5 hnl hne
          rcases hsk with rfl | rfl | rfl
          · have hE := hG1 (.inr (by rfl))
            obtain ⟨r1, r2, r3⟩ := R
            obtain ⟨e1, e2⟩ := hE
            simp only at e1 e2
            subst e1; subst e2
            clear hG1 hG2
            go_wp2_with (first | (go_at_call 51; refine (C1.out _).mono ?_; rintro e w' ⟨rfl, rfl⟩) | (go_at_call 79; refine (R1.out _).mono ?_; rintro e w' ⟨rfl, rfl⟩))
            refine (O1.out _).mono ?_
            rintro e w1 ⟨rfl, hb1⟩
            have HB1 := Lib.hid hb1
            clear hb1
            go_wp2_with fail
            go_ret2
            exact ⟨rfl, hB.out.trans (HB1.out.mono hB.out.size)⟩
          · have hE := hG2 (by simp [qualK]) (by simp [qualK])
            simp only [show qualK 6 = 8 from rfl] at hE
            obtain ⟨r1, r2, r3⟩ := R
            obtain ⟨e1, e2⟩ := hE
            simp only at e1 e2
            subst e1; subst e2
            clear hG1 hG2
            go_wp2_with (first | (go_at_call 51; refine (C1.out _).mono ?_; rintro e w' ⟨rfl, rfl⟩) | (go_at_call 79; refine (R1.out _).mono ?_; rintro e w' ⟨rfl, rfl⟩))
            refine (O1.out _).mono ?_
            rintro e w1 ⟨rfl, hb1⟩
            have HB1 := Lib.hid hb1
            clear hb1
            go_wp2_with fail
            go_ret2
            exact ⟨by go_num, hB.out.trans (HB1.out.mono hB.out.size)⟩
          · have hE := hG2 (by simp [qualK]) (by simp [qualK])
            simp only [show qualK 5 = 7 from rfl] at hE
            obtain ⟨r1, r2, r3⟩ := R
            obtain ⟨e1, e2⟩ := hE
            simp only at e1 e2
            subst e1; subst e2
            clear hG1 hG2
            go_wp2_with (first | (go_at_call 51; refine (C1.out _).mono ?_; rintro e w' ⟨rfl, rfl⟩) | (go_at_call 79; refine (R1.out _).mono ?_; rintro e w' ⟨rfl, rfl⟩))
            refine (O1.out _).mono ?_
            rintro e w1 ⟨rfl, hb1⟩
            have HB1 := Lib.hid hb1
            clear hb1
            go_wp2_with fail
            go_ret2
            exact ⟨by go_num, hB.out.trans (HB1.out.mono hB.out.size)⟩
        · have hq : qualK (plainW (l.drop (n + 1))).1 = 0 := by
            unfold plainW
            rw [if_neg f5, if_neg f3, if_neg f2]
            split <;> rfl
          obtain ⟨e1, e2⟩ := hG.out.end (.inr hq)
          generalize firstC (l.drop (n + 1)) = f at *
          have b3 : (f == 3) = false := beq_eq_false_iff_ne.2 f3
          have b2 : (f == 2) = false := beq_eq_false_iff_ne.2 f2
          have b5 : (f == 5) = false := beq_eq_false_iff_ne.2 f5
          obtain ⟨r1, r2, r3⟩ := R
          simp only at e1 e2
          subst e1; subst e2
          clear hq f3 f2 f5 hpt hnl hsl hne
          go_wp2_with (go_at_call 51; refine (C1.out _).mono ?_; rintro e w' ⟨rfl, rfl⟩)
          go_ret2
          exact ⟨rfl, hB.out⟩
      · have hpt : pointAt l n = false := by
          unfold pointAt
          rw [HGD.out, List.getD_eq_getElem?_getD, Lib.data_getElem? s (i + n) (by omega)]
          simp only [Option.getD_some, Bool.and_eq_false_iff, beq_eq_false_iff_ne]
          exact .inl fun e => hb (by rw [e]; rfl)
        obtain ⟨e1, e2⟩ := hG.out.end (.inl hpt)
        obtain ⟨r1, r2, r3⟩ := R
        simp only at e1 e2
        subst e1; subst e2
        have hbb : ((s[i + r2].toNat : Int) == 46) = false := beq_eq_false_iff_ne.2 (by omega)
        clear hb hpt
        go_wp2_with fail
        go_ret2
        exact ⟨rfl, hB.out⟩
    · have hend : pointAt l n = false ∨ qualK (plainW (l.drop (n + 1))).1 = 0 := by
        right
        rw [List.drop_eq_nil_of_le (by rw [HL.out]; omega)]
        rfl
      obtain ⟨e1, e2⟩ := hG.out.end hend
      obtain ⟨r1, r2, r3⟩ := R
      simp only at e1 e2
      subst e1; subst e2
      clear hend
      go_wp2_with fail
      go_ret2
      exact ⟨rfl, hB.out⟩
end Go.Proofs.YtikkdkacflkifaaDoor

namespace Go.Proofs.YtikkdkacflkifaaDoor
open Go.RowKit

theorem scanW_plain (l : List UInt8) (h : (plainW l).1 ≠ 2) : scanW l = ((plainW l).1, (plainW l).2, 0) := by
  unfold scanW
  exact goOn_end _ _ _ _ _ (by rintro ⟨h1, _⟩; have := plainW_kind l; omega)

set_option maxHeartbeats 4000000 in
theorem refScanW_any (s : ByteArray) (i : Int) (w : World) (hs : s.size ≤ 1152921504606846976) :
    Calls Tryd.prog 64 #[.string s, .int .i64 i] w fun e w' => e = .returned (.tuple #[.int .i64 (scanAt s.data.toList i).1, .int .i64 (scanAt s.data.toList i).2]) ∧ Below w.heap.size w w' := by
  have c1 := fun w => refClassAt_any s i w hs
  by_cases h : 0 ≤ i ∧ i < s.data.toList.length
  case neg =>
    have hc : classAt s.data.toList i = (0, 0) := by unfold classAt; rw [if_neg h]
    have hR : scanAt s.data.toList i = (0, 0) := by unfold scanAt; rw [if_neg h]
    rw [hc] at c1
    rw [hR]
    have C1 := Lib.hid c1
    clear c1 hc hR h
    go_enter Tryd.func64, Tryd.ntmps64
    go_wp2_with (go_at_call 51; refine (C1.out _).mono ?_; rintro e w' ⟨rfl, rfl⟩)
    go_ret2
    exact ⟨rfl, Below.refl _ _⟩
  obtain ⟨i, rfl⟩ := Int.eq_ofNat_of_zero_le h.1
  rw [← Lib.size_eq] at h
  have hi : i < s.size := by omega
  have hne : s.data.toList.drop i ≠ [] := drop_ne (by rw [← Lib.size_eq]; exact hi)
  have hlen : (s.data.toList.drop i).length = s.size - i := by rw [List.length_drop, ← Lib.size_eq]
  have hR : scanAt s.data.toList i = if (scanW (s.data.toList.drop i)).1 = 0 then (0, 0) else ((scanW (s.data.toList.drop i)).1, (i : Int) + (scanW (s.data.toList.drop i)).2.1) := by
    unfold scanAt; rw [if_pos ⟨by omega, by rw [← Lib.size_eq]; omega⟩, Int.toNat_natCast]
  rw [hR]
  have hc : classAt s.data.toList i = (firstC (s.data.toList.drop i), ((dec (s.data.toList.drop i)).2 : Int)) := by
    unfold classAt firstC; rw [if_pos ⟨by omega, by rw [← Lib.size_eq]; omega⟩, if_neg hne, Int.toNat_natCast]
  rw [hc] at c1
  have n1 := fun w => refName_any s i w hs (by omega)
  have r1 := fun w => refRun_any s i 5 w hs
  have hrl : runL s.data.toList i 5 = (i : Int) + (span (isCls 5) (s.data.toList.drop i) : Nat) := by
    unfold runL; rw [if_pos ⟨by omega, by rw [← Lib.size_eq]; omega⟩, Int.toNat_natCast]
  rw [hrl] at r1
  have hnl := span_le' inName (s.data.toList.drop i)
  have hsl := span_le' (isCls 5) (s.data.toList.drop i)
  rw [hlen] at hnl hsl
  have hpw : ∀ m, (s.extract i (i + m)).data.toList = (s.data.toList.drop i).take m := fun m => by
    rw [Lib.extract_data, Nat.add_sub_cancel_left]
  by_cases f3 : firstC (s.data.toList.drop i) = 3
  · have g1 := fun w => great_any s i w hs (by omega) f3
    have hk : (scanW (s.data.toList.drop i)).1 ≠ 0 := by
      have hpl : plainW (s.data.toList.drop i) = (2, nameLen (s.data.toList.drop i)) := by unfold plainW; rw [if_neg (by omega), if_neg (by omega), if_pos f3]
      have : ∀ (f : Nat) (l : List UInt8) (k : Int) (n a : Nat), k ≠ 0 → (goOn f l k n a).1 ≠ 0 := by
        intro f
        induction f with
        | zero => intro _ _ _ _ h; exact h
        | succ f ih =>
          intro l k n a h
          unfold goOn
          split
          · rename_i hc; exact ih _ _ _ _ hc.2.2
          · exact h
      exact this _ _ _ _ _ (by rw [hpl]; simp)
    rw [if_neg hk]
    rw [f3] at c1
    generalize scanW (s.data.toList.drop i) = R at *
    have C1 := Lib.hid c1; have GG := Lib.hid g1
    clear c1 g1 n1 r1 hrl hnl hsl hpw hR hc hk f3 hne hlen
    go_enter Tryd.func64, Tryd.ntmps64
    go_wp2_with (go_at_call 51; refine (C1.out _).mono ?_; rintro e w' ⟨rfl, rfl⟩)
    refine (GG.out _).mono ?_
    rintro e w1 ⟨rfl, hb⟩
    have HB := Lib.hid hb
    clear hb
    go_wp2_with fail
    go_ret2
    exact ⟨rfl, HB.out⟩
  have hp2 : (plainW (s.data.toList.drop i)).1 ≠ 2 := by
    unfold plainW
    split
    · simp
    split
    · unfold symK; (repeat' split) <;> simp
    split
    · simp only; split <;> simp
    · simp
  rw [scanW_plain _ hp2]
  clear hp2 hR
  by_cases f6 : firstC (s.data.toList.drop i) = 6
  · have hpl : plainW (s.data.toList.drop i) = (15, 1) := by unfold plainW; rw [if_pos f6]
    rw [hpl, if_neg (by simp)]
    rw [f6] at c1
    have C1 := Lib.hid c1
    clear c1 n1 r1 hrl hnl hsl hpw hc hpl f6 f3 hne hlen
    go_enter Tryd.func64, Tryd.ntmps64
    go_wp2_with (go_at_call 51; refine (C1.out _).mono ?_; rintro e w' ⟨rfl, rfl⟩)
    go_ret2
    exact ⟨rfl, Below.refl _ _⟩
  by_cases f5 : firstC (s.data.toList.drop i) = 5
  · have hpl : plainW (s.data.toList.drop i) = (symK ((s.data.toList.drop i).take (span (isCls 5) (s.data.toList.drop i))), span (isCls 5) (s.data.toList.drop i)) := by unfold plainW; rw [if_neg f6, if_pos f5]
    have hpos : 0 < span (isCls 5) (s.data.toList.drop i) := by
      have hd := dec_len _ hne
      have hcc : cls (dec (s.data.toList.drop i)).1 = 5 := by unfold firstC at f5; rw [if_neg hne] at f5; exact f5
      rw [span_yes _ _ hne (by unfold isCls; simpa using hcc)]
      omega
    have hsk : symK ((s.data.toList.drop i).take (span (isCls 5) (s.data.toList.drop i))) ≠ 0 := by
      unfold symK
      (repeat' split) <;> simp
    rw [hpl, if_neg hsk]
    rw [f5] at c1
    have o1 := fun w => operator_any (s.extract i (i + span (isCls 5) (s.data.toList.drop i))) w (by rw [ByteArray.size_extract]; omega)
    rw [hpw] at o1
    generalize span (isCls 5) (s.data.toList.drop i) = m at *
    generalize symK ((s.data.toList.drop i).take m) = sk at *
    have C1 := Lib.hid c1; have R1 := Lib.hid r1; have O1 := Lib.hid o1
    have hb4 : i + m ≤ s.size := by omega
    clear c1 n1 r1 o1 hrl hnl hsl hpw hc hpl f6 f5 f3 hne hlen hsk
    go_enter Tryd.func64, Tryd.ntmps64
    go_wp2_with (first | (go_at_call 51; refine (C1.out _).mono ?_; rintro e w' ⟨rfl, rfl⟩) | (go_at_call 79; refine (R1.out _).mono ?_; rintro e w' ⟨rfl, rfl⟩))
    refine (O1.out _).mono ?_
    rintro e w1 ⟨rfl, hb⟩
    have HB := Lib.hid hb
    clear hb
    go_wp2_with fail
    go_ret2
    exact ⟨rfl, HB.out⟩
  by_cases f2 : firstC (s.data.toList.drop i) = 2
  · have hpl : plainW (s.data.toList.drop i) = ((if resv ((s.data.toList.drop i).take (nameLen (s.data.toList.drop i))) then 9 else 1), nameLen (s.data.toList.drop i)) := by unfold plainW; rw [if_neg f6, if_neg f5, if_neg f3, if_pos f2]
    rw [hpl]
    rw [f2] at c1
    have a1 := fun b w hrow => amongWords_any b (s.extract i (i + nameLen (s.data.toList.drop i))) w hrow
    rw [hpw] at a1
    have hnl' : nameLen (s.data.toList.drop i) ≤ s.size - i := hnl
    generalize nameLen (s.data.toList.drop i) = m at *
    generalize resv ((s.data.toList.drop i).take m) = rv at *
    have C1 := Lib.hid c1; have N1 := Lib.hid n1; have A1 := Lib.hid a1
    clear c1 n1 r1 a1 hrl hnl hsl hpw hc hpl f6 f5 f3 f2 hne hlen
    have hb4 : i + m ≤ s.size := by omega
    have g4 : (i : Int) + m ≤ (s.size : Int) := by omega
    have g5 : ((i : Int) + m).toNat = i + m := by omega
    have g6 : (i : Int) ≤ (i : Int) + m := by omega
    have G5 := Lib.hid g5
    clear g5
    cases rv with
    | true =>
      rw [if_neg (by simp)]
      go_enter Tryd.func64, Tryd.ntmps64
      go_wp2_with (first | (go_at_call 51; refine (C1.out _).mono ?_; rintro e w' ⟨rfl, rfl⟩) | (go_at_call 50; refine (N1.out _).mono ?_; rintro e w' ⟨rfl, rfl⟩))
      have g5 := G5.out
      go_region_with (first | (go_at_call 82; refine (words_any _).mono ?_; rintro e w1 ⟨rfl, hrow, hb1⟩; have HROW := Lib.hid hrow; have HB1 := Lib.hid hb1; clear hrow hb1) | (go_at_call 81; refine (A1.out _ _ HROW.out).mono ?_; rintro e w' ⟨rfl, rfl⟩))
      all_goals go_wp2_with fail
      all_goals go_ret2
      all_goals exact ⟨rfl, (((Below.refl _ w).drew).trans (HB1.out.mono (Nat.le_refl _)))⟩
    | false =>
      rw [if_neg (by simp)]
      go_enter Tryd.func64, Tryd.ntmps64
      go_wp2_with (first | (go_at_call 51; refine (C1.out _).mono ?_; rintro e w' ⟨rfl, rfl⟩) | (go_at_call 50; refine (N1.out _).mono ?_; rintro e w' ⟨rfl, rfl⟩))
      have g5 := G5.out
      go_region_with (first | (go_at_call 82; refine (words_any _).mono ?_; rintro e w1 ⟨rfl, hrow, hb1⟩; have HROW := Lib.hid hrow; have HB1 := Lib.hid hb1; clear hrow hb1) | (go_at_call 81; refine (A1.out _ _ HROW.out).mono ?_; rintro e w' ⟨rfl, rfl⟩))
      all_goals go_wp2_with fail
      all_goals go_ret2
      all_goals exact ⟨rfl, (((Below.refl _ w).drew).trans (HB1.out.mono (Nat.le_refl _)))⟩
  have hpl : plainW (s.data.toList.drop i) = (0, 0) := by unfold plainW; rw [if_neg f6, if_neg f5, if_neg f3, if_neg f2]
  rw [hpl, if_pos rfl]
  generalize firstC (s.data.toList.drop i) = f at *
  have b3 : (f == 3) = false := beq_eq_false_iff_ne.2 f3
  have b2 : (f == 2) = false := beq_eq_false_iff_ne.2 f2
  have b5 : (f == 5) = false := beq_eq_false_iff_ne.2 f5
  have b6 : (f == 6) = false := beq_eq_false_iff_ne.2 f6
  have C1 := Lib.hid c1
  clear c1 n1 r1 hrl hnl hsl hpw hc hpl f6 f5 f3 f2 hne hlen
  go_enter Tryd.func64, Tryd.ntmps64
  go_wp2_with (go_at_call 51; refine (C1.out _).mono ?_; rintro e w' ⟨rfl, rfl⟩)
  go_ret2
  exact ⟨rfl, Below.refl _ _⟩

theorem scanAt_zero (l : List UInt8) (h : l ≠ []) : scanAt l 0 = if (scanW l).1 = 0 then (0, 0) else ((scanW l).1, ((scanW l).2.1 : Int)) := by
  have : 0 < l.length := List.length_pos_iff.2 h
  unfold scanAt
  rw [if_pos ⟨Int.le_refl _, by omega⟩]
  simp

set_option maxHeartbeats 1000000 in
theorem refKind_any (s : ByteArray) (w : World) (hs : s.size ≤ 1152921504606846976) :
    Calls Tryd.prog 49 #[.string s] w fun e w' => e = .returned (.int .i64 (kindW s.data.toList)) ∧ Below w.heap.size w w' := by
  have s1 := fun w => refScanW_any s 0 w hs
  have hz : s.size = s.data.toList.length := Lib.size_eq s
  by_cases h0 : s.data.toList = []
  · have hk : kindW s.data.toList = 0 := by rw [h0]; rfl
    rw [hk]
    have hz0 : s.size = 0 := by rw [hz, h0]; rfl
    have S1 := Lib.hid s1
    have hb : ((s.size : Int) == 0) = true := beq_iff_eq.2 (by omega)
    have hb2 : (s.size == 0) = true := beq_iff_eq.2 hz0
    clear s1 hk h0 hz hz0
    generalize scanAt s.data.toList 0 = R at *
    go_enter Tryd.func49, Tryd.ntmps49
    go_wp2_with fail
    refine (S1.out _).mono ?_
    rintro e w1 ⟨rfl, hb1⟩
    have HB := Lib.hid hb1
    clear hb1
    go_wp2_with fail
    go_ret
    exact ⟨rfl, HB.out⟩
  · have hpos : 0 < s.size := by rw [hz]; exact List.length_pos_iff.2 h0
    have hsz := scanAt_zero _ h0
    have hk : kindW s.data.toList = if (scanAt s.data.toList 0).2 = s.size then (scanAt s.data.toList 0).1 else 0 := by
      unfold kindW
      rw [hsz, ← hz]
      by_cases hk0 : (scanW s.data.toList).1 = 0
      · rw [if_pos hk0, hk0]
        simp
      · rw [if_neg hk0]
        by_cases e : (scanW s.data.toList).2.1 = s.size
        · rw [if_pos e, if_pos (by simp only; omega)]
        · rw [if_neg e, if_neg (by simp only; omega)]
    rw [hk]
    have hb : ((s.size : Int) == 0) = false := beq_eq_false_iff_ne.2 (by omega)
    have hb2 : (s.size == 0) = false := beq_eq_false_iff_ne.2 (by omega)
    have S1 := Lib.hid s1
    clear s1 hsz hk h0 hz
    generalize scanAt s.data.toList 0 = R at *
    by_cases e : R.2 = (s.size : Int)
    · rw [if_pos e]
      have hc : (R.2 != (s.size : Int)) = false := by simpa using e
      clear e
      go_enter Tryd.func49, Tryd.ntmps49
      go_wp2_with fail
      refine (S1.out _).mono ?_
      rintro e w1 ⟨rfl, hb1⟩
      have HB := Lib.hid hb1
      clear hb1
      go_wp2_with fail
      go_ret
      exact ⟨rfl, HB.out⟩
    · rw [if_neg e]
      have hc : (R.2 != (s.size : Int)) = true := by simpa using e
      clear e
      go_enter Tryd.func49, Tryd.ntmps49
      go_wp2_with fail
      refine (S1.out _).mono ?_
      rintro e w1 ⟨rfl, hb1⟩
      have HB := Lib.hid hb1
      clear hb1
      go_wp2_with fail
      go_ret
      exact ⟨rfl, HB.out⟩
end Go.Proofs.YtikkdkacflkifaaDoor

