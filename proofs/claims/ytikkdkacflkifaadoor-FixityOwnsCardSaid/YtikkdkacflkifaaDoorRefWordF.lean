/- DERIVED. The walks of the reference's Split and Apart. -/
import Derived.Test.YtikkdkacflkifaaDoorRefWordD
import Derived.Test.YtikkdkacflkifaaDoorWordE
set_option linter.unusedSimpArgs false
set_option linter.unusedVariables false
namespace Go.Proofs.YtikkdkacflkifaaDoor
open Go.RowKit

/-- How far the reference's loop over the points has come. -/
def SplitAt (l : List UInt8) (R : Int × Nat × Nat) (n last : Nat) : Prop :=
  ∃ k a, goOn l.length l k n a = R ∧ ((a = 0 ∧ last = 0) ∨ a = last + 1) ∧ n ≤ l.length ∧ (k = 2 ∨ k = 4 ∨ n = l.length)

theorem SplitAt.end {l : List UInt8} {R : Int × Nat × Nat} {n last : Nat} (h : SplitAt l R n last) (hn : ¬ n < l.length) (ha : 1 ≤ R.2.2) : last = R.2.2 - 1 := by
  obtain ⟨k, a, hR, hl, hle, _⟩ := h
  rw [goOn_end _ _ _ _ _ (by rintro ⟨_, h1, _⟩; have := point_lt h1; omega)] at hR
  subst hR
  simp only at *
  omega
theorem plainW_name (l : List UInt8) (h5 : ¬ firstC l = 5) (hq : qualK (plainW l).1 ≠ 0) : (plainW l).2 = nameLen l := by
  by_cases h6 : firstC l = 6
  · exfalso; apply hq; unfold plainW; rw [if_pos h6]; rfl
  by_cases h3 : firstC l = 3
  · unfold plainW; rw [if_neg h6, if_neg h5, if_pos h3]
  by_cases h2 : firstC l = 2
  · unfold plainW; rw [if_neg h6, if_neg h5, if_neg h3, if_pos h2]
  exfalso; apply hq; unfold plainW; rw [if_neg h6, if_neg h5, if_neg h3, if_neg h2]; rfl
theorem SplitAt.step {l : List UInt8} {R : Int × Nat × Nat} {n last : Nat} (h : SplitAt l R n last) (hn : n < l.length) (hR : R.2.1 = l.length) :
    pointAt l n = true ∧ ((firstC (l.drop (n + 1)) = 5 ∧ R.2.2 - 1 = n) ∨ (¬ firstC (l.drop (n + 1)) = 5 ∧ SplitAt l R (n + 1 + nameLen (l.drop (n + 1))) n)) := by
  obtain ⟨k, a, hg, hl, hle, hk⟩ := h
  by_cases hc : (k = 2 ∨ k = 4) ∧ pointAt l n = true ∧ qualK (plainW (l.drop (n + 1))).1 ≠ 0
  · have hs := (goOn_step l k n a hc).symm.trans hg
    have hpl := plainW_le (l.drop (n + 1))
    rw [List.length_drop] at hpl
    refine ⟨hc.2.1, ?_⟩
    by_cases f5 : firstC (l.drop (n + 1)) = 5
    · left
      refine ⟨f5, ?_⟩
      have hp : plainW (l.drop (n + 1)) = (symK ((l.drop (n + 1)).take (span (isCls 5) (l.drop (n + 1)))), span (isCls 5) (l.drop (n + 1))) := by unfold plainW; rw [if_neg (by omega), if_pos f5]
      have h4 : qualK (plainW (l.drop (n + 1))).1 ≠ 4 ∧ qualK (plainW (l.drop (n + 1))).1 ≠ 2 := by
        rw [hp]
        unfold symK
        (repeat' split) <;> simp [qualK]
      rw [goOn_end _ _ _ _ _ (by rintro ⟨h1, _⟩; omega)] at hs
      rw [← hs]
      simp
    · right
      refine ⟨f5, qualK (plainW (l.drop (n + 1))).1, n + 1, ?_, .inr rfl, ?_, ?_⟩
      · have hm := plainW_name _ f5 hc.2.2
        rw [← hm]; exact hs
      · have := span_le' inName (l.drop (n + 1)); rw [List.length_drop] at this; unfold nameLen; omega
      · have hm := plainW_name _ f5 hc.2.2
        by_cases h4 : qualK (plainW (l.drop (n + 1))).1 = 4
        · exact .inr (.inl h4)
        · right; right
          have := qualK_qual hc.2.2
          rw [goOn_end _ _ _ _ _ (by rintro ⟨h1, _⟩; unfold qual at this; omega)] at hs
          rw [← hs] at hR
          rw [← hm]; exact hR
  · rw [goOn_end _ _ _ _ _ hc] at hg
    subst hg
    simp only at hR
    omega

theorem goOn_kinds : ∀ (f : Nat) (l : List UInt8) (k : Int) (n a : Nat), (goOn f l k n a).1 = k ∨ qual (goOn f l k n a).1
  | 0, _, _, _, _ => .inl rfl
  | f + 1, l, k, n, a => by
    unfold goOn
    split
    · rename_i hc
      rcases goOn_kinds f l (qualK (plainW (l.drop (n + 1))).1) (n + 1 + (plainW (l.drop (n + 1))).2) (n + 1) with h | h
      · right; rw [h]; exact qualK_qual hc.2.2
      · exact .inr h
    · exact .inl rfl
theorem scanW_kind (l : List UInt8) : (scanW l).1 = (plainW l).1 ∨ qual (scanW l).1 := goOn_kinds _ _ _ _ _
theorem kindW_kind (l : List UInt8) : kindW l = 0 ∨ kindW l = 9 ∨ kindW l = 10 ∨ kindW l = 15 ∨ qual (kindW l) ∨ kindW l = 1 ∨ kindW l = 2 ∨ kindW l = 5 ∨ kindW l = 6 := by
  unfold kindW
  split
  · rcases scanW_kind l with h | h
    · rw [h]
      have := plainW_kind l
      unfold qual
      omega
    · unfold qual at *; omega
  · exact .inl rfl
theorem qual_great (l : List UInt8) (h : qual (scanW l).1) : (plainW l).1 = 2 ∧ firstC l = 3 := by
  have h2 : (plainW l).1 = 2 := by
    false_or_by_contra
    rename_i hn
    rw [scanW_plain l hn] at h
    have := plainW_kind l
    unfold qual at h
    simp only at h
    omega
  refine ⟨h2, ?_⟩
  unfold plainW at h2
  split at h2
  · simp at h2
  split at h2
  · unfold symK at h2
    revert h2
    (repeat' split) <;> simp
  split at h2
  · assumption
  split at h2
  · revert h2
    simp only
    split <;> simp
  · simp at h2

set_option maxHeartbeats 4000000 in
theorem refSplit_any (s : ByteArray) (w : World) (hs : s.size ≤ 1152921504606846976) :
    Calls Tryd.prog 33 #[.string s] w fun e w' => e = .returned (splitV s (splitW s.data.toList)) ∧ Below w.heap.size w w' := by
  have k1 := fun w => refKind_any s w hs
  have hz : s.size = s.data.toList.length := Lib.size_eq s
  have hsp : splitW s.data.toList = if qual (kindW s.data.toList) then some ((scanW s.data.toList).2.2 - 1, (scanW s.data.toList).2.2) else if kindW s.data.toList = 1 ∨ kindW s.data.toList = 2 ∨ kindW s.data.toList = 5 ∨ kindW s.data.toList = 6 then some (0, 0) else none := by
    unfold splitW qual; rfl
  rw [hsp]
  by_cases hq : qual (kindW s.data.toList)
  · rw [if_pos hq]
    have hR : (scanW s.data.toList).2.1 = s.data.toList.length := by
      unfold kindW at hq
      split at hq
      · assumption
      · unfold qual at hq; omega
    have hk : kindW s.data.toList = (scanW s.data.toList).1 := by unfold kindW; rw [if_pos hR]
    have hah := scan_ahead s.data.toList (by rw [← hk]; exact hq)
    obtain ⟨g1, g2⟩ := qual_great s.data.toList (by rw [← hk]; exact hq)
    have hst : SplitAt s.data.toList (scanW s.data.toList) (nameLen s.data.toList) 0 := by
      refine ⟨2, 0, ?_, .inl ⟨rfl, rfl⟩, span_le' _ _, .inl rfl⟩
      unfold scanW
      rw [g1]
      have : (plainW s.data.toList).2 = nameLen s.data.toList := by unfold plainW; rw [if_neg (by omega), if_neg (by omega), if_pos g2]
      rw [this]
    have n0 := fun w => refName_any s 0 w hs (Nat.zero_le _)
    simp only [List.drop_zero, Nat.zero_add] at n0
    have hgd : ∀ (n : Nat) (h : n < s.size), s.data.toList.getD n 0 = s[n] := fun n h => by
      rw [List.getD_eq_getElem?_getD, Lib.data_getElem? s n h]; rfl
    generalize kindW s.data.toList = K at *
    generalize scanW s.data.toList = R at *
    obtain ⟨r1, r2, r3⟩ := R
    simp only at hk hR hah ⊢
    obtain ⟨m, rfl⟩ : ∃ m, r3 = m + 1 := ⟨r3 - 1, by omega⟩
    rw [Nat.add_sub_cancel]
    unfold splitV
    have K1 := Lib.hid k1; have HS := Lib.hid hst; have N0 := Lib.hid n0; have HZ := Lib.hid hz; have HR := Lib.hid hR; have HGD := Lib.hid hgd
    have hm : m + 1 ≤ s.size := by omega
    have hnl := Lib.hid (span_le' inName s.data.toList)
    clear k1 hst n0 hz hR hgd hsp hk g1 g2
    have hnl' : Hid (nameLen s.data.toList ≤ s.data.toList.length) := hnl
    clear hnl
    generalize nameLen s.data.toList = nl at *
    unfold qual at hq
    have tail : ∀ (wr : World), Below w.heap.size w wr → True := fun _ _ => trivial
    clear tail
    rcases hq with rfl | rfl | rfl | rfl
    all_goals
      go_enter Tryd.func33, Tryd.ntmps33
      go_wp2_with fail
      refine (K1.out _).mono ?_
      rintro e w1 ⟨rfl, hb1⟩
      have HB1 := Lib.hid hb1
      clear hb1
      go_wp2_with (go_at_call 50; refine (N0.out _).mono ?_; rintro e w' ⟨rfl, rfl⟩)
      go_loopw [5, 6] (fun lv iv wr => ∃ (last n : Nat), lv = .int .i64 last ∧ iv = .int .i64 n ∧ n ≤ s.size ∧ Hid (SplitAt s.data.toList (r1, r2, m + 1) n last) ∧ Hid (Below w.heap.size w wr)) (fun _ iv _ => s.size - (intOf iv).toNat)
      case atStart => exact ⟨0, nl, rfl, rfl, by have := hnl'.out; rw [← HZ.out] at this; exact this, HS, HB1⟩
      case round =>
        obtain ⟨last, n, rfl, rfl, hn, hS, hB⟩ := hrel
        by_cases hlt : n < s.size
        · obtain ⟨hpt, hst⟩ := hS.out.step (by rw [← HZ.out]; exact hlt) HR.out
          have hbb : ((s[n].toNat : Int) == 46) = true := by
            unfold pointAt at hpt
            rw [HGD.out n hlt] at hpt
            simp only [Bool.and_eq_true, beq_iff_eq, decide_eq_true_eq] at hpt
            rw [hpt.1]; rfl
          have hdlen : (s.data.toList.drop (n + 1)).length = s.size - (n + 1) := by rw [List.length_drop, ← HZ.out]
          have hca : classAt s.data.toList ((n : Int) + 1) = (firstC (s.data.toList.drop (n + 1)), (classAt s.data.toList ((n : Int) + 1)).2) := by
            unfold classAt firstC
            rw [show ((n : Int) + 1).toNat = n + 1 from by omega]
            by_cases h : n + 1 < s.size
            · rw [if_pos ⟨by omega, by rw [← HZ.out]; omega⟩, if_neg (drop_ne (by rw [← HZ.out]; exact h))]
            · rw [if_neg (by rw [← HZ.out]; omega), if_pos (List.drop_eq_nil_of_le (by rw [← HZ.out]; omega))]
          have c1 := fun w => refClassAt_any s ((n : Int) + 1) w hs
          rw [hca] at c1
          have n1 := fun w => refName_any s (n + 1) w hs (by omega)
          rw [show ((n + 1 : Nat) : Int) = (n : Int) + 1 from by omega] at n1
          have hnl2 := span_le' inName (s.data.toList.drop (n + 1))
          rw [hdlen] at hnl2
          have hnl3 : nameLen (s.data.toList.drop (n + 1)) ≤ s.size - (n + 1) := hnl2
          generalize (classAt s.data.toList ((n : Int) + 1)).2 = c2 at *
          generalize firstC (s.data.toList.drop (n + 1)) = f at *
          generalize nameLen (s.data.toList.drop (n + 1)) = q at *
          have C1 := Lib.hid c1; have N1 := Lib.hid n1; have HST := Lib.hid hst
          clear c1 n1 hst hca hpt hdlen hnl2
          rcases HST.out with ⟨rfl, e2⟩ | ⟨hf, hS2⟩
          · simp only [Nat.add_sub_cancel] at e2
            subst e2
            clear HST
            go_wp2_with (go_at_call 51; refine (C1.out _).mono ?_; rintro e w' ⟨rfl, rfl⟩)
            have g1 : IntKind.i64.wrap ((m : Int) + 1) = (m : Int) + 1 := IntWalk.i64_in _ (by omega)
            have g2 : (0 : Int) ≤ (m : Int) + 1 := by omega
            have g3 : ((m : Int) + 1).toNat = m + 1 := by omega
            have g4 : (m : Int) + 1 ≤ (s.size : Int) := by omega
            have g5 : (m : Int) ≤ (s.size : Int) := by omega
            go_quiet (fail)
            clear g1 g2 g3 g4 g5
            go_wp2_with fail
            go_ret3
            exact ⟨rfl, below_drewN hB.out _⟩
          · have hfb : (f == 5) = false := beq_eq_false_iff_ne.2 hf
            have HS2 := Lib.hid hS2
            clear hf hS2 HST
            go_wp2_with (first | (go_at_call 51; refine (C1.out _).mono ?_; rintro e w' ⟨rfl, rfl⟩) | (go_at_call 50; refine (N1.out _).mono ?_; rintro e w' ⟨rfl, rfl⟩))
            go_roundw
            case rel => exact ⟨n, n + 1 + q, rfl, by go_num, by omega, HS2, hB⟩
            case measure => simp [intOf]; omega
        · have e2 := hS.out.end (by rw [← HZ.out]; exact hlt) (by simp)
          simp only [Nat.add_sub_cancel] at e2
          subst e2
          go_wp2_with fail
          have g1 : IntKind.i64.wrap ((last : Int) + 1) = (last : Int) + 1 := IntWalk.i64_in _ (by omega)
          have g2 : (0 : Int) ≤ (last : Int) + 1 := by omega
          have g3 : ((last : Int) + 1).toNat = last + 1 := by omega
          have g4 : (last : Int) + 1 ≤ (s.size : Int) := by omega
          have g5 : (last : Int) ≤ (s.size : Int) := by omega
          go_quiet (fail)
          clear g1 g2 g3 g4 g5
          go_wp2_with fail
          go_ret3
          exact ⟨rfl, below_drewN hB.out _⟩
  · rw [if_neg hq]
    have hk := kindW_kind s.data.toList
    generalize kindW s.data.toList = K at *
    have K1 := Lib.hid k1
    clear k1 hsp hz
    by_cases hp : K = 1 ∨ K = 2 ∨ K = 5 ∨ K = 6
    · rw [if_pos hp]
      have hv : splitV s (some (0, 0)) = .tuple #[.string ⟨#[]⟩, .string s, .int .i64 0] := by
        unfold splitV; simp only; rw [ext_nil, ByteArray.extract_zero_size]
      rw [hv]
      clear hv hk hq
      rcases hp with rfl | rfl | rfl | rfl
      all_goals
        go_enter Tryd.func33, Tryd.ntmps33
        go_wp2_with fail
        refine (K1.out _).mono ?_
        rintro e w1 ⟨rfl, hb1⟩
        have HB1 := Lib.hid hb1
        clear hb1
        go_wp2_with fail
        go_ret3
        exact ⟨rfl, HB1.out⟩
    · rw [if_neg hp]
      unfold splitV
      have hk2 : K = 0 ∨ K = 9 ∨ K = 10 ∨ K = 15 := by
        rcases hk with h | h | h | h | h | h | h | h | h
        · exact .inl h
        · exact .inr (.inl h)
        · exact .inr (.inr (.inl h))
        · exact .inr (.inr (.inr h))
        · exact absurd h hq
        all_goals (exfalso; omega)
      clear hk hq hp
      rcases hk2 with rfl | rfl | rfl | rfl
      all_goals
        go_enter Tryd.func33, Tryd.ntmps33
        go_wp2_with fail
        refine (K1.out _).mono ?_
        rintro e w1 ⟨rfl, hb1⟩
        have HB1 := Lib.hid hb1
        clear hb1
        go_wp2_with fail
        go_ret3
        exact ⟨rfl, HB1.out⟩

end Go.Proofs.YtikkdkacflkifaaDoor
