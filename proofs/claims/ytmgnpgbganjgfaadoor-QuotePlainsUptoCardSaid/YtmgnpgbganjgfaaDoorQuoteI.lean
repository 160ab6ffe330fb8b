/- DERIVED. The walk of escape: the caret; all of escape. -/
import Derived.Test.YtmgnpgbganjgfaaDoorQuoteH
set_option linter.unusedSimpArgs false
set_option linter.unusedVariables false
namespace Go.Proofs.YtmgnpgbganjgfaaDoor
open Go.RowKit

set_option maxHeartbeats 4000000 in
theorem escape_caret (W0 : World) (b : Nat) (s : ByteArray) (k : Nat) (text : Bool) (out : List Int) (gaps : List (Nat × Nat)) (vo vg : Value) (w : World) (hs : s.size ≤ 16777216) (hk : k < s.size) (hT : Tabs5 W0) (h : Rd W0 b s k text out gaps vo vg w) (hk1 : k + 1 < s.size) (hc : s[k + 1] = 94) (hk2 : k + 1 + 1 < s.size) (hd : 64 ≤ s[k + 1 + 1].toNat ∧ s[k + 1 + 1].toNat ≤ 95) :
    Calls Tryd.prog 49 #[.pointer (some ⟨b, 0, none⟩)] w (Read W0 b s text out gaps k (some ((s[k + 1 + 1].toNat : Int) - 64, k + 1 + 2))) := by
  obtain ⟨c0, c1, c2, c3, c4, hz⟩ := h.cells
  have hz1 := hz 1
  have HR1 := Lib.hid (h.go ((k : Int) + 1))
  have B1 := Lib.hid fun w (h : Rd W0 b s ((k : Int) + 1) text out gaps vo vg w) => byteAt_any W0 b s (k + 1) 0 text out gaps vo vg w hs (by omega) (by omega) (by rw [show ((k + 1 : Nat) : Int) = (k : Int) + 1 from by omega]; exact h)
  have HB := Lib.hid (byteN_at s (k + 1) hk1)
  have S1 := Lib.hid fun w => sign_any s[k + 1] w
  have hsg : signP s[k + 1] = none := by rw [hc]; decide
  rw [hsg] at S1
  clear hsg
  obtain ⟨y38, n38⟩ := u8K s[k + 1] 38 38 rfl (by decide)
  have q38 := n38 (by rw [hc]; decide)
  clear y38 n38
  obtain ⟨y94, n94⟩ := u8K s[k + 1] 94 94 rfl (by decide)
  have q94 := y94 hc
  clear y94 n94
  clear hc
  have B2 := Lib.hid fun w (h : Rd W0 b s ((k : Int) + 1) text out gaps vo vg w) => byteAt_any W0 b s (k + 1) 1 text out gaps vo vg w hs (by omega) (by omega) (by rw [show ((k + 1 : Nat) : Int) = (k : Int) + 1 from by omega]; exact h)
  rw [byteN_at s (k + 1 + 1) hk2] at B2
  have f1 : decide ((64 : Int) ≤ s[k + 1 + 1].toNat) = true := decide_eq_true (by omega)
  have f2 : decide ((s[k + 1 + 1].toNat : Int) ≤ 95) = true := decide_eq_true (by omega)
  have f3 : decide (64 ≤ s[k + 1 + 1].toNat) = true := decide_eq_true hd.1
  have f4 : decide (s[k + 1 + 1].toNat ≤ 95) = true := decide_eq_true hd.2
  have z1 : IntKind.u8.wrap ((s[k + 1 + 1].toNat : Int) - 64) = (s[k + 1 + 1].toNat : Int) - 64 := IntWalk.u8_in _ (by omega)
  have z2 : wrap64 ((s[k + 1 + 1].toNat : Int) - 64) = (s[k + 1 + 1].toNat : Int) - 64 := by unfold wrap64; omega
  have z3 : IntKind.i64.wrap ((s[k + 1 + 1].toNat : Int) - 64) = (s[k + 1 + 1].toNat : Int) - 64 := IntWalk.i64_in _ (by omega)
  have z4 : IntKind.i64.wrap ((k : Int) + 1 + 2 - 1) = (k : Int) + 1 + 1 := by rw [IntWalk.i64_in _ (by omega)]; omega
  have z5 : (0 : Int) ≤ (k : Int) + 1 + 1 := by omega
  have z6 : (k : Int) + 1 + 1 < s.size := by omega
  have z7 : ((k : Int) + 1 + 1).toNat = k + 1 + 1 := by omega
  clear h c0 c2 c3 c4 hz
  unfold Read
  go_enter Tryd.func49, Tryd.ntmps49
  go_wp2_with fail
  generalize w.setCell ⟨b, 1, none⟩ (.int .i64 ((k : Int) + 1)) = w1 at *
  refine (B1.out _ HR1.out).mono ?_
  rintro e w2 ⟨rfl, hR2⟩
  have HR2 := Lib.hid (show Rd W0 b s ((k : Int) + 1) text out gaps vo vg w2 from by rw [show (k : Int) + 1 = ((k + 1 : Nat) : Int) from by omega]; exact hR2)
  clear hR2
  simp only [Nat.add_zero, HB.out]
  go_wp2_with fail
  refine (S1.out _).mono ?_
  rintro e w3 ⟨rfl, rfl⟩
  unfold signV
  obtain ⟨c0, c1, c2, _, _, hz⟩ := HR2.out.cells
  have hz1 := hz 1
  clear hz
  go_wp2_with fail
  refine (B2.out _ HR2.out).mono ?_
  rintro e w4 ⟨rfl, hR4⟩
  have HR4 := Lib.hid (show Rd W0 b s ((k : Int) + 1) text out gaps vo vg w4 from by rw [show (k : Int) + 1 = ((k + 1 : Nat) : Int) from by omega]; exact hR4)
  clear hR4
  go_wp2_with fail
  refine (B2.out _ HR4.out).mono ?_
  rintro e w5 ⟨rfl, hR5⟩
  have HR5 := Lib.hid (show Rd W0 b s ((k : Int) + 1) text out gaps vo vg w5 from by rw [show (k : Int) + 1 = ((k + 1 : Nat) : Int) from by omega]; exact hR5)
  clear hR5
  obtain ⟨_, c1, _, _, _, hz⟩ := HR5.out.cells
  have hz1 := hz 1
  clear hz c0 c2
  have HR6 := Lib.hid (HR5.out.go ((k : Int) + 1 + 2))
  go_wp2_with fail
  obtain ⟨c0, c1, _, _, _, _⟩ := HR6.out.cells
  go_quiet (fail)
  go_wp2_with fail
  go_ret
  exact ⟨by first | rfl | simp [z1, z2, z3], _, _, by have := HR6.out.drew 1; rw [show ((k + 1 + 2 : Nat) : Int) = (k : Int) + 1 + 2 from by omega]; exact HR6.out.drew _⟩
set_option maxHeartbeats 4000000 in
theorem escape_caretA (W0 : World) (b : Nat) (s : ByteArray) (k : Nat) (text : Bool) (out : List Int) (gaps : List (Nat × Nat)) (vo vg : Value) (w : World) (hs : s.size ≤ 16777216) (hk : k < s.size) (hT : Tabs5 W0) (h : Rd W0 b s k text out gaps vo vg w) (hk1 : k + 1 < s.size) (hc : s[k + 1] = 94) (hd : byteN s.data.toList (k + 1 + 1) < 64) :
    Calls Tryd.prog 49 #[.pointer (some ⟨b, 0, none⟩)] w (Read W0 b s text out gaps k none) := by
  obtain ⟨c0, c1, c2, c3, c4, hz⟩ := h.cells
  have hz1 := hz 1
  have HR1 := Lib.hid (h.go ((k : Int) + 1))
  have B1 := Lib.hid fun w (h : Rd W0 b s ((k : Int) + 1) text out gaps vo vg w) => byteAt_any W0 b s (k + 1) 0 text out gaps vo vg w hs (by omega) (by omega) (by rw [show ((k + 1 : Nat) : Int) = (k : Int) + 1 from by omega]; exact h)
  have HB := Lib.hid (byteN_at s (k + 1) hk1)
  have S1 := Lib.hid fun w => sign_any s[k + 1] w
  have hsg : signP s[k + 1] = none := by rw [hc]; decide
  rw [hsg] at S1
  clear hsg
  obtain ⟨y38, n38⟩ := u8K s[k + 1] 38 38 rfl (by decide)
  have q38 := n38 (by rw [hc]; decide)
  clear y38 n38
  obtain ⟨y94, n94⟩ := u8K s[k + 1] 94 94 rfl (by decide)
  have q94 := y94 hc
  clear y94 n94
  obtain ⟨y111, n111⟩ := u8K s[k + 1] 111 111 rfl (by decide)
  have q111 := n111 (by rw [hc]; decide)
  clear y111 n111
  obtain ⟨y120, n120⟩ := u8K s[k + 1] 120 120 rfl (by decide)
  have q120 := n120 (by rw [hc]; decide)
  clear y120 n120
  have hn0 : (nameP (s[k + 1] :: s.data.toList.drop (k + 1 + 1))).2 = 0 := names_not _ _ (by rw [hc]; decide)
  have d1 : decide (48 ≤ s[k + 1].toNat) = true := by rw [hc]; rfl
  have d2 : decide ((48 : Int) ≤ s[k + 1].toNat) = true := by rw [hc]; rfl
  have d3 : decide (s[k + 1].toNat ≤ 57) = false := by rw [hc]; rfl
  have d4 : decide ((s[k + 1].toNat : Int) ≤ 57) = false := by rw [hc]; rfl
  clear hc
  have B2 := Lib.hid fun w (h : Rd W0 b s ((k : Int) + 1) text out gaps vo vg w) => byteAt_any W0 b s (k + 1) 1 text out gaps vo vg w hs (by omega) (by omega) (by rw [show ((k + 1 : Nat) : Int) = (k : Int) + 1 from by omega]; exact h)
  have f1 : decide ((64 : Int) ≤ byteN s.data.toList (k + 1 + 1)) = false := decide_eq_false (by omega)
  clear hd
  generalize byteN s.data.toList (k + 1 + 1) = y at *
  have b1 : (0 : Int) ≤ (k : Int) + 1 := by omega
  have b2 : (k : Int) + 1 ≤ s.size := by omega
  have b3 : ((k : Int) + 1).toNat = k + 1 := by omega
  have t1 : decide ((k : Int) + 1 < s.size) = true := by simp; omega
  have n1 := fun (w : World) (hT : Tabs5 w) => named_any (s.extract (k + 1) s.size) w (by simp only [ByteArray.size_extract]; omega) hT
  rw [cut_data] at n1
  have HT := Lib.hid hT
  have r0 := fun w' (h : Rd W0 b s ((k : Int) + 1) text out gaps vo vg w') => h.cells.1
  have r1 := fun w' (h : Rd W0 b s ((k : Int) + 1) text out gaps vo vg w') => h.cells.2.1
  rw [drop_at s (k + 1) hk1] at n1
  rw [hn0] at n1
  generalize (nameP (s[k + 1] :: s.data.toList.drop (k + 1 + 1))).1 = nm at *
  have t9 : decide ((0 : Int) < ((0 : Nat) : Int)) = false := by decide
  have N1 := Lib.hid n1
  clear n1 hT
  clear h c0 c2 c3 c4 hz
  unfold Read
  go_enter Tryd.func49, Tryd.ntmps49
  go_wp2_with fail
  generalize w.setCell ⟨b, 1, none⟩ (.int .i64 ((k : Int) + 1)) = w1 at *
  refine (B1.out _ HR1.out).mono ?_
  rintro e w2 ⟨rfl, hR2⟩
  have HR2 := Lib.hid (show Rd W0 b s ((k : Int) + 1) text out gaps vo vg w2 from by rw [show (k : Int) + 1 = ((k + 1 : Nat) : Int) from by omega]; exact hR2)
  clear hR2
  simp only [Nat.add_zero, HB.out]
  go_wp2_with fail
  refine (S1.out _).mono ?_
  rintro e w3 ⟨rfl, rfl⟩
  unfold signV
  obtain ⟨c0, c1, c2, _, _, hz⟩ := HR2.out.cells
  have hz1 := hz 1
  clear hz
  go_wp2_with fail
  refine (B2.out _ HR2.out).mono ?_
  rintro e w4 ⟨rfl, hR4⟩
  have HR4 := Lib.hid (show Rd W0 b s ((k : Int) + 1) text out gaps vo vg w4 from by rw [show (k : Int) + 1 = ((k + 1 : Nat) : Int) from by omega]; exact hR4)
  clear hR4
  obtain ⟨c0, c1, c2, _, _, hz⟩ := HR4.out.cells
  have hz1 := hz 1
  clear hz
  go_wp2_with fail
  go_quiet (fail)
  rename_i nq
  have HRQ := Lib.hid (HR4.out.drew nq)
  generalize w4.drewN nq = w5 at *
  clear c0 c1 c2 hz1
  have HS0 := Lib.hid HRQ.out.drew1
  go_wp2_with fail
  go_region_held3 (fun w' => Rd W0 b s ((k : Int) + 1) text out gaps vo vg w')
    (first
      | with_reducible exact HS1.out
      | with_reducible exact HS0.out)
    (first
      | (go_at_call 61; refine (N1.out _ (HT.out.below0 HS0.out.2.2.1)).mono ?_; rintro e w6 ⟨rfl, hb6⟩; have HS1 := Lib.hid (HS0.out.keep hb6)))
  go_wp2_with fail
  refine (fail_any _ _ _ _).mono ?_
  rintro e w8 ⟨rfl, rfl⟩
  go_wp2_with fail
  exact ⟨rfl, rfl, _, _, _, HS1.out⟩
set_option maxHeartbeats 4000000 in
theorem escape_caretB (W0 : World) (b : Nat) (s : ByteArray) (k : Nat) (text : Bool) (out : List Int) (gaps : List (Nat × Nat)) (vo vg : Value) (w : World) (hs : s.size ≤ 16777216) (hk : k < s.size) (hT : Tabs5 W0) (h : Rd W0 b s k text out gaps vo vg w) (hk1 : k + 1 < s.size) (hc : s[k + 1] = 94) (hd : 95 < byteN s.data.toList (k + 1 + 1)) :
    Calls Tryd.prog 49 #[.pointer (some ⟨b, 0, none⟩)] w (Read W0 b s text out gaps k none) := by
  obtain ⟨c0, c1, c2, c3, c4, hz⟩ := h.cells
  have hz1 := hz 1
  have HR1 := Lib.hid (h.go ((k : Int) + 1))
  have B1 := Lib.hid fun w (h : Rd W0 b s ((k : Int) + 1) text out gaps vo vg w) => byteAt_any W0 b s (k + 1) 0 text out gaps vo vg w hs (by omega) (by omega) (by rw [show ((k + 1 : Nat) : Int) = (k : Int) + 1 from by omega]; exact h)
  have HB := Lib.hid (byteN_at s (k + 1) hk1)
  have S1 := Lib.hid fun w => sign_any s[k + 1] w
  have hsg : signP s[k + 1] = none := by rw [hc]; decide
  rw [hsg] at S1
  clear hsg
  obtain ⟨y38, n38⟩ := u8K s[k + 1] 38 38 rfl (by decide)
  have q38 := n38 (by rw [hc]; decide)
  clear y38 n38
  obtain ⟨y94, n94⟩ := u8K s[k + 1] 94 94 rfl (by decide)
  have q94 := y94 hc
  clear y94 n94
  obtain ⟨y111, n111⟩ := u8K s[k + 1] 111 111 rfl (by decide)
  have q111 := n111 (by rw [hc]; decide)
  clear y111 n111
  obtain ⟨y120, n120⟩ := u8K s[k + 1] 120 120 rfl (by decide)
  have q120 := n120 (by rw [hc]; decide)
  clear y120 n120
  have hn0 : (nameP (s[k + 1] :: s.data.toList.drop (k + 1 + 1))).2 = 0 := names_not _ _ (by rw [hc]; decide)
  have d1 : decide (48 ≤ s[k + 1].toNat) = true := by rw [hc]; rfl
  have d2 : decide ((48 : Int) ≤ s[k + 1].toNat) = true := by rw [hc]; rfl
  have d3 : decide (s[k + 1].toNat ≤ 57) = false := by rw [hc]; rfl
  have d4 : decide ((s[k + 1].toNat : Int) ≤ 57) = false := by rw [hc]; rfl
  clear hc
  have B2 := Lib.hid fun w (h : Rd W0 b s ((k : Int) + 1) text out gaps vo vg w) => byteAt_any W0 b s (k + 1) 1 text out gaps vo vg w hs (by omega) (by omega) (by rw [show ((k + 1 : Nat) : Int) = (k : Int) + 1 from by omega]; exact h)
  have f1 : decide ((64 : Int) ≤ byteN s.data.toList (k + 1 + 1)) = true := decide_eq_true (by omega)
  have f2 : decide (byteN s.data.toList (k + 1 + 1) ≤ 95) = false := decide_eq_false (by omega)
  clear hd
  generalize byteN s.data.toList (k + 1 + 1) = y at *
  have b1 : (0 : Int) ≤ (k : Int) + 1 := by omega
  have b2 : (k : Int) + 1 ≤ s.size := by omega
  have b3 : ((k : Int) + 1).toNat = k + 1 := by omega
  have t1 : decide ((k : Int) + 1 < s.size) = true := by simp; omega
  have n1 := fun (w : World) (hT : Tabs5 w) => named_any (s.extract (k + 1) s.size) w (by simp only [ByteArray.size_extract]; omega) hT
  rw [cut_data] at n1
  have HT := Lib.hid hT
  have r0 := fun w' (h : Rd W0 b s ((k : Int) + 1) text out gaps vo vg w') => h.cells.1
  have r1 := fun w' (h : Rd W0 b s ((k : Int) + 1) text out gaps vo vg w') => h.cells.2.1
  rw [drop_at s (k + 1) hk1] at n1
  rw [hn0] at n1
  generalize (nameP (s[k + 1] :: s.data.toList.drop (k + 1 + 1))).1 = nm at *
  have t9 : decide ((0 : Int) < ((0 : Nat) : Int)) = false := by decide
  have N1 := Lib.hid n1
  clear n1 hT
  clear h c0 c2 c3 c4 hz
  unfold Read
  go_enter Tryd.func49, Tryd.ntmps49
  go_wp2_with fail
  generalize w.setCell ⟨b, 1, none⟩ (.int .i64 ((k : Int) + 1)) = w1 at *
  refine (B1.out _ HR1.out).mono ?_
  rintro e w2 ⟨rfl, hR2⟩
  have HR2 := Lib.hid (show Rd W0 b s ((k : Int) + 1) text out gaps vo vg w2 from by rw [show (k : Int) + 1 = ((k + 1 : Nat) : Int) from by omega]; exact hR2)
  clear hR2
  simp only [Nat.add_zero, HB.out]
  go_wp2_with fail
  refine (S1.out _).mono ?_
  rintro e w3 ⟨rfl, rfl⟩
  unfold signV
  obtain ⟨c0, c1, c2, _, _, hz⟩ := HR2.out.cells
  have hz1 := hz 1
  clear hz
  go_wp2_with fail
  refine (B2.out _ HR2.out).mono ?_
  rintro e w4 ⟨rfl, hR4⟩
  have HR4 := Lib.hid (show Rd W0 b s ((k : Int) + 1) text out gaps vo vg w4 from by rw [show (k : Int) + 1 = ((k + 1 : Nat) : Int) from by omega]; exact hR4)
  clear hR4
  go_wp2_with fail
  refine (B2.out _ HR4.out).mono ?_
  rintro e w5 ⟨rfl, hR5⟩
  have HR5 := Lib.hid (show Rd W0 b s ((k : Int) + 1) text out gaps vo vg w5 from by rw [show (k : Int) + 1 = ((k + 1 : Nat) : Int) from by omega]; exact hR5)
  clear hR5
  obtain ⟨c0, c1, c2, _, _, hz⟩ := HR5.out.cells
  have hz1 := hz 1
  clear hz
  go_wp2_with fail
  go_quiet (fail)
  rename_i nq
  have HRQ := Lib.hid (HR5.out.drew nq)
  generalize w5.drewN nq = w5 at *
  clear c0 c1 c2 hz1
  have HS0 := Lib.hid HRQ.out.drew1
  go_wp2_with fail
  go_region_held3 (fun w' => Rd W0 b s ((k : Int) + 1) text out gaps vo vg w')
    (first
      | with_reducible exact HS1.out
      | with_reducible exact HS0.out)
    (first
      | (go_at_call 61; refine (N1.out _ (HT.out.below0 HS0.out.2.2.1)).mono ?_; rintro e w6 ⟨rfl, hb6⟩; have HS1 := Lib.hid (HS0.out.keep hb6)))
  go_wp2_with fail
  refine (fail_any _ _ _ _).mono ?_
  rintro e w8 ⟨rfl, rfl⟩
  go_wp2_with fail
  exact ⟨rfl, rfl, _, _, _, HS1.out⟩
theorem escape_any (W0 : World) (b : Nat) (s : ByteArray) (k : Nat) (text : Bool) (out : List Int) (gaps : List (Nat × Nat)) (vo vg : Value) (w : World) (hs : s.size ≤ 16777216) (hk : k < s.size) (hT : Tabs5 W0) (h : Rd W0 b s k text out gaps vo vg w) :
    Calls Tryd.prog 49 #[.pointer (some ⟨b, 0, none⟩)] w (Read W0 b s text out gaps k (escR text k (escP (s.data.toList.drop (k + 1))))) := by
  by_cases hk1 : k + 1 < s.size
  · rw [drop_at s (k + 1) hk1, escP_cons]
    unfold escC
    cases hs1 : signP s[k + 1] with
    | some v =>
      have hv := (signP_bd _ _ hs1).1
      simp only [escR]
      rw [if_neg (fun h => hv h.1), if_neg hv]
      exact escape_sign W0 b s k text out gaps vo vg w hs hk hT h hk1 v hs1
    | none =>
      simp only
      by_cases c1 : s[k + 1] = 38
      · rw [if_pos c1]
        simp only [escR]
        cases text with
        | true => rw [if_neg (by simp), if_pos trivial]; exact escape_amp W0 b s k true out gaps vo vg w hs hk hT h hk1 c1 rfl
        | false => rw [if_pos ⟨by first | trivial | rfl, by first | trivial | rfl⟩]; exact escape_amp0 W0 b s k false out gaps vo vg w hs hk hT h hk1 c1 rfl
      rw [if_neg c1]
      by_cases c2 : s[k + 1] = 94
      · rw [if_pos c2]
        by_cases hk2 : k + 1 + 1 < s.size
        · rw [drop_at s (k + 1 + 1) hk2]
          simp only
          have hb := byteN_at s (k + 1 + 1) hk2
          by_cases hd : 64 ≤ s[k + 1 + 1].toNat ∧ s[k + 1 + 1].toNat ≤ 95
          · rw [if_pos hd]
            simp only [escR]
            rw [if_neg (by omega), if_neg (by omega)]
            exact escape_caret W0 b s k text out gaps vo vg w hs hk hT h hk1 c2 hk2 hd
          · rw [if_neg hd]
            by_cases h1 : 64 ≤ s[k + 1 + 1].toNat
            · exact escape_caretB W0 b s k text out gaps vo vg w hs hk hT h hk1 c2 (by rw [hb]; omega)
            · exact escape_caretA W0 b s k text out gaps vo vg w hs hk hT h hk1 c2 (by rw [hb]; omega)
        · rw [List.drop_of_length_le (by rw [← Lib.size_eq]; omega)]
          exact escape_caretA W0 b s k text out gaps vo vg w hs hk hT h hk1 c2 (by rw [byteN_end s _ (by omega)]; omega)
      rw [if_neg c2]
      by_cases c3 : s[k + 1] = 111
      · rw [if_pos c3]
        cases hn : numP 8 (s.data.toList.drop (k + 1 + 1)) with
        | none => exact escape_oct0 W0 b s k text out gaps vo vg w hs hk hT h hk1 c3 hn
        | some p =>
          obtain ⟨v, n⟩ := p
          have hv := (numP_val 8 (by omega) _ v n hn).1
          simp only [escR]
          rw [if_neg (by omega), if_neg (by omega), show k + 1 + (n + 1) = k + 1 + 1 + n from by omega]
          exact escape_oct W0 b s k text out gaps vo vg w hs hk hT h hk1 c3 v n hn
      rw [if_neg c3]
      by_cases c4 : s[k + 1] = 120
      · rw [if_pos c4]
        cases hn : numP 16 (s.data.toList.drop (k + 1 + 1)) with
        | none => exact escape_hex0 W0 b s k text out gaps vo vg w hs hk hT h hk1 c4 hn
        | some p =>
          obtain ⟨v, n⟩ := p
          have hv := (numP_val 16 (by omega) _ v n hn).1
          simp only [escR]
          rw [if_neg (by omega), if_neg (by omega), show k + 1 + (n + 1) = k + 1 + 1 + n from by omega]
          exact escape_hex W0 b s k text out gaps vo vg w hs hk hT h hk1 c4 v n hn
      rw [if_neg c4]
      by_cases c5 : 48 ≤ s[k + 1].toNat ∧ s[k + 1].toNat ≤ 57
      · rw [if_pos c5, ← drop_at s (k + 1) hk1]
        cases hn : numP 10 (s.data.toList.drop (k + 1)) with
        | none => exact escape_dec0 W0 b s k text out gaps vo vg w hs hk hT h hk1 c5 hn
        | some p =>
          obtain ⟨v, n⟩ := p
          have hv := (numP_val 10 (by omega) _ v n hn).1
          simp only [escR]
          rw [if_neg (by omega), if_neg (by omega)]
          exact escape_dec W0 b s k text out gaps vo vg w hs hk hT h hk1 c5 v n hn
      rw [if_neg c5]
      generalize hN : nameP (s[k + 1] :: s.data.toList.drop (k + 1 + 1)) = N
      obtain ⟨v, n⟩ := N
      by_cases c6 : 0 < n
      · rw [if_pos c6]
        simp only [escR]
        rw [if_neg (by omega), if_neg (by omega)]
        exact escape_names W0 b s k text out gaps vo vg w hs hk hT h hk1 hs1 c1 c2 c3 c4 c5 v n hN c6
      · rw [if_neg c6]
        exact escape_names0 W0 b s k text out gaps vo vg w hs hk hT h hk1 hs1 c1 c2 c3 c4 c5 (by rw [hN]; simp only; omega)
  · rw [List.drop_of_length_le (by rw [← Lib.size_eq]; omega)]
    exact escape_end W0 b s k text out gaps vo vg w hs hk hT h (by omega)
end Go.Proofs.YtmgnpgbganjgfaaDoor
