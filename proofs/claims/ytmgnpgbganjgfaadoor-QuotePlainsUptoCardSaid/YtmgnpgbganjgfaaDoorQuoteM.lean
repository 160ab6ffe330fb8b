/- DERIVED. The walk of literal. -/
import Derived.Test.YtmgnpgbganjgfaaDoorQuoteL
import Derived.Test.YtmgnpgbganjgfaaDoorQuoteR
set_option linter.unusedSimpArgs false
set_option linter.unusedVariables false
namespace Go.Proofs.YtmgnpgbganjgfaaDoor
open Go.RowKit

def RT.ahead (r : RT) (o : List Int) (g : List (Nat × Nat)) : RT := ⟨r.e, r.till, o ++ r.out, g ++ r.gaps⟩
theorem RT.ahead_nil (r : RT) : r.ahead [] [] = r := rfl
theorem RT.more_ahead (r : RT) (i n : Nat) (c : Int) (b : Bool) (o : List Int) (g : List (Nat × Nat)) : (r.more i n c b).ahead o g = r.ahead (if c = -2 then o else o ++ [c]) (if b = true then g ++ [(i, i + n)] else g) := by
  unfold RT.more RT.ahead
  simp only [RT.mk.injEq, true_and]
  constructor
  · split <;> simp
  · split <;> simp
theorem byteAt_quiet (W0 : World) (b : Nat) (s : ByteArray) (k m : Nat) (text : Bool) (out : List Int) (gaps : List (Nat × Nat)) (vo vg : Value) (w : World) (hs : s.size ≤ 16777216) (hk : k ≤ s.size) (hm : m ≤ 1) (h : Rd W0 b s k text out gaps vo vg w) :
    Calls Tryd.prog 40 #[.pointer (some ⟨b, 0, none⟩), .int .i64 (m : Int)] w fun x w' => x = .returned (.int .u8 (byteN s.data.toList (k + m))) ∧ ∃ n, w' = w.drewN n := by
  obtain ⟨c0, c1, c2, c3, c4, hz⟩ := h.cells
  have HR := Lib.hid h
  clear h c2 c3 c4 hz
  have g1 : IntKind.i64.wrap ((k : Int) + m) = (k : Int) + m := IntWalk.i64_in _ (by omega)
  by_cases hi : k + m < s.size
  · have hv : byteN s.data.toList (k + m) = s[k + m].toNat := by
      unfold byteN
      rw [List.getD_eq_getElem?_getD, Array.getElem?_toList]
      have : s.data[k + m]? = some s[k + m] := Array.getElem?_eq_getElem _
      rw [this]; rfl
    rw [hv]
    have t1 : decide ((s.size : Int) ≤ ((k : Int) + m)) = false := by simp; omega
    have t2 : decide (s.size ≤ k + m) = false := by simp; omega
    have b1 : (0 : Int) ≤ ((k : Int) + m) := by omega
    have b2 : ((k : Int) + m) < s.size := by omega
    have b3 : ((k : Int) + m).toNat = k + m := by omega
    clear hv
    go_enter Tryd.func40, Tryd.ntmps40
    go_wp2_with fail
    go_quiet (fail)
    go_wp2_with fail
    go_quiet (fail)
    go_wp2_with fail
    go_ret
    exact ⟨rfl, _, World.drewN_drewN _ _ _⟩
  · have hv : byteN s.data.toList (k + m) = 0 := by
      unfold byteN
      rw [List.getD_eq_getElem?_getD, List.getElem?_eq_none (by rw [← Lib.size_eq]; omega)]; rfl
    rw [hv]
    have t1 : decide ((s.size : Int) ≤ ((k : Int) + m)) = true := by simp; omega
    have t2 : decide (s.size ≤ k + m) = true := by simp; omega
    clear hv
    go_enter Tryd.func40, Tryd.ntmps40
    go_wp2_with fail
    go_quiet (fail)
    go_wp2_with fail
    go_ret
    exact ⟨rfl, _, rfl⟩
def atOf (w : World) (b : Nat) : Nat := match w.cell? ⟨b, 1, none⟩ with | some (.int _ k) => k.toNat | _ => 0
theorem Rd.atOf {W0 : World} {b : Nat} {s : ByteArray} {k : Nat} {text : Bool} {out : List Int} {gaps : List (Nat × Nat)} {vo vg : Value} {w : World} (h : Rd W0 b s k text out gaps vo vg w) : Go.Proofs.YtmgnpgbganjgfaaDoor.atOf w b = k := by
  unfold Go.Proofs.YtmgnpgbganjgfaaDoor.atOf
  rw [h.cells.2.1]
  simp
/-- What a literal's reading gives back. -/
def LitPost (W0 : World) (b : Nat) (s : ByteArray) (kind : Int) (R : RT) (e : Ending) (w' : World) : Prop :=
  (R.e = 0 ∧ e = .returned (.int .i64 kind) ∧ ∃ text vo vg, Rd W0 b s R.till text R.out R.gaps vo vg w') ∨
  (R.e ≠ 0 ∧ e = .panicked (faultV R.till R.e) ∧ ∃ k text out gaps vo vg, Rd W0 b s k text out gaps vo vg w')
set_option maxHeartbeats 16000000 in
theorem literal_text (W0 : World) (b : Nat) (s : ByteArray) (i : Nat) (vo vg : Value) (w : World) (hs : s.size ≤ 16777216) (hi : i < s.size) (hT : Tabs5 W0) (h34 : s[i] = 34) (h : Rd W0 b s i false [] [] vo vg w) :
    Calls Tryd.prog 31 #[.pointer (some ⟨b, 0, none⟩)] w (LitPost W0 b s 14 (readT s.data.toList (i + 1))) := by
  obtain ⟨T, hTT⟩ : ∃ T, readT s.data.toList (i + 1) = T := ⟨_, rfl⟩
  rw [hTT]
  have HTT := Lib.hid hTT
  clear hTT
  obtain ⟨c0, c1, _, _, _, hz⟩ := h.cells
  have hz1 := hz 1
  have hz2 := hz 2
  have b1 : (0 : Int) ≤ (i : Int) := by omega
  have b2 : (i : Int) < s.size := by omega
  have b3 : (i : Int).toNat = i := by omega
  have hx34 : (s[i].toNat : Int) = 34 := by rw [h34]; rfl
  have q : ((s[i].toNat : Int) == 34) = true := by rw [hx34]; rfl
  have H34 := Lib.hid hx34
  have HR := Lib.hid h
  clear h hz h34 hx34
  go_enter Tryd.func31, Tryd.ntmps31
  go_wp2_with fail
  go_quiet (fail)
  rename_i nq
  have HR1 := Lib.hid ((((HR.out.drew nq).kind true).go ((i : Int) + 1)))
  generalize (s[i].toNat : Int) = x at *
  go_wp2_with fail
  generalize (((w.drewN nq).setCell ⟨b, 2, none⟩ (.bool true)).setCell ⟨b, 1, none⟩ (.int .i64 ((i : Int) + 1))) = w1 at *
  clear c0 c1 hz1 hz2 b1 b2 b3 HR
  go_loopw [] (fun wr => ∃ (k : Nat) (out : List Int) (gaps : List (Nat × Nat)) (vo vg : Value), Rd W0 b s k true out gaps vo vg wr ∧ i + 1 ≤ k ∧ k ≤ s.size ∧ out.length ≤ k ∧ gaps.length ≤ k ∧ T = (readT s.data.toList k).ahead out gaps) (fun wr => s.size - atOf wr b)
  case atStart => exact ⟨i + 1, [], [], vo, vg, by rw [show ((i + 1 : Nat) : Int) = (i : Int) + 1 from by omega]; exact HR1.out, by omega, by omega, by simp, by simp, by rw [RT.ahead_nil]; exact HTT.out.symm⟩
  case round =>
    obtain ⟨k, out, gaps, vo, vg, hR, hik, hks, hol, hgl, hTk⟩ := hrel
    have HA := Lib.hid hR.atOf
    have HTK := Lib.hid hTk
    have r0 := fun w' (h : Rd W0 b s k true out gaps vo vg w') => h.cells.1
    have r1 := fun w' (h : Rd W0 b s k true out gaps vo vg w') => h.cells.2.1
    have B1 := Lib.hid fun w (h : Rd W0 b s k true out gaps vo vg w) => byteAt_any W0 b s k 0 true out gaps vo vg w hs hks (by omega) h
    have HS0 := Lib.hid hR.drew1
    have O1 := Lib.hid fun w (h : Rd W0 b s k true out gaps vo vg w) => one_any W0 b s k true out gaps vo vg w hs hks (by omega) (by omega) hT h
    have HKL := Lib.hid (show k < s.data.toList.length ↔ k < s.size by rw [← Lib.size_eq])
    have hRk := hR
    clear hR hTk
    have hbn := byteN_is s.data.toList k 34 x H34.out (by decide)
    by_cases h34 : s.data.toList[k]? = some 34
    · have hks2 : k < s.size := by rw [← HKL.out]; exact (List.getElem?_eq_some_iff.1 h34).1
      rw [decide_eq_true h34] at hbn
      have hbn2 : (byteN s.data.toList k != x) = false := by rw [bne_eq_false_iff_eq]; exact beq_iff_eq.1 hbn
      have t1 : decide ((s.size : Int) ≤ k) = false := by simp; omega
      have t2 : decide (s.size ≤ k) = false := by simp; omega
      have hTe := HTK.out
      rw [readT_quote _ _ h34] at hTe
      have HTE := Lib.hid hTe
      clear hTe h34
      simp only [Nat.add_zero] at B1
      generalize byteN s.data.toList k = y at *
      go_wp2_with fail
      go_region_held3 (fun w' => Rd W0 b s k true out gaps vo vg w')
        (first
          | with_reducible exact HS1.out
          | with_reducible exact HS0.out)
        (first
          | (go_at_call 40; refine (B1.out _ HS0.out).mono ?_; rintro e w4 ⟨rfl, hR4⟩; have HS1 := Lib.hid hR4))
      clear r0 r1
      obtain ⟨_, c1, _, _, _, hz⟩ := HS1.out.cells
      have hz1 := hz 1
      clear hz
      go_wp2_with fail
      go_ret
      exact .inl ⟨by rw [HTE.out]; rfl, rfl, _, _, _, by rw [HTE.out]; have := HS1.out.go ((k : Int) + 1); simp only [RT.ahead, List.append_nil]; rw [show ((k + 1 : Nat) : Int) = (k : Int) + 1 from by omega]; exact this⟩
    · rw [decide_eq_false h34] at hbn
      have hbn2 : (byteN s.data.toList k != x) = true := by rw [bne_iff_ne]; exact beq_eq_false_iff_ne.1 hbn
      have B2 := Lib.hid fun w (h : Rd W0 b s k true out gaps vo vg w) => byteAt_quiet W0 b s k 0 true out gaps vo vg w hs hks (by omega) h
      have HRk := Lib.hid hRk
      simp only [Nat.add_zero] at B2
      clear B1 HS0
      have hcut : (s.data.toList.drop k).length = s.size - k := by rw [List.length_drop, ← Lib.size_eq]
      cases ho : oneP true (s.data.toList.drop k) with
      | error e =>
        have hTe : T = ⟨e, k, out, gaps⟩ := by
          rw [HTK.out]
          by_cases hk2 : k < s.size
          · rw [readT_bad _ k e (HKL.out.2 hk2) h34 ho]
            unfold RT.ahead
            simp
          · have hd : s.data.toList.drop k = [] := List.drop_of_length_le (by rw [← Lib.size_eq]; omega)
            rw [hd] at ho
            injection ho with ho
            subst ho
            rw [readT_end _ k (by rw [← Lib.size_eq]; omega)]
            unfold RT.ahead
            simp
        have HTE := Lib.hid hTe
        have he0 := oneP_error _ _ _ ho
        rw [ho] at O1
        clear hTe h34 ho hcut
        generalize byteN s.data.toList k = y at *
        go_wp2_with fail
        clear r0 r1
        go_quiet (first | (go_at_call 40; refine (B2.out _ (HRk.out.drew _)).mono ?_; rintro e w4 ⟨rfl, n4, rfl⟩; exact ⟨rfl, _, World.drewN_drewN _ _ _⟩))
        rename_i nq
        have HS1 := Lib.hid (HRk.out.drew nq)
        go_wp2_with fail
        refine (O1.out _ HS1.out).mono ?_
        rintro e5 w5 ⟨rfl, k5, vo5, vg5, hR5⟩
        go_wp2_with fail
        exact ⟨rfl, .inr ⟨by rw [HTE.out]; exact he0, by rw [HTE.out], _, _, _, _, _, _, hR5⟩⟩
      | ok p =>
        obtain ⟨c, n⟩ := p
        obtain ⟨n1, n2⟩ := oneP_bd _ _ _ _ ho
        rw [hcut] at n2
        have hk2 : k < s.size := by omega
        have hTe := HTK.out
        rw [readT_on _ k c n (HKL.out.2 hk2) h34 ho, RT.more_ahead] at hTe
        have HTE := Lib.hid hTe
        rw [ho, Bool.true_and] at O1
        have HLO := Lib.hid (show (if c = -2 then out else out ++ [c]).length ≤ k + n by split <;> (try rw [List.length_append]) <;> (try simp only [List.length_cons, List.length_nil]) <;> omega)
        have HLG := Lib.hid (show (if isGap (s.data.toList.drop k) = true then gaps ++ [(k, k + n)] else gaps).length ≤ k + n by split <;> (try rw [List.length_append]) <;> (try simp only [List.length_cons, List.length_nil]) <;> omega)
        clear hTe h34 ho hcut
        generalize isGap (s.data.toList.drop k) = gb at *
        generalize byteN s.data.toList k = y at *
        go_wp2_with fail
        clear r0 r1
        go_quiet (first | (go_at_call 40; refine (B2.out _ (HRk.out.drew _)).mono ?_; rintro e w4 ⟨rfl, n4, rfl⟩; exact ⟨rfl, _, World.drewN_drewN _ _ _⟩))
        rename_i nq
        have HS1 := Lib.hid (HRk.out.drew nq)
        go_wp2_with fail
        refine (O1.out _ HS1.out).mono ?_
        rintro e5 w5 ⟨rfl, vo5, vg5, hR5⟩
        have HR5 := Lib.hid hR5
        clear hR5
        go_wp2_with fail
        go_roundw
        case rel => exact ⟨k + n, _, _, _, _, HR5.out, by omega, by omega, HLO.out, HLG.out, HTE.out⟩
        case measure => rw [HA.out, HR5.out.atOf]; omega
end Go.Proofs.YtmgnpgbganjgfaaDoor
