/- DERIVED. The walk of literal: a character's. -/
import Derived.Test.YtmgnpgbganjgfaaDoorQuoteM
set_option linter.unusedSimpArgs false
set_option linter.unusedVariables false
namespace Go.Proofs.YtmgnpgbganjgfaaDoor
open Go.RowKit

theorem oneP_false (l : List UInt8) (c : Int) (n : Nat) (h : oneP false l = .ok (c, n)) : c ≠ -2 := by
  cases l with
  | nil => cases h
  | cons b t =>
    rw [oneP_cons] at h
    unfold oneC at h
    split at h
    · rw [if_neg (by simp)] at h
      cases he : escP t with
      | none => rw [he] at h; cases h
      | some p =>
        obtain ⟨v, m⟩ := p
        rw [he] at h
        simp only at h
        split at h
        · cases h
        · next hv =>
          simp only [Except.ok.injEq, Prod.mk.injEq] at h
          intro e
          exact hv ⟨by omega, by first | trivial | rfl⟩
    · split at h
      · cases h
      · simp only [Except.ok.injEq, Prod.mk.injEq] at h
        omega
set_option maxHeartbeats 16000000 in
theorem literal_char (W0 : World) (b : Nat) (s : ByteArray) (i : Nat) (vo vg : Value) (w : World) (hs : s.size ≤ 16777216) (hi : i < s.size) (hT : Tabs5 W0) (h39 : s[i] = 39) (h : Rd W0 b s i false [] [] vo vg w) :
    Calls Tryd.prog 31 #[.pointer (some ⟨b, 0, none⟩)] w (LitPost W0 b s 13 (readC s.data.toList (i + 1))) := by
  obtain ⟨c0, c1, _, _, _, hz⟩ := h.cells
  have hz1 := hz 1
  have hz2 := hz 2
  have b1 : (0 : Int) ≤ (i : Int) := by omega
  have b2 : (i : Int) < s.size := by omega
  have b3 : (i : Int).toNat = i := by omega
  have hx39 : (s[i].toNat : Int) = 39 := by rw [h39]; rfl
  have q : ((s[i].toNat : Int) == 34) = false := by rw [hx39]; rfl
  have H39 := Lib.hid hx39
  have HR := Lib.hid h
  have B1 := Lib.hid fun (w : World) (k : Nat) (out : List Int) (gaps : List (Nat × Nat)) (vo vg : Value) (hks : k ≤ s.size) (h : Rd W0 b s k false out gaps vo vg w) => byteAt_any W0 b s k 0 false out gaps vo vg w hs hks (by omega) h
  simp only [Nat.add_zero] at B1
  obtain ⟨k, hk⟩ : ∃ k, i + 1 = k := ⟨_, rfl⟩
  rw [hk]
  obtain ⟨T, hTT⟩ : ∃ T, readC s.data.toList k = T := ⟨_, rfl⟩
  rw [hTT]
  have HTT := Lib.hid hTT
  clear hTT
  have hks : k ≤ s.size := by omega
  have HK := Lib.hid (show (i : Int) + 1 = (k : Int) by omega)
  have hbn := byteN_is s.data.toList k 39 _ H39.out (by decide)
  have O1 := Lib.hid fun w vo vg (h : Rd W0 b s k false [] [] vo vg w) => one_any W0 b s k false [] [] vo vg w hs hks (by simp) (by simp) hT h
  simp only [Bool.false_and] at O1
  clear h hz h39 hx39 hk
  go_enter Tryd.func31, Tryd.ntmps31
  go_wp2_with fail
  go_quiet (fail)
  rename_i nq
  have HR1 := Lib.hid (show Rd W0 b s k false [] [] vo vg (((w.drewN nq).setCell ⟨b, 2, none⟩ (.bool false)).setCell ⟨b, 1, none⟩ (.int .i64 ((i : Int) + 1))) from by rw [HK.out]; exact ((HR.out.drew nq).kind false).go k)
  generalize (s[i].toNat : Int) = x at *
  go_wp2_with fail
  generalize (((w.drewN nq).setCell ⟨b, 2, none⟩ (.bool false)).setCell ⟨b, 1, none⟩ (.int .i64 ((i : Int) + 1))) = w1 at *
  clear c0 c1 hz1 hz2 b1 b2 b3 HR
  refine (B1.out _ _ _ _ _ _ hks HR1.out).mono ?_
  rintro e w2 ⟨rfl, hR2⟩
  have HR2 := Lib.hid hR2
  obtain ⟨c0, c1, _, _, _, _⟩ := hR2.cells
  clear hR2
  by_cases h39 : s.data.toList[k]? = some 39
  · rw [decide_eq_true h39] at hbn
    have HTE := Lib.hid (show T = ⟨50, k, [], []⟩ from by rw [← HTT.out]; unfold readC; rw [if_pos h39])
    clear h39
    generalize byteN s.data.toList k = y at *
    go_wp2_with fail
    refine (fail_any _ _ _ _).mono ?_
    rintro e w3 ⟨rfl, rfl⟩
    go_wp2_with fail
    exact ⟨rfl, .inr ⟨by rw [HTE.out]; simp, by rw [HTE.out], _, _, _, _, _, _, HR2.out⟩⟩
  · rw [decide_eq_false h39] at hbn
    have HN39 := Lib.hid h39
    clear h39
    have hcut : (s.data.toList.drop k).length = s.size - k := by rw [List.length_drop, ← Lib.size_eq]
    cases ho : oneP false (s.data.toList.drop k) with
    | error e0 =>
      have he0 := oneP_error _ _ _ ho
      have HTE := Lib.hid (show T = ⟨e0, k, [], []⟩ from by rw [← HTT.out]; unfold readC; rw [if_neg HN39.out, ho])
      rw [ho] at O1
      clear ho
      generalize byteN s.data.toList k = y at *
      go_wp2_with fail
      refine (O1.out _ _ _ HR2.out).mono ?_
      rintro e w3 ⟨rfl, k3, vo3, vg3, hR3⟩
      go_wp2_with fail
      exact ⟨rfl, .inr ⟨by rw [HTE.out]; exact he0, by rw [HTE.out], _, _, _, _, _, _, hR3⟩⟩
    | ok p =>
      obtain ⟨c, n⟩ := p
      obtain ⟨n1, n2⟩ := oneP_bd _ _ _ _ ho
      rw [hcut] at n2
      have hc2 := oneP_false _ _ _ ho
      rw [ho] at O1
      unfold OnePost at O1
      simp only [if_neg hc2, Bool.false_eq_true, if_false, List.nil_append] at O1
      have hT1 : ∀ (d : Decidable (s.data.toList[k + n]? = some 39)), T = if s.data.toList[k + n]? = some 39 then ⟨0, k + n + 1, [c], []⟩ else ⟨50, k + n, [], []⟩ := fun _ => by rw [← HTT.out]; unfold readC; rw [if_neg HN39.out, ho]; simp only; congr
      have HT1 := Lib.hid (hT1 inferInstance)
      clear hT1
      have hbn3 := byteN_is s.data.toList (k + n) 39 _ H39.out (by decide)
      clear ho hcut hc2
      generalize byteN s.data.toList k = y at *
      by_cases h39 : s.data.toList[k + n]? = some 39
      · rw [decide_eq_true h39] at hbn3
        have HTE := HT1.out
        rw [if_pos h39] at HTE
        have HTE := Lib.hid HTE
        have hbn4 : (byteN s.data.toList (k + n) != x) = false := by rw [bne_eq_false_iff_eq]; exact beq_iff_eq.1 hbn3
        clear h39
        generalize hyy : byteN s.data.toList (k + n) = yy at *
        have HY := Lib.hid hyy
        clear hyy
        go_wp2_with fail
        refine (O1.out _ _ _ HR2.out).mono ?_
        rintro e w3 ⟨rfl, vo3, vg3, hR3⟩
        have HR3 := Lib.hid hR3
        clear hR3
        go_wp2_with fail
        refine (B1.out _ (k + n) _ _ _ _ (by omega) HR3.out).mono ?_
        rintro e w4 ⟨rfl, hR4⟩
        have HR4 := Lib.hid hR4
        obtain ⟨_, c1, _, _, _, hz⟩ := hR4.cells
        have hz1 := hz 1
        clear hR4 hz
        simp only [HY.out]
        go_wp2_with fail
        go_ret
        exact .inl ⟨by rw [HTE.out], rfl, _, _, _, by rw [HTE.out]; have := HR4.out.go ((k : Int) + n + 1); simp only; rw [show ((k + n + 1 : Nat) : Int) = (k : Int) + n + 1 from by omega]; exact this⟩
      · rw [decide_eq_false h39] at hbn3
        have HTE := HT1.out
        rw [if_neg h39] at HTE
        have HTE := Lib.hid HTE
        have hbn4 : (byteN s.data.toList (k + n) != x) = true := by rw [bne_iff_ne]; exact beq_eq_false_iff_ne.1 hbn3
        clear h39
        generalize hyy : byteN s.data.toList (k + n) = yy at *
        have HY := Lib.hid hyy
        clear hyy
        go_wp2_with fail
        refine (O1.out _ _ _ HR2.out).mono ?_
        rintro e w3 ⟨rfl, vo3, vg3, hR3⟩
        have HR3 := Lib.hid hR3
        clear hR3
        go_wp2_with fail
        refine (B1.out _ (k + n) _ _ _ _ (by omega) HR3.out).mono ?_
        rintro e w4 ⟨rfl, hR4⟩
        have HR4 := Lib.hid hR4
        obtain ⟨_, c1, _, _, _, _⟩ := hR4.cells
        clear hR4
        simp only [HY.out]
        go_wp2_with fail
        refine (fail_any _ _ _ _).mono ?_
        rintro e w5 ⟨rfl, rfl⟩
        go_wp2_with fail
        exact ⟨rfl, .inr ⟨by first | (rw [HTE.out]; simp) | simp, by first | rfl | (rw [HTE.out]; rfl) | simp, _, _, _, _, _, _, HR4.out⟩⟩
end Go.Proofs.YtmgnpgbganjgfaaDoor
