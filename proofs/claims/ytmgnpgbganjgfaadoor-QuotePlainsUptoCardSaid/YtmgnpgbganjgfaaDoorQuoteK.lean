/- DERIVED. The walk of one: an escape; a rune. -/
import Derived.Test.YtmgnpgbganjgfaaDoorQuoteJ
set_option linter.unusedSimpArgs false
set_option linter.unusedVariables false
namespace Go.Proofs.YtmgnpgbganjgfaaDoor
open Go.RowKit

set_option maxHeartbeats 8000000 in
theorem one_esc_w (W0 : World) (b : Nat) (s : ByteArray) (k : Nat) (text : Bool) (out : List Int) (gaps : List (Nat × Nat)) (vo vg : Value) (w : World) (hs : s.size ≤ 16777216) (hk : k < s.size) (hgl : gaps.length ≤ 16777216) (hol : out.length ≤ 33554432) (hT : Tabs5 W0) (hg : (text && isGap (s.data.toList.drop k)) = false) (h92 : s[k] = 92) (h : Rd W0 b s k text out gaps vo vg w) :
    Calls Tryd.prog 41 #[.pointer (some ⟨b, 0, none⟩)] w (OnePost W0 b s k text out gaps (oneP text (s.data.toList.drop k)) false) := by
  have ho : oneP text (s.data.toList.drop k) = match escP (s.data.toList.drop (k + 1)) with | none => .error 51 | some (v, n) => if v = -2 ∧ text = false then .error 51 else .ok (v, n + 1) := by
    have hng : ¬ (text = true ∧ 0 < gapP (s.data.toList.drop (k + 1))) := by
      rintro ⟨h1, h2⟩
      rw [isGap_at _ k (by rw [← Lib.size_eq]; exact hk), byte_get s k hk, h92, h1, decide_eq_true h2] at hg
      simp at hg
    rw [drop_at s k hk, oneP_cons]
    unfold oneC
    rw [if_pos h92, if_neg hng]
    rfl
  rw [ho]
  obtain ⟨c0, c1, _, _, _, _⟩ := h.cells
  have t1 : decide ((s.size : Int) ≤ k) = false := by simp; omega
  have t2 : decide (s.size ≤ k) = false := by simp; omega
  have G1 := Lib.hid fun w h => gap_any W0 b s k text out gaps vo vg w hs hk hgl h
  rw [hg] at G1
  unfold GapPost at G1
  have E1 := Lib.hid fun (w : World) (vo vg : Value) h => escape_any W0 b s k text out gaps vo vg w hs hk hT h
  have q : ((s[k].toNat : Int) == 92) = true := (u8K s[k] 92 92 rfl (by decide)).1 h92
  have b1 : (0 : Int) ≤ (k : Int) := by omega
  have b2 : (k : Int) < s.size := by omega
  have b3 : (k : Int).toNat = k := by omega
  have HR := Lib.hid h
  clear h hg h92 ho
  unfold OnePost
  cases he : escP (s.data.toList.drop (k + 1)) with
  | none =>
    rw [he] at E1
    simp only [escR] at E1
    simp only
    clear he
    go_enter Tryd.func41, Tryd.ntmps41
    go_wp2_with fail
    go_quiet (fail)
    go_wp2_with fail
    refine (G1.out _ (HR.out.drew _)).mono ?_
    rintro e w2 ⟨rfl, vo2, vg2, hR2⟩
    obtain ⟨c0, c1, _, _, _, _⟩ := hR2.cells
    have HR2 := Lib.hid hR2
    clear hR2
    go_wp2_with fail
    go_quiet (fail)
    go_wp2_with fail
    refine (E1.out _ _ _ (HR2.out.drew _)).mono ?_
    rintro e w3 ⟨rfl, k3, vo3, vg3, hR3⟩
    go_wp2_with fail
    exact ⟨rfl, rfl, _, _, _, hR3⟩
  | some p =>
    obtain ⟨v, n⟩ := p
    rw [he] at E1
    simp only [escR] at E1
    have hvv := escP_val _ _ _ he
    clear he
    by_cases hv : v = -2
    · by_cases ht : text = false
      · rw [if_pos ⟨hv, ht⟩] at E1
        simp only [if_pos (And.intro hv ht)]
        clear hv hvv
        go_enter Tryd.func41, Tryd.ntmps41
        go_wp2_with fail
        go_quiet (fail)
        go_wp2_with fail
        refine (G1.out _ (HR.out.drew _)).mono ?_
        rintro e w2 ⟨rfl, vo2, vg2, hR2⟩
        obtain ⟨c0, c1, _, _, _, _⟩ := hR2.cells
        have HR2 := Lib.hid hR2
        clear hR2
        go_wp2_with fail
        go_quiet (fail)
        go_wp2_with fail
        refine (E1.out _ _ _ (HR2.out.drew _)).mono ?_
        rintro e w3 ⟨rfl, k3, vo3, vg3, hR3⟩
        go_wp2_with fail
        exact ⟨rfl, rfl, _, _, _, hR3⟩
      · rw [if_neg (fun h => ht h.2), if_pos hv] at E1
        simp only [if_neg (show ¬ (v = -2 ∧ text = false) from fun h => ht h.2), if_pos hv]
        simp only [Bool.false_eq_true, if_false]
        clear hv hvv ht
        have HK := Lib.hid (show k + (n + 1) = k + 1 + n from by omega)
        rw [HK.out]
        go_enter Tryd.func41, Tryd.ntmps41
        go_wp2_with fail
        go_quiet (fail)
        go_wp2_with fail
        refine (G1.out _ (HR.out.drew _)).mono ?_
        rintro e w2 ⟨rfl, vo2, vg2, hR2⟩
        obtain ⟨c0, c1, _, _, _, _⟩ := hR2.cells
        have HR2 := Lib.hid hR2
        clear hR2
        go_wp2_with fail
        go_quiet (fail)
        go_wp2_with fail
        refine (E1.out _ _ _ (HR2.out.drew _)).mono ?_
        rintro e w3 ⟨rfl, vo3, vg3, hR3⟩
        go_wp2_with fail
        refine bodyPost_ret (results_none rfl _ _ _) rfl ?_
        exact ⟨rfl, _, _, hR3⟩
    · rw [if_neg (fun h => hv h.1), if_neg hv] at E1
      simp only [if_neg (show ¬ (v = -2 ∧ text = false) from fun h => hv h.1), if_neg hv]
      simp only [Bool.false_eq_true, if_false]
      have hv0 : 0 ≤ v := hvv.resolve_left hv
      have HK := Lib.hid (show k + (n + 1) = k + 1 + n from by omega)
      rw [HK.out]
      have q2 : (v != -1) = true := by rw [bne_iff_ne]; omega
      have q3 : (v == -1) = false := beq_eq_false_iff_ne.2 (by omega)
      clear hv hvv hv0
      go_enter Tryd.func41, Tryd.ntmps41
      go_wp2_with fail
      go_quiet (fail)
      go_wp2_with fail
      refine (G1.out _ (HR.out.drew _)).mono ?_
      rintro e w2 ⟨rfl, vo2, vg2, hR2⟩
      obtain ⟨c0, c1, _, _, _, _⟩ := hR2.cells
      have HR2 := Lib.hid hR2
      clear hR2
      go_wp2_with fail
      go_quiet (fail)
      go_wp2_with fail
      refine (E1.out _ _ _ (HR2.out.drew _)).mono ?_
      rintro e w3 ⟨rfl, vo3, vg3, hR3⟩
      obtain ⟨_, _, _, c3, _, hz⟩ := hR3.cells
      have HR3 := Lib.hid hR3
      clear hR3 hz
      go_wp2_with (at_builtin; refine out_app rfl _ _ rfl W0 b s _ text out gaps vo3 vg3 w3 HR3.out ?ha1 v ?ha2 hol ?_; (case ha1 => rfl); (case ha2 => rfl); intro a4 n4 x4 w4 hk4 hR4; have z4 := (rd_cells hk4).2.2.2.2.2 3; have c4 := (rd_cells hk4).2.2.2.1; have HR4 := Lib.hid hR4; clear hk4 hR4)
      refine bodyPost_ret (results_none rfl _ _ _) rfl ?_
      exact ⟨rfl, _, _, HR4.out⟩
end Go.Proofs.YtmgnpgbganjgfaaDoor
