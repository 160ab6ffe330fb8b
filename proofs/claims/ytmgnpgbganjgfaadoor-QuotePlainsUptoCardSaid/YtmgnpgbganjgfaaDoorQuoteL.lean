/- DERIVED. The walk of one: a rune; all of one. -/
import Derived.Test.YtmgnpgbganjgfaaDoorQuoteK
set_option linter.unusedSimpArgs false
set_option linter.unusedVariables false
namespace Go.Proofs.YtmgnpgbganjgfaaDoor
open Go.RowKit

set_option maxHeartbeats 16000000 in
theorem one_rune (W0 : World) (b : Nat) (s : ByteArray) (k : Nat) (text : Bool) (out : List Int) (gaps : List (Nat × Nat)) (vo vg : Value) (w : World) (hs : s.size ≤ 16777216) (hk : k < s.size) (hgl : gaps.length ≤ 16777216) (hol : out.length ≤ 33554432) (hT : Tabs5 W0) (h92 : s[k] ≠ 92) (h : Rd W0 b s k text out gaps vo vg w) :
    Calls Tryd.prog 41 #[.pointer (some ⟨b, 0, none⟩)] w (OnePost W0 b s k text out gaps (oneP text (s.data.toList.drop k)) false) := by
  have ho : oneP text (s.data.toList.drop k) = if badC (dec (s.data.toList.drop k)) = true then .error 50 else .ok ((dec (s.data.toList.drop k)).1, (dec (s.data.toList.drop k)).2) := by
    rw [drop_at s k hk, oneP_cons]
    unfold oneC
    rw [if_neg h92]
  rw [ho]
  have hg : (text && isGap (s.data.toList.drop k)) = false := by
    rw [isGap_at _ k (by rw [← Lib.size_eq]; exact hk), byte_get s k hk, decide_eq_false (by simpa using h92), Bool.false_and, Bool.and_false]
  obtain ⟨c0, c1, _, _, _, _⟩ := h.cells
  have t1 : decide ((s.size : Int) ≤ k) = false := by simp; omega
  have t2 : decide (s.size ≤ k) = false := by simp; omega
  have G1 := Lib.hid fun w h => gap_any W0 b s k text out gaps vo vg w hs hk hgl h
  rw [hg] at G1
  unfold GapPost at G1
  have n1 := fun (w : World) (hT : Tabs5 w) => next_any s k w (by omega) hT.u
  rw [nextL_at s k hk] at n1
  have hdl := (dec_len (s.data.toList.drop k) (by rw [drop_at s k hk]; simp)).2.1
  have q : ((s[k].toNat : Int) == 92) = false := (u8K s[k] 92 92 rfl (by decide)).2 h92
  have b1 : (0 : Int) ≤ (k : Int) := by omega
  have b2 : (k : Int) < s.size := by omega
  have b3 : (k : Int).toNat = k := by omega
  have HR := Lib.hid h
  have HT := Lib.hid hT
  have hc4 := dec_lt (s.data.toList.drop k)
  clear h hg h92 ho hT
  unfold OnePost
  generalize dec (s.data.toList.drop k) = d at *
  obtain ⟨c, n⟩ := d
  simp only at n1 hdl hc4
  have N1 := Lib.hid n1
  have C1 := Lib.hid fun w => class_any (c : Int) w
  have cw : wrap64 (c : Int) = c := by unfold wrap64; omega
  have cw2 : IntKind.i64.wrap (c : Int) = c := IntWalk.i64_in _ (by omega)
  clear n1
  cases hb : badC (c, n) with
  | true =>
    rw [if_pos rfl]
    simp only
    unfold badC at hb
    simp only [Bool.or_eq_true, Bool.and_eq_true, decide_eq_true_eq] at hb
    generalize cls (c : Int) = x at *
    by_cases x0 : x = 0
    · have p0 : (x == 0) = true := beq_iff_eq.2 x0
      clear hb x0
      go_enter Tryd.func41, Tryd.ntmps41
      go_wp2_with fail
      go_quiet (fail)
      go_wp2_with fail
      refine (G1.out _ (HR.out.drew _)).mono ?_
      rintro e w2 ⟨rfl, vo2, vg2, hR2⟩
      obtain ⟨c0, c1, _, _, _, _⟩ := hR2.cells
      have HR2 := Lib.hid hR2
      clear hR2
      go_wp2_with fail
      go_quiet (fail)
      rename_i nq
      have HRQ := Lib.hid (HR2.out.drew nq)
      generalize w2.drewN nq = w3 at *
      clear c0 c1
      have r0 := fun w' (h : Rd W0 b s k text out gaps vo2 vg2 w') => h.cells.1
      have r1 := fun w' (h : Rd W0 b s k text out gaps vo2 vg2 w') => h.cells.2.1
      have HS0 := Lib.hid HRQ.out.drew1
      go_wp2_with fail
      go_region_held3 (fun w' => Rd W0 b s k text out gaps vo2 vg2 w')
        (first
          | with_reducible exact HS1.out
          | with_reducible exact HS0.out)
        (first
          | (go_at_call 50; refine (N1.out _ (HT.out.below0 HS0.out.2.2.1)).mono ?_; rintro e w4 ⟨rfl, hb4⟩; have HS1 := Lib.hid (HS0.out.keep hb4)))
      clear r0 r1
      obtain ⟨_, c1, _, c3, _, hz⟩ := HS1.out.cells
      have hz1 := hz 1
      clear hz
      go_wp2_with fail
      refine (C1.out _).mono ?_
      rintro e w5 ⟨rfl, rfl⟩
      go_wp2_with fail
      refine (fail_any _ _ _ _).mono ?_
      rintro e w6 ⟨rfl, rfl⟩
      go_wp2_with fail
      exact ⟨rfl, rfl, _, _, _, HS1.out⟩
    · have p0 : (x == 0) = false := beq_eq_false_iff_ne.2 x0
      by_cases x1 : x = 1 ∧ c ≠ 32
      · have p1 : (x == 1) = true := beq_iff_eq.2 x1.1
        have p2 : ((c : Int) != 32) = true := by rw [bne_iff_ne]; omega
        have p2b : ((c : Int) == 32) = false := beq_eq_false_iff_ne.2 (by omega)
        clear hb x0 x1
        go_enter Tryd.func41, Tryd.ntmps41
        go_wp2_with fail
        go_quiet (fail)
        go_wp2_with fail
        refine (G1.out _ (HR.out.drew _)).mono ?_
        rintro e w2 ⟨rfl, vo2, vg2, hR2⟩
        obtain ⟨c0, c1, _, _, _, _⟩ := hR2.cells
        have HR2 := Lib.hid hR2
        clear hR2
        go_wp2_with fail
        go_quiet (fail)
        rename_i nq
        have HRQ := Lib.hid (HR2.out.drew nq)
        generalize w2.drewN nq = w3 at *
        clear c0 c1
        have r0 := fun w' (h : Rd W0 b s k text out gaps vo2 vg2 w') => h.cells.1
        have r1 := fun w' (h : Rd W0 b s k text out gaps vo2 vg2 w') => h.cells.2.1
        have HS0 := Lib.hid HRQ.out.drew1
        go_wp2_with fail
        go_region_held3 (fun w' => Rd W0 b s k text out gaps vo2 vg2 w')
          (first
            | with_reducible exact HS1.out
            | with_reducible exact HS0.out)
          (first
            | (go_at_call 50; refine (N1.out _ (HT.out.below0 HS0.out.2.2.1)).mono ?_; rintro e w4 ⟨rfl, hb4⟩; have HS1 := Lib.hid (HS0.out.keep hb4)))
        clear r0 r1
        obtain ⟨_, c1, _, c3, _, hz⟩ := HS1.out.cells
        have hz1 := hz 1
        clear hz
        go_wp2_with fail
        refine (C1.out _).mono ?_
        rintro e w5 ⟨rfl, rfl⟩
        go_wp2_with fail
        refine (fail_any _ _ _ _).mono ?_
        rintro e w6 ⟨rfl, rfl⟩
        go_wp2_with fail
        exact ⟨rfl, rfl, _, _, _, HS1.out⟩
      · have h3 : c = 65533 ∧ n = 1 := by rcases hb with (hb | hb) | hb; exact absurd hb x0; exact absurd hb x1; exact hb
        have p1 : (x == 1) = false := beq_eq_false_iff_ne.2 (fun e => x1 ⟨e, by omega⟩)
        have p3 : ((c : Int) == 65533) = true := beq_iff_eq.2 (by omega)
        have p4 : ((n : Int) == 1) = true := beq_iff_eq.2 (by omega)
        clear hb x0 x1 h3
        go_enter Tryd.func41, Tryd.ntmps41
        go_wp2_with fail
        go_quiet (fail)
        go_wp2_with fail
        refine (G1.out _ (HR.out.drew _)).mono ?_
        rintro e w2 ⟨rfl, vo2, vg2, hR2⟩
        obtain ⟨c0, c1, _, _, _, _⟩ := hR2.cells
        have HR2 := Lib.hid hR2
        clear hR2
        go_wp2_with fail
        go_quiet (fail)
        rename_i nq
        have HRQ := Lib.hid (HR2.out.drew nq)
        generalize w2.drewN nq = w3 at *
        clear c0 c1
        have r0 := fun w' (h : Rd W0 b s k text out gaps vo2 vg2 w') => h.cells.1
        have r1 := fun w' (h : Rd W0 b s k text out gaps vo2 vg2 w') => h.cells.2.1
        have HS0 := Lib.hid HRQ.out.drew1
        go_wp2_with fail
        go_region_held3 (fun w' => Rd W0 b s k text out gaps vo2 vg2 w')
          (first
            | with_reducible exact HS1.out
            | with_reducible exact HS0.out)
          (first
            | (go_at_call 50; refine (N1.out _ (HT.out.below0 HS0.out.2.2.1)).mono ?_; rintro e w4 ⟨rfl, hb4⟩; have HS1 := Lib.hid (HS0.out.keep hb4)))
        clear r0 r1
        obtain ⟨_, c1, _, c3, _, hz⟩ := HS1.out.cells
        have hz1 := hz 1
        clear hz
        go_wp2_with fail
        refine (C1.out _).mono ?_
        rintro e w5 ⟨rfl, rfl⟩
        go_wp2_with fail
        refine (fail_any _ _ _ _).mono ?_
        rintro e w6 ⟨rfl, rfl⟩
        go_wp2_with fail
        exact ⟨rfl, rfl, _, _, _, HS1.out⟩
  | false =>
    rw [if_neg (by simp)]
    simp only
    rw [if_neg (by omega)]
    simp only [Bool.false_eq_true, if_false]
    unfold badC at hb
    simp only [Bool.or_eq_false_iff, Bool.and_eq_false_iff, decide_eq_false_iff_not, Decidable.not_not, ne_eq] at hb
    generalize cls (c : Int) = x at *
    obtain ⟨⟨x0, x1⟩, x2⟩ := hb
    have p0 : (x == 0) = false := beq_eq_false_iff_ne.2 x0
    by_cases y1 : x = 1
    · have c32 : c = 32 := by rcases x1 with x1 | x1; exact absurd y1 x1; exact x1
      have p1 : (x == 1) = true := beq_iff_eq.2 y1
      have p2 : ((c : Int) != 32) = false := by rw [bne_eq_false_iff_eq]; omega
      have p2b : ((c : Int) == 32) = true := beq_iff_eq.2 (by omega)
      have p3 : ((c : Int) == 65533) = false := beq_eq_false_iff_ne.2 (by omega)
      clear x0 x1 x2 y1 c32
      go_enter Tryd.func41, Tryd.ntmps41
      go_wp2_with fail
      go_quiet (fail)
      go_wp2_with fail
      refine (G1.out _ (HR.out.drew _)).mono ?_
      rintro e w2 ⟨rfl, vo2, vg2, hR2⟩
      obtain ⟨c0, c1, _, _, _, _⟩ := hR2.cells
      have HR2 := Lib.hid hR2
      clear hR2
      go_wp2_with fail
      go_quiet (fail)
      rename_i nq
      have HRQ := Lib.hid (HR2.out.drew nq)
      generalize w2.drewN nq = w3 at *
      clear c0 c1
      have r0 := fun w' (h : Rd W0 b s k text out gaps vo2 vg2 w') => h.cells.1
      have r1 := fun w' (h : Rd W0 b s k text out gaps vo2 vg2 w') => h.cells.2.1
      have HS0 := Lib.hid HRQ.out.drew1
      go_wp2_with fail
      go_region_held3 (fun w' => Rd W0 b s k text out gaps vo2 vg2 w')
        (first
          | with_reducible exact HS1.out
          | with_reducible exact HS0.out)
        (first
          | (go_at_call 50; refine (N1.out _ (HT.out.below0 HS0.out.2.2.1)).mono ?_; rintro e w4 ⟨rfl, hb4⟩; have HS1 := Lib.hid (HS0.out.keep hb4)))
      clear r0 r1
      obtain ⟨_, c1, _, c3, _, hz⟩ := HS1.out.cells
      have hz1 := hz 1
      clear hz
      go_wp2_with fail
      refine (C1.out _).mono ?_
      rintro e w5 ⟨rfl, rfl⟩
      go_wp2_with (at_builtin; refine out_app rfl _ _ rfl W0 b s _ text out gaps vo2 vg2 _ HS1.out ?hb1 ((c : Nat) : Int) ?hc1 hol ?_; (case hb1 => rfl); (case hc1 => rfl); intro a6 n6 x6 w6 hk6 hR6; have z6 := (rd_cells hk6).2.2.2.2.2 3; have c6 := (rd_cells hk6).2.2.2.1; have HR6 := Lib.hid hR6; clear hk6 hR6; have d1 := HR6.out.cells.2.1; have dz := HR6.out.cells.2.2.2.2.2 1)
      go_end0
      exact ⟨rfl, _, _, by have := HR6.out.go ((k : Int) + n); rw [show ((k + n : Nat) : Int) = (k : Int) + n from by omega]; exact this⟩
    · have p1 : (x == 1) = false := beq_eq_false_iff_ne.2 y1
      by_cases y3 : c = 65533
      · have p3 : ((c : Int) == 65533) = true := beq_iff_eq.2 (by omega)
        have p4 : ((n : Int) == 1) = false := beq_eq_false_iff_ne.2 (by rcases x2 with x2 | x2; exact absurd y3 x2; omega)
        clear x0 x1 x2 y1 y3
        go_enter Tryd.func41, Tryd.ntmps41
        go_wp2_with fail
        go_quiet (fail)
        go_wp2_with fail
        refine (G1.out _ (HR.out.drew _)).mono ?_
        rintro e w2 ⟨rfl, vo2, vg2, hR2⟩
        obtain ⟨c0, c1, _, _, _, _⟩ := hR2.cells
        have HR2 := Lib.hid hR2
        clear hR2
        go_wp2_with fail
        go_quiet (fail)
        rename_i nq
        have HRQ := Lib.hid (HR2.out.drew nq)
        generalize w2.drewN nq = w3 at *
        clear c0 c1
        have r0 := fun w' (h : Rd W0 b s k text out gaps vo2 vg2 w') => h.cells.1
        have r1 := fun w' (h : Rd W0 b s k text out gaps vo2 vg2 w') => h.cells.2.1
        have HS0 := Lib.hid HRQ.out.drew1
        go_wp2_with fail
        go_region_held3 (fun w' => Rd W0 b s k text out gaps vo2 vg2 w')
          (first
            | with_reducible exact HS1.out
            | with_reducible exact HS0.out)
          (first
            | (go_at_call 50; refine (N1.out _ (HT.out.below0 HS0.out.2.2.1)).mono ?_; rintro e w4 ⟨rfl, hb4⟩; have HS1 := Lib.hid (HS0.out.keep hb4)))
        clear r0 r1
        obtain ⟨_, c1, _, c3, _, hz⟩ := HS1.out.cells
        have hz1 := hz 1
        clear hz
        go_wp2_with fail
        refine (C1.out _).mono ?_
        rintro e w5 ⟨rfl, rfl⟩
        go_wp2_with (at_builtin; refine out_app rfl _ _ rfl W0 b s _ text out gaps vo2 vg2 _ HS1.out ?hb2 ((c : Nat) : Int) ?hc2 hol ?_; (case hb2 => rfl); (case hc2 => rfl); intro a6 n6 x6 w6 hk6 hR6; have z6 := (rd_cells hk6).2.2.2.2.2 3; have c6 := (rd_cells hk6).2.2.2.1; have HR6 := Lib.hid hR6; clear hk6 hR6; have d1 := HR6.out.cells.2.1; have dz := HR6.out.cells.2.2.2.2.2 1)
        go_end0
        exact ⟨rfl, _, _, by have := HR6.out.go ((k : Int) + n); rw [show ((k + n : Nat) : Int) = (k : Int) + n from by omega]; exact this⟩
      · have p3 : ((c : Int) == 65533) = false := beq_eq_false_iff_ne.2 (by omega)
        clear x0 x1 x2 y1 y3
        go_enter Tryd.func41, Tryd.ntmps41
        go_wp2_with fail
        go_quiet (fail)
        go_wp2_with fail
        refine (G1.out _ (HR.out.drew _)).mono ?_
        rintro e w2 ⟨rfl, vo2, vg2, hR2⟩
        obtain ⟨c0, c1, _, _, _, _⟩ := hR2.cells
        have HR2 := Lib.hid hR2
        clear hR2
        go_wp2_with fail
        go_quiet (fail)
        rename_i nq
        have HRQ := Lib.hid (HR2.out.drew nq)
        generalize w2.drewN nq = w3 at *
        clear c0 c1
        have r0 := fun w' (h : Rd W0 b s k text out gaps vo2 vg2 w') => h.cells.1
        have r1 := fun w' (h : Rd W0 b s k text out gaps vo2 vg2 w') => h.cells.2.1
        have HS0 := Lib.hid HRQ.out.drew1
        go_wp2_with fail
        go_region_held3 (fun w' => Rd W0 b s k text out gaps vo2 vg2 w')
          (first
            | with_reducible exact HS1.out
            | with_reducible exact HS0.out)
          (first
            | (go_at_call 50; refine (N1.out _ (HT.out.below0 HS0.out.2.2.1)).mono ?_; rintro e w4 ⟨rfl, hb4⟩; have HS1 := Lib.hid (HS0.out.keep hb4)))
        clear r0 r1
        obtain ⟨_, c1, _, c3, _, hz⟩ := HS1.out.cells
        have hz1 := hz 1
        clear hz
        go_wp2_with fail
        refine (C1.out _).mono ?_
        rintro e w5 ⟨rfl, rfl⟩
        go_wp2_with (at_builtin; refine out_app rfl _ _ rfl W0 b s _ text out gaps vo2 vg2 _ HS1.out ?hb3 ((c : Nat) : Int) ?hc3 hol ?_; (case hb3 => rfl); (case hc3 => rfl); intro a6 n6 x6 w6 hk6 hR6; have z6 := (rd_cells hk6).2.2.2.2.2 3; have c6 := (rd_cells hk6).2.2.2.1; have HR6 := Lib.hid hR6; clear hk6 hR6; have d1 := HR6.out.cells.2.1; have dz := HR6.out.cells.2.2.2.2.2 1)
        go_end0
        exact ⟨rfl, _, _, by have := HR6.out.go ((k : Int) + n); rw [show ((k + n : Nat) : Int) = (k : Int) + n from by omega]; exact this⟩
theorem oneP_gap (l : List UInt8) (h : isGap l = true) : oneP true l = .ok (-2, gapP l.tail + 1) := by
  cases l with
  | nil => cases h
  | cons c t =>
    rw [isGap_cons, Bool.and_eq_true, decide_eq_true_eq, decide_eq_true_eq] at h
    rw [oneP_cons]
    unfold oneC
    rw [if_pos h.1, if_pos ⟨rfl, h.2⟩]; rfl
theorem one_any (W0 : World) (b : Nat) (s : ByteArray) (k : Nat) (text : Bool) (out : List Int) (gaps : List (Nat × Nat)) (vo vg : Value) (w : World) (hs : s.size ≤ 16777216) (hk : k ≤ s.size) (hgl : gaps.length ≤ 16777216) (hol : out.length ≤ 33554432) (hT : Tabs5 W0) (h : Rd W0 b s k text out gaps vo vg w) :
    Calls Tryd.prog 41 #[.pointer (some ⟨b, 0, none⟩)] w (OnePost W0 b s k text out gaps (oneP text (s.data.toList.drop k)) (text && isGap (s.data.toList.drop k))) := by
  by_cases hk2 : k < s.size
  · cases hg : text && isGap (s.data.toList.drop k)
    · by_cases h92 : s[k] = 92
      · exact one_esc_w W0 b s k text out gaps vo vg w hs hk2 hgl hol hT hg h92 h
      · exact one_rune W0 b s k text out gaps vo vg w hs hk2 hgl hol hT h92 h
    · have hg2 := hg
      rw [Bool.and_eq_true] at hg2
      obtain ⟨rfl, hg3⟩ := hg2
      rw [oneP_gap _ hg3, List.tail_drop]
      exact one_gap W0 b s k true out gaps vo vg w hs hk2 hgl hg h
  · rw [List.drop_of_length_le (by rw [← Lib.size_eq]; omega), show isGap [] = false from rfl, Bool.and_false]
    exact one_end W0 b s k text out gaps vo vg w hs (by omega) h
end Go.Proofs.YtmgnpgbganjgfaaDoor
