/- DERIVED. The walk of the document's Own: what is refused; all together. DERIVED. The walk of the law FixityOwns. -/
import Derived.Test.YtikkdkacflkifaaDoorRefOwnB
import Derived.Test.YtikkdkacflkifaaDoorL16Awake
import Derived.Test.YtikkdkacflkifaaDoorRefFixA
set_option linter.unusedSimpArgs false
set_option linter.unusedVariables false
namespace Go.Proofs.YtikkdkacflkifaaDoor
open Go.RowKit
set_option maxRecDepth 20000 in
set_option maxHeartbeats 8000000 in
theorem refOwn_0 (t : Tr) (kv : Value) (w : World) (hl : Lies w t kv) (h1 : t.kind = 35) (h2 : 2 ≤ t.kids.length) (hlen : t.kids.length ≤ 2199023255552) (hk1 : (t.kid 0).kind = 1) (hk2 : (t.kid 0).form = 9) (hts : (t.kid 1).text.size ≤ 1152921504606846976) (hm : ∀ i (h : i < t.kids.length), (t.kids[i]).mid.text.size ≤ 1152921504606846976) (hsd : sideW (t.kid 0).text = 0) (q1 : ((t.kid 0).text.toList == [105, 110, 102, 105, 120, 108]) = false) (q2 : ((t.kid 0).text.toList == [105, 110, 102, 105, 120, 114]) = false) (q3 : ((t.kid 0).text.toList == [105, 110, 102, 105, 120]) = false) :
    Calls Tryd.prog 28 #[nodeV t kv] w (OwnPost (ownX t) w) := by
  have hR := ownX_word t h1 h2 hk1 hk2
  rw [hsd] at hR
  obtain ⟨R, hRe⟩ : ∃ R, ownX t = R := ⟨_, rfl⟩
  rw [hRe] at hR ⊢
  obtain ⟨xa, cap, b, o, K, rfl, hxa, hk⟩ := hl.kidsOf
  have hx := hxa (by omega)
  subst hx
  have HM := Lib.hid hm
  have HK := Lib.hid hk
  have HN0 := Lib.hid (boxed_new w t (.slice (some ⟨b, o, none⟩) t.kids.length cap) _ rfl)
  have HB0 := Lib.hid ((Below.refl w.heap.size w).alloc (Nat.le_refl _) (.cells #[.int .i64 t.kind, .int .i64 t.form, .string t.text, .int .i64 t.line, .int .i64 t.col, .slice (some ⟨b, o, none⟩) t.kids.length cap] 32))
  have t1 : (t.kind != 35) = false := by simp; exact h1
  have t2 : decide ((t.kids.length : Int) < 2) = false := by simp; omega
  have t2b : decide (t.kids.length < 2) = false := by simp; omega
  obtain ⟨k0, hk0⟩ : ∃ k, t.kid 0 = k := ⟨_, rfl⟩
  obtain ⟨k1, hk1e⟩ : ∃ k, t.kid 1 = k := ⟨_, rfl⟩
  obtain ⟨x0, c0, hc0, hl0⟩ := kid_w HK.out (show 0 < t.kids.length by omega) hk0
  obtain ⟨x1, c1, hc1, hl1⟩ := kid_w HK.out (show 1 < t.kids.length by omega) hk1e
  rw [hk0] at hsd hk1 hk2 q1 q2 q3
  rw [hk1e] at hR hts
  simp only [Nat.zero_mul, Nat.add_zero, Nat.one_mul] at hc0 hc1
  have t3 : (k0.kind != 1) = false := by simp; exact hk1
  have t4 : (k0.form != 9) = false := by simp; exact hk2
  obtain ⟨i0, z0, hi0, iz0, iz1, iz2, iz3⟩ := fix_info
  have C0 := Lib.hid hc0
  have C1 := Lib.hid hc1
  have HR := Lib.hid hR
  clear hk hl hxa h1 hc0 hc1 hl0 hl1 hm hk0 hk1e hk1 hk2 hR hRe hsd
  obtain ⟨e0, e1, e2, e3, e4, e5⟩ := HN0.out
  have hc := C0.out.below HB0.out
  have a0 := hc.c0; have a1 := hc.c1; have a2 := hc.c2
  have hc := C1.out.below HB0.out
  have b0 := hc.c0; have b1 := hc.c1; have b2 := hc.c2
  clear hc
  unfold nodeV
  have v1 := fun w => refValue_any k1.text w hts
  unfold valueV at v1
  have V1 := Lib.hid v1
  clear v1 hts
  go_enter Tryd.func28, Tryd.ntmps28
  have hr : R = none := by have h := HR.out; simpa using h
  have HRn := Lib.hid hr
  clear hr HR
  obtain ⟨⟨v, c⟩, hv⟩ : ∃ p, valueX k1.text.data.toList = p := ⟨_, rfl⟩
  rw [hv] at V1
  clear hv
  rcases intLeaf_cases k1 with ⟨p1, he⟩ | ⟨p1, p2, he⟩ | ⟨p1, p2, he⟩
  · clear he
    go_wp2_with fail
    go_ret2
    exact (show OwnPost R w _ _ by rw [HRn.out]; exact ⟨rfl, HB0.out⟩)
  · clear he
    go_wp2_with fail
    go_ret2
    exact (show OwnPost R w _ _ by rw [HRn.out]; exact ⟨rfl, HB0.out⟩)
  · have hq : (c != 0) = true ∨ ((c != 0) = false ∧ decide (9 < v) = true) ∨ ((c != 0) = false ∧ decide (9 < v) = false) := by
      by_cases h : c = 0
      · by_cases h2 : 9 < v
        · exact .inr (.inl ⟨by simp; exact h, by simpa using h2⟩)
        · exact .inr (.inr ⟨by simp; exact h, by simpa using h2⟩)
      · exact .inl (by rw [bne_iff_ne]; exact h)
    clear he
    rcases hq with q5 | ⟨q5, q6⟩ | ⟨q5, q6⟩
    all_goals
      go_wp2_with fail
      refine (V1.out _).mono ?_
      rintro e w4 ⟨rfl, rfl⟩
      go_wp2_with fail
      go_ret2
      exact (show OwnPost R w _ _ by rw [HRn.out]; exact ⟨rfl, HB0.out⟩)
set_option maxHeartbeats 2000000 in
theorem refOwn_bad (t : Tr) (kv : Value) (w : World) (hl : Lies w t kv) (h : ¬ (t.kind = 35 ∧ 2 ≤ t.kids.length ∧ (t.kid 0).kind = 1 ∧ (t.kid 0).form = 9)) :
    Calls Tryd.prog 28 #[nodeV t kv] w (OwnPost none w) := by
  obtain ⟨xa, cap, b, o, K, rfl, hxa, hk⟩ := hl.kidsOf
  have HK := Lib.hid hk
  have HN0 := Lib.hid (boxed_new w t (.slice xa t.kids.length cap) _ rfl)
  have HB0 := Lib.hid ((Below.refl w.heap.size w).alloc (Nat.le_refl _) (.cells #[.int .i64 t.kind, .int .i64 t.form, .string t.text, .int .i64 t.line, .int .i64 t.col, .slice xa t.kids.length cap] 32))
  obtain ⟨e0, e1, e2, e3, e4, e5⟩ := HN0.out
  unfold nodeV
  by_cases h1 : t.kind = 35
  · have t1 : (t.kind != 35) = false := by simp; exact h1
    by_cases h2 : 2 ≤ t.kids.length
    · have t2 : decide ((t.kids.length : Int) < 2) = false := by simp; omega
      have hx := hxa (by omega)
      subst hx
      obtain ⟨k0, hk0⟩ : ∃ k, t.kid 0 = k := ⟨_, rfl⟩
      obtain ⟨x0, c0, hc0, hl0⟩ := kid_w HK.out (show 0 < t.kids.length by omega) hk0
      rw [hk0] at h
      simp only [Nat.zero_mul, Nat.add_zero] at hc0
      have hc := hc0.below HB0.out
      have a0 := hc.c0; have a1 := hc.c1; have a2 := hc.c2; have a3 := hc.c3; have a4 := hc.c4; have a5 := hc.c5
      have hq : (k0.kind != 1) = true ∨ ((k0.kind != 1) = false ∧ (k0.form != 9) = true) := by
        by_cases h3 : k0.kind = 1
        · exact .inr ⟨by simp; exact h3, by rw [bne_iff_ne]; exact fun h4 => h ⟨h1, h2, h3, h4⟩⟩
        · exact .inl (by rw [bne_iff_ne]; exact h3)
      clear hc hc0 hl0 h h1 hk0 hk hl hxa
      rcases hq with q1 | ⟨q1, q2⟩
      all_goals
        go_enter Tryd.func28, Tryd.ntmps28
        go_wp2_with fail
        go_ret2
        exact (show OwnPost none w _ _ from ⟨rfl, HB0.out⟩)
    · have t2 : decide ((t.kids.length : Int) < 2) = true := by simp; omega
      clear h h1 hk hl hxa
      go_enter Tryd.func28, Tryd.ntmps28
      go_wp2_with fail
      go_ret2
      exact (show OwnPost none w _ _ from ⟨rfl, HB0.out⟩)
  · have t1 : (t.kind != 35) = true := by rw [bne_iff_ne]; exact h1
    clear h h1 hk hl hxa
    go_enter Tryd.func28, Tryd.ntmps28
    go_wp2_with fail
    go_ret2
    exact (show OwnPost none w _ _ from ⟨rfl, HB0.out⟩)
theorem refOwn_any (t : Tr) (kv : Value) (w : World) (hl : Lies w t kv) (hlen : t.kids.length ≤ 2199023255552) (hts : 2 ≤ t.kids.length → (t.kid 1).text.size ≤ 1152921504606846976) (hm : ∀ i (h : i < t.kids.length), (t.kids[i]).mid.text.size ≤ 1152921504606846976) :
    Calls Tryd.prog 28 #[nodeV t kv] w (OwnPost (ownX t) w) := by
  by_cases h : t.kind = 35 ∧ 2 ≤ t.kids.length ∧ (t.kid 0).kind = 1 ∧ (t.kid 0).form = 9
  · obtain ⟨h1, h2, h3, h4⟩ := h
    rcases side_cases (t.kid 0).text with ⟨q1, e⟩ | ⟨q1, q2, e⟩ | ⟨q1, q2, q3, e⟩ | ⟨q1, q2, q3, e⟩
    · exact refOwn_1 t kv w hl h1 h2 hlen h3 h4 (hts h2) hm e q1
    · exact refOwn_2 t kv w hl h1 h2 hlen h3 h4 (hts h2) hm e q1 q2
    · exact refOwn_3 t kv w hl h1 h2 hlen h3 h4 (hts h2) hm e q1 q2 q3
    · exact refOwn_0 t kv w hl h1 h2 hlen h3 h4 (hts h2) hm e q1 q2 q3
  · have e : ownX t = none := by
      unfold ownX
      rw [if_neg]
      rintro ⟨h1, h2, h3⟩
      apply h3
      unfold sideX
      rw [if_neg (fun h4 => h ⟨h1, h2, h4⟩)]
    rw [e]
    exact refOwn_bad t kv w hl h
end Go.Proofs.YtikkdkacflkifaaDoor

namespace Go.Proofs.YtikkdkacflkifaaDoor
open Go.RowKit

set_option maxRecDepth 20000 in
set_option maxHeartbeats 4000000 in
theorem fixityOwns_walk (t : Tr) (kv : Value) (w : World) (hl : Lies w t kv) (hT : Tabs16 w) (hlen : t.kids.length ≤ 2199023255552) (hts : 2 ≤ t.kids.length → (t.kid 1).text.size ≤ 1152921504606846976) (hm : ∀ i (h : i < t.kids.length), (t.kids[i]).mid.text.size ≤ 1152921504606846976) :
    Calls Tryd.prog 9 #[nodeV t kv] w fun e w' => e = .returned (.bool true) ∧ Below w.heap.size w w' := by
  obtain ⟨x, c, rfl⟩ := hl.shape
  have N1 := Lib.hid fun w hl hT => own_any t (.slice x t.kids.length c) w hl hT hlen hts hm
  have N2 := Lib.hid fun w hl => refOwn_any t (.slice x t.kids.length c) w hl hlen hts hm
  obtain ⟨R, hR⟩ : ∃ R, ownX t = R := ⟨_, rfl⟩
  rw [hR] at N1 N2
  have HN := Lib.hid (rowN_new w t (.slice x t.kids.length c))
  have HB := Lib.hid ((Below.refl w.heap.size w).alloc (Nat.le_refl _) (.cells #[.int .i64 t.kind, .int .i64 t.form, .string t.text, .int .i64 t.line, .int .i64 t.col, .slice x t.kids.length c] 32))
  have HL := Lib.hid hl
  have HT := Lib.hid hT
  obtain ⟨d0, d1, d2, d3, d4, d5⟩ := HN.out.cells
  clear hl hT hR hts hm
  unfold nodeV
  go_enter Tryd.func9, Tryd.ntmps9
  go_wp2_with fail
  refine (N1.out _ (HL.out.keep HB.out) (HT.out.below HB.out)).mono ?_
  cases R with
  | none =>
    rintro e w1 ⟨rfl, hb1⟩
    have HB1 := Lib.hid (Below.then HB.out hb1)
    have HN1 := Lib.hid (HN.out.keep (hb1.block w.heap.size HN.out.lt))
    obtain ⟨e0, e1, e2, e3, e4, e5⟩ := HN1.out.cells
    clear hb1 d0 d1 d2 d3 d4 d5
    go_wp2_with fail
    refine (N2.out _ (HL.out.keep HB1.out)).mono ?_
    rintro e w2 ⟨rfl, hb2⟩
    have HB2 := Lib.hid (Below.then HB1.out hb2)
    clear hb2
    go_wp2_with fail
    refine (awake_any _ (HT.out.below HB2.out)).mono ?_
    rintro e w3 ⟨rfl, hb3⟩
    have HB3 := Lib.hid (Below.then HB2.out hb3)
    clear hb3
    go_wp2_with fail
    refine (sameFx_any [] none none 0 0 0 0 0 0 _ (by simp) (fun h => by simp at h) (fun h => by simp at h) ⟨by simp, fun i h => by simp at h⟩ ⟨by simp, fun i h => by simp at h⟩).mono ?_
    rintro e w4 ⟨rfl, hb4⟩
    have HB4 := Lib.hid (Below.then HB3.out hb4)
    clear hb4
    go_wp2_with fail
    go_ret
    exact ⟨rfl, HB4.out⟩
  | some l =>
    rintro e w1 ⟨v, rfl, hO1, hb1⟩
    have HB1 := Lib.hid (Below.then HB.out hb1)
    have HN1 := Lib.hid (HN.out.keep (hb1.block w.heap.size HN.out.lt))
    obtain ⟨e0, e1, e2, e3, e4, e5⟩ := HN1.out.cells
    obtain ⟨ya, yc, b4, o4, rfl, hy4, hF4⟩ := hO1.fixes
    have HF4 := Lib.hid hF4
    have HY4 := Lib.hid hy4
    clear hb1 hO1 hF4 hy4 d0 d1 d2 d3 d4 d5
    go_wp2_with fail
    refine (N2.out _ (HL.out.keep HB1.out)).mono ?_
    rintro e w2 ⟨v, rfl, hO2, hb2⟩
    obtain ⟨za, zc, b5, o5, rfl, hz5, hF5⟩ := hO2.fixes
    have HB2 := Lib.hid (Below.then HB1.out hb2)
    have HF42 := Lib.hid (HF4.out.below hb2)
    have HF5 := Lib.hid hF5
    have HZ5 := Lib.hid hz5
    clear hb2 hO2 hF5 hz5
    go_wp2_with fail
    refine (awake_any _ (HT.out.below HB2.out)).mono ?_
    rintro e w3 ⟨rfl, hb3⟩
    have HB3 := Lib.hid (Below.then HB2.out hb3)
    have HF43 := Lib.hid (HF42.out.below hb3)
    have HF53 := Lib.hid (HF5.out.below hb3)
    clear hb3
    have hll := HF43.out.len
    go_wp2_with fail
    refine (sameFx_any l ya za yc zc b4 o4 b5 o5 _ (by omega) HY4.out HZ5.out HF43.out HF53.out).mono ?_
    rintro e w4 ⟨rfl, hb4⟩
    have HB4 := Lib.hid (Below.then HB3.out hb4)
    clear hb4
    go_wp2_with fail
    go_ret
    exact ⟨rfl, HB4.out⟩
end Go.Proofs.YtikkdkacflkifaaDoor

