/- DERIVED. The walk of Own: what is refused; all together. -/
import Derived.Test.YtikkdkacflkifaaDoorOwnC
set_option linter.unusedSimpArgs false
set_option linter.unusedVariables false
namespace Go.Proofs.YtikkdkacflkifaaDoor
open Go.RowKit

set_option maxHeartbeats 2000000 in
theorem own_bad (t : Tr) (kv : Value) (w : World) (hl : Lies w t kv) (h : ¬ (t.kind = 35 ∧ 2 ≤ t.kids.length ∧ sideX (t.kid 0) ≠ 0)) :
    Calls Tryd.prog 27 #[nodeV t kv] w (OwnPost none w) := by
  obtain ⟨xa, cap, b, o, K, rfl, hxa, hk⟩ := hl.kidsOf
  have HK := Lib.hid hk
  have HX := Lib.hid hxa
  have HN0 := Lib.hid (boxed_new w t (.slice xa t.kids.length cap) _ rfl)
  have HB0 := Lib.hid ((Below.refl w.heap.size w).alloc (Nat.le_refl _) (.cells #[.int .i64 t.kind, .int .i64 t.form, .string t.text, .int .i64 t.line, .int .i64 t.col, .slice xa t.kids.length cap] 32))
  obtain ⟨e0, e1, e2, e3, e4, e5⟩ := HN0.out
  unfold nodeV
  by_cases h1 : t.kind = 35
  · have t1 : (t.kind != 35) = false := by simp; exact h1
    by_cases h2 : 2 ≤ t.kids.length
    · have hs : sideX (t.kid 0) = 0 := by
        apply Classical.byContradiction
        intro h3; exact h ⟨h1, h2, h3⟩
      have t2 : decide ((t.kids.length : Int) < 2) = false := by simp; omega
      have hx := hxa (by omega)
      subst hx
      obtain ⟨k0, hk0⟩ : ∃ k, t.kid 0 = k := ⟨_, rfl⟩
      obtain ⟨x0, c0, hc0, hl0⟩ := kid_w HK.out (show 0 < t.kids.length by omega) hk0
      rw [hk0] at hs
      simp only [Nat.zero_mul, Nat.add_zero] at hc0
      have S1 := fun w => side_any k0 (.slice x0 k0.kids.length c0) w
      unfold nodeV at S1
      rw [hs] at S1
      have S1 := Lib.hid S1
      have hc := hc0.below HB0.out
      have a0 := hc.c0; have a1 := hc.c1; have a2 := hc.c2; have a3 := hc.c3; have a4 := hc.c4; have a5 := hc.c5
      clear hc hc0 hl0 hs h h1 hk0 hk hl hxa
      go_enter Tryd.func27, Tryd.ntmps27
      go_wp2_with fail
      refine (S1.out _).mono ?_
      rintro e w1 ⟨rfl, hb1⟩
      have HB1 := Lib.hid (Below.then HB0.out hb1)
      clear hb1
      go_wp2_with fail
      go_ret2
      exact (show OwnPost none w _ _ from ⟨rfl, HB1.out⟩)
    · have t2 : decide ((t.kids.length : Int) < 2) = true := by simp; omega
      clear h h1 hk hl hxa
      go_enter Tryd.func27, Tryd.ntmps27
      go_wp2_with fail
      go_ret2
      exact (show OwnPost none w _ _ from ⟨rfl, HB0.out⟩)
  · have t1 : (t.kind != 35) = true := by rw [bne_iff_ne]; exact h1
    clear h h1 hk hl hxa
    go_enter Tryd.func27, Tryd.ntmps27
    go_wp2_with fail
    go_ret2
    exact (show OwnPost none w _ _ from ⟨rfl, HB0.out⟩)
set_option maxRecDepth 20000 in
set_option maxHeartbeats 8000000 in
theorem own_over (t : Tr) (kv : Value) (w : World) (hl : Lies w t kv) (hT : Tabs16 w) (h1 : t.kind = 35) (h2 : 2 ≤ t.kids.length) (hlen : t.kids.length ≤ 2199023255552) (hs : sideX (t.kid 0) ≠ 0) (hvb : (valueX (t.kid 1).text.data.toList).2 = 0 → 9 < (valueX (t.kid 1).text.data.toList).1) (hts : (t.kid 1).text.size ≤ 1152921504606846976) (hni : (t.kid 1).kind = 1 ∧ (t.kid 1).form = 11) (hm : ∀ i (h : i < t.kids.length), (t.kids[i]).mid.text.size ≤ 1152921504606846976) :
    Calls Tryd.prog 27 #[nodeV t kv] w (OwnPost (none) w) := by
  obtain ⟨xa, cap, b, o, K, rfl, hxa, hk⟩ := hl.kidsOf
  have hroom := hl.room
  have hx := hxa (by omega)
  subst hx
  have hcm : cap ≤ 9223372036854775807 := hroom.2
  have hcl := hroom.1
  have HM := Lib.hid hm
  have HK := Lib.hid hk
  have HT := Lib.hid hT
  have HN0 := Lib.hid (boxed_new w t (.slice (some ⟨b, o, none⟩) t.kids.length cap) _ rfl)
  have HB0 := Lib.hid ((Below.refl w.heap.size w).alloc (Nat.le_refl _) (.cells #[.int .i64 t.kind, .int .i64 t.form, .string t.text, .int .i64 t.line, .int .i64 t.col, .slice (some ⟨b, o, none⟩) t.kids.length cap] 32))
  have t1 : (t.kind != 35) = false := by simp; exact h1
  have t2 : decide ((t.kids.length : Int) < 2) = false := by simp; omega
  have t2b : decide (t.kids.length < 2) = false := by simp; omega
  obtain ⟨k0, hk0⟩ : ∃ k, t.kid 0 = k := ⟨_, rfl⟩
  obtain ⟨k1, hk1⟩ : ∃ k, t.kid 1 = k := ⟨_, rfl⟩
  obtain ⟨x0, c0, hc0, hl0⟩ := kid_w HK.out (show 0 < t.kids.length by omega) hk0
  obtain ⟨x1, c1, hc1, hl1⟩ := kid_w HK.out (show 1 < t.kids.length by omega) hk1
  rw [hk0] at hs
  rw [hk1] at hni hvb hts
  simp only [Nat.zero_mul, Nat.add_zero, Nat.one_mul] at hc0 hc1
  have hbw : b < w.heap.size := lt_of_cell hc0.c0
  have S1 := fun w => side_any k0 (.slice x0 k0.kids.length c0) w
  unfold nodeV at S1
  have t3 : (sideX k0 == 0) = false := by simpa using hs
  generalize sideX k0 = sd at *
  obtain ⟨R, hR⟩ : ∃ R : Option (List Fx), none = R := ⟨_, rfl⟩
  rw [hR]
  have HR0 := Lib.hid hR
  clear hR
  have S1 := Lib.hid S1
  have C0 := Lib.hid hc0
  have C1 := Lib.hid hc1
  clear hk hl hT hxa h1 hs hc0 hc1 hl0 hl1 hm hk0 hk1 hroom
  have t4 : (k1.kind == 1) = true := by simp; exact hni.1
  have t5 : (k1.form == 11) = true := by simp; exact hni.2
  clear hni
  obtain ⟨i0, z0, hi0, iz0, iz1, iz2, iz3⟩ := fix_info
  obtain ⟨e0, e1, e2, e3, e4, e5⟩ := HN0.out
  have hc := C0.out.below HB0.out
  have a0 := hc.c0; have a1 := hc.c1; have a2 := hc.c2; have a3 := hc.c3; have a4 := hc.c4; have a5 := hc.c5
  clear hc
  unfold nodeV
  go_enter Tryd.func27, Tryd.ntmps27
  go_upto_region 3 with (go_at_call 43; refine (S1.out _).mono ?_; rintro e w1 ⟨rfl, hb1⟩)
  have HB1 := Lib.hid (Below.then HB0.out hb1)
  have hn1 := HN0.out.below hb1
  clear e0 e1 e2 e3 e4 e5 a0 a1 a2 a3 a4 a5 hb1
  obtain ⟨e0, e1, e2, e3, e4, e5⟩ := id hn1
  have HN1 := Lib.hid hn1
  have hc := C0.out.below HB1.out
  have a0 := hc.c0; have a1 := hc.c1; have a2 := hc.c2; have a3 := hc.c3; have a4 := hc.c4; have a5 := hc.c5
  clear hn1 hc
  go_upto_region 4 with (go_at_call 43; refine (S1.out _).mono ?_; rintro e w2 ⟨rfl, hb2⟩)
  have HB2 := Lib.hid (Below.then HB1.out hb2)
  have HN2 := Lib.hid (HN1.out.below hb2)
  have hst2 := HB2.out.size
  clear e0 e1 e2 e3 e4 e5 a0 a1 a2 a3 a4 a5 hb2
  have hX3 := rowX_new w2 ⟨⟨#[]⟩, sd, 9⟩
  have hB3 := HB2.out.alloc hst2 (.cells #[.string ⟨#[]⟩, .int .i64 sd, .int .i64 9] 25)
  have hN3 := HN2.out.below ((Below.refl w2.heap.size w2).alloc (Nat.le_refl _) (.cells #[.string ⟨#[]⟩, .int .i64 sd, .int .i64 9] 25))
  have hsz3 : w2.heap.size < (w2.alloc (.cells #[.string ⟨#[]⟩, .int .i64 sd, .int .i64 9] 25)).heap.size := by simp
  generalize (w2.alloc (.cells #[.string ⟨#[]⟩, .int .i64 sd, .int .i64 9] 25)) = w3 at *
  generalize hg : w2.heap.size = g at *
  clear hg
  have HX3 := Lib.hid hX3
  have HB3 := Lib.hid hB3
  obtain ⟨e0, e1, e2, e3, e4, e5⟩ := hN3
  have hc := C1.out.below HB3.out
  have b0 := hc.c0; have b1 := hc.c1; have b2 := hc.c2; have b3 := hc.c3; have b4 := hc.c4; have b5 := hc.c5
  clear hX3 hB3 hc
  obtain ⟨⟨v, c⟩, hv⟩ : ∃ p, valueX k1.text.data.toList = p := ⟨_, rfl⟩
  rw [hv] at hvb
  simp only at hvb
  have v1 := fun w => value_any k1.text w hts
  rw [hv] at v1
  unfold valueV at v1
  simp only at v1
  have V1 := Lib.hid v1
  have hq : (c != 0) = true ∨ ((c != 0) = false ∧ decide (9 < v) = true) := by
    by_cases h : c = 0
    · exact .inr ⟨by simp; exact h, by simpa using hvb h⟩
    · exact .inl (by rw [bne_iff_ne]; exact h)
  clear v1 hts hv hvb
  rcases hq with q1 | ⟨q1, q2⟩
  all_goals
    go_wp2_with fail
    refine (V1.out _).mono ?_
    rintro e w4 ⟨rfl, hb4⟩
    have HB4 := Lib.hid (Below.then HB3.out hb4)
    clear hb4
    go_wp2_with fail
    go_ret2
    exact (show OwnPost R w _ _ by rw [← HR0.out]; exact ⟨rfl, HB4.out⟩)
theorem own_any (t : Tr) (kv : Value) (w : World) (hl : Lies w t kv) (hT : Tabs16 w) (hlen : t.kids.length ≤ 2199023255552) (hts : 2 ≤ t.kids.length → (t.kid 1).text.size ≤ 1152921504606846976) (hm : ∀ i (h : i < t.kids.length), (t.kids[i]).mid.text.size ≤ 1152921504606846976) :
    Calls Tryd.prog 27 #[nodeV t kv] w (OwnPost (ownX t) w) := by
  unfold ownX
  by_cases h : t.kind = 35 ∧ 2 ≤ t.kids.length ∧ sideX (t.kid 0) ≠ 0
  · rw [if_pos h]
    obtain ⟨h1, h2, h3⟩ := h
    unfold precX
    by_cases hi : (t.kid 1).kind = 1 ∧ (t.kid 1).form = 11
    · rw [if_pos hi]
      by_cases hv : (valueX (t.kid 1).text.data.toList).2 = 0 ∧ (valueX (t.kid 1).text.data.toList).1 ≤ 9
      · rw [if_pos hv]
        exact own_int t kv w hl hT h1 h2 hlen h3 _ (Prod.ext rfl hv.1) hv.2 (hts h2) hi hm
      · rw [if_neg hv]
        exact own_over t kv w hl hT h1 h2 hlen h3 (fun e => by
          have : ¬ (valueX (t.kid 1).text.data.toList).1 ≤ 9 := fun h => hv ⟨e, h⟩
          omega) (hts h2) hi hm
    · rw [if_neg hi]
      by_cases hk : (t.kid 1).kind = 1
      · exact own_plain2 t kv w hl hT h1 h2 hlen h3 ⟨hk, fun h => hi ⟨hk, h⟩⟩ hm
      · exact own_plain1 t kv w hl hT h1 h2 hlen h3 hk hm
  · rw [if_neg h]
    exact own_bad t kv w hl h
end Go.Proofs.YtikkdkacflkifaaDoor
