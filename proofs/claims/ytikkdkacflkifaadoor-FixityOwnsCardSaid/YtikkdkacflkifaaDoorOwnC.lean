/- DERIVED. The walk of Own, where a precedence is told. -/
import Derived.Test.YtikkdkacflkifaaDoorOwnB
import Derived.Deep.RegionWith
set_option linter.unusedSimpArgs false
set_option linter.unusedVariables false
namespace Go.Proofs.YtikkdkacflkifaaDoor
open Go.RowKit

def OwnCut (b o m g : Nat) (sd v : Int) (W : World) (lv : Value) (wx : World) : Prop :=
  ∃ (ya : Option Addr) (lc : Nat), lv = .slice ya m lc ∧ (0 < m → ya = some ⟨b, o + 12, none⟩) ∧ RowX wx g ⟨⟨#[]⟩, sd, v⟩ ∧ Below W.heap.size W wx
set_option maxRecDepth 20000 in
set_option maxHeartbeats 8000000 in
theorem own_int (t : Tr) (kv : Value) (w : World) (hl : Lies w t kv) (hT : Tabs16 w) (h1 : t.kind = 35) (h2 : 2 ≤ t.kids.length) (hlen : t.kids.length ≤ 2199023255552) (hs : sideX (t.kid 0) ≠ 0) (v : Int) (hv : valueX (t.kid 1).text.data.toList = (v, 0)) (hv9 : v ≤ 9) (hts : (t.kid 1).text.size ≤ 1152921504606846976) (hni : (t.kid 1).kind = 1 ∧ (t.kid 1).form = 11) (hm : ∀ i (h : i < t.kids.length), (t.kids[i]).mid.text.size ≤ 1152921504606846976) :
    Calls Tryd.prog 27 #[nodeV t kv] w (OwnPost (ownTail (sideX (t.kid 0)) v (t.kids.drop 2)) w) := by
  obtain ⟨xa, cap, b, o, K, rfl, hxa, hk⟩ := hl.kidsOf
  have hroom := hl.room
  have hx := hxa (by omega)
  subst hx
  have hcm : cap ≤ 9223372036854775807 := hroom.2
  have hcl := hroom.1
  have HM := Lib.hid hm
  have HK := Lib.hid hk
  have HT := Lib.hid hT
  have HN0 := Lib.hid (boxed_new w t (.slice (some ⟨b, o, none⟩) t.kids.length cap) _ rfl)
  have HB0 := Lib.hid ((Below.refl w.heap.size w).alloc (Nat.le_refl _) (.cells #[.int .i64 t.kind, .int .i64 t.form, .string t.text, .int .i64 t.line, .int .i64 t.col, .slice (some ⟨b, o, none⟩) t.kids.length cap] 32))
  have t1 : (t.kind != 35) = false := by simp; exact h1
  have t2 : decide ((t.kids.length : Int) < 2) = false := by simp; omega
  have t2b : decide (t.kids.length < 2) = false := by simp; omega
  obtain ⟨k0, hk0⟩ : ∃ k, t.kid 0 = k := ⟨_, rfl⟩
  obtain ⟨k1, hk1⟩ : ∃ k, t.kid 1 = k := ⟨_, rfl⟩
  obtain ⟨x0, c0, hc0, hl0⟩ := kid_w HK.out (show 0 < t.kids.length by omega) hk0
  obtain ⟨x1, c1, hc1, hl1⟩ := kid_w HK.out (show 1 < t.kids.length by omega) hk1
  rw [hk0] at hs ⊢
  rw [hk1] at hni hv hts
  simp only [Nat.zero_mul, Nat.add_zero, Nat.one_mul] at hc0 hc1
  have hbw : b < w.heap.size := lt_of_cell hc0.c0
  have S1 := fun w => side_any k0 (.slice x0 k0.kids.length c0) w
  unfold nodeV at S1
  have t3 : (sideX k0 == 0) = false := by simpa using hs
  generalize sideX k0 = sd at *
  obtain ⟨R, hR⟩ : ∃ R, ownTail sd v (t.kids.drop 2) = R := ⟨_, rfl⟩
  rw [hR]
  have HR0 := Lib.hid hR
  clear hR
  have S1 := Lib.hid S1
  have C0 := Lib.hid hc0
  have C1 := Lib.hid hc1
  clear hk hl hT hxa h1 hs hc0 hc1 hl0 hl1 hm hk0 hk1 hroom
  have t4 : (k1.kind == 1) = true := by simp; exact hni.1
  have t5 : (k1.form == 11) = true := by simp; exact hni.2
  clear hni
  obtain ⟨i0, z0, hi0, iz0, iz1, iz2, iz3⟩ := fix_info
  obtain ⟨e0, e1, e2, e3, e4, e5⟩ := HN0.out
  have hc := C0.out.below HB0.out
  have a0 := hc.c0; have a1 := hc.c1; have a2 := hc.c2; have a3 := hc.c3; have a4 := hc.c4; have a5 := hc.c5
  clear hc
  unfold nodeV
  go_enter Tryd.func27, Tryd.ntmps27
  go_upto_region 3 with (go_at_call 43; refine (S1.out _).mono ?_; rintro e w1 ⟨rfl, hb1⟩)
  have HB1 := Lib.hid (Below.then HB0.out hb1)
  have hn1 := HN0.out.below hb1
  clear e0 e1 e2 e3 e4 e5 a0 a1 a2 a3 a4 a5 hb1
  obtain ⟨e0, e1, e2, e3, e4, e5⟩ := id hn1
  have HN1 := Lib.hid hn1
  have hc := C0.out.below HB1.out
  have a0 := hc.c0; have a1 := hc.c1; have a2 := hc.c2; have a3 := hc.c3; have a4 := hc.c4; have a5 := hc.c5
  clear hn1 hc
  go_upto_region 4 with (go_at_call 43; refine (S1.out _).mono ?_; rintro e w2 ⟨rfl, hb2⟩)
  have HB2 := Lib.hid (Below.then HB1.out hb2)
  have HN2 := Lib.hid (HN1.out.below hb2)
  have hst2 := HB2.out.size
  clear e0 e1 e2 e3 e4 e5 a0 a1 a2 a3 a4 a5 hb2
  have hX3 := rowX_new w2 ⟨⟨#[]⟩, sd, 9⟩
  have hB3 := HB2.out.alloc hst2 (.cells #[.string ⟨#[]⟩, .int .i64 sd, .int .i64 9] 25)
  have hN3 := HN2.out.below ((Below.refl w2.heap.size w2).alloc (Nat.le_refl _) (.cells #[.string ⟨#[]⟩, .int .i64 sd, .int .i64 9] 25))
  have hsz3 : w2.heap.size < (w2.alloc (.cells #[.string ⟨#[]⟩, .int .i64 sd, .int .i64 9] 25)).heap.size := by simp
  generalize (w2.alloc (.cells #[.string ⟨#[]⟩, .int .i64 sd, .int .i64 9] 25)) = w3 at *
  generalize hg : w2.heap.size = g at *
  clear hg
  have HX3 := Lib.hid hX3
  have HB3 := Lib.hid hB3
  obtain ⟨e0, e1, e2, e3, e4, e5⟩ := hN3
  have hc := C1.out.below HB3.out
  have b0 := hc.c0; have b1 := hc.c1; have b2 := hc.c2; have b3 := hc.c3; have b4 := hc.c4; have b5 := hc.c5
  clear hX3 hB3 hc
  have v1 := fun w => value_any k1.text w hts
  rw [hv] at v1
  unfold valueV at v1
  have V1 := Lib.hid v1
  clear v1 hts
  go_upto_region 9 with (go_at_call 44; (with_reducible refine (V1.out _).mono ?_); rintro e w5 ⟨rfl, hb4⟩)
  have HB4p := Lib.hid (Below.then HB3.out hb4)
  have HX4p := Lib.hid (HX3.out.below hb4)
  have z := HX4p.out.frozen
  obtain ⟨d0, d1, d2⟩ := HX4p.out.cells
  have t10 : decide (9 < v) = false := by simp; omega
  clear hb4
  have r0 : (1 : Nat) ≤ t.kids.length - 1 := by omega
  have r1 : t.kids.length - 1 ≤ cap - 1 := by omega
  go_cut [5] (fun lv wx => OwnCut b o (t.kids.length - 2) g sd v w lv wx)
  case first =>
    by_cases hc2 : cap - 1 = 1
    · have hc3 : ¬ 1 < cap - 1 := by omega
      go_region_with (fail)
      all_goals
        go_wp2_with fail
        go_meet
        exact ⟨_, _, congrArg (fun n => Value.slice _ n _) (by omega), by omega, HX4p.out.rank v, below_drewN (HB4p.out.setCell (p := ⟨g, 2, none⟩) (by omega) _) 1⟩
    · have hc3 : 1 < cap - 1 := by omega
      go_region_with (fail)
      all_goals
        go_wp2_with fail
        go_meet
        exact ⟨_, _, congrArg (fun n => Value.slice _ n _) (by omega), fun _ => rfl, HX4p.out.rank v, below_drewN (HB4p.out.setCell (p := ⟨g, 2, none⟩) (by omega) _) 1⟩
  case rest =>
  obtain ⟨ya, lc, rfl, hya, hx4, hb4⟩ := hcut
  obtain ⟨ks, hksd⟩ : ∃ ks, t.kids.drop 2 = ks := ⟨_, rfl⟩
  have hksl : ks.length = t.kids.length - 2 := by rw [← hksd, List.length_drop]
  have HKS : Hid (∀ i (h : i < ks.length), ∃ x c, Cells6 w b (o + 12 + i * 6) ks[i] (.slice x ks[i].kids.length c) ∧ Lies w ks[i] (.slice x ks[i].kids.length c)) := Lib.hid (fun i h => by
    obtain ⟨x, c, h3, h4, _⟩ := kid_at HK.out (Below.refl _ _) (show 2 + i < t.kids.length by omega)
    have e : ks[i] = t.kids[2 + i]'(by omega) := by subst hksd; rw [List.getElem_drop]
    rw [e]
    rw [show o + (2 + i) * 6 = o + 12 + i * 6 from by omega] at h3
    exact ⟨x, c, h3, h4⟩)
  have HMS : Hid (∀ i (h : i < ks.length), (ks[i]).mid.text.size ≤ 1152921504606846976) := Lib.hid (fun i h => by
    have e : ks[i] = t.kids[2 + i]'(by omega) := by subst hksd; rw [List.getElem_drop]
    rw [e]; exact HM.out _ _)
  rw [hksd] at HR0
  rw [← hksl]
  rw [← hksl] at hya
  have hkb : ks.length ≤ 2199023255552 := by omega
  have HYA := Lib.hid hya
  have HX4 := Lib.hid hx4
  have HB4 := Lib.hid hb4
  have hg4 := hx4.lt
  have hst4 := hb4.size
  clear hksl hksd b0 b1 b2 b3 b4 b5 e0 e1 e2 e3 e4 e5 d0 d1 d2 z hya hx4 hb4
  generalize wc = w4 at *
  have HO0 : Hid (OwnsX (w4.alloc (.cells #[] 25)) (g + 1) (.slice (some ⟨w4.heap.size, 0, none⟩) 0 0) []) := Lib.hid (World.ownsRow_lit (base := g + 1) (e := 25) (size := 3) w4 #[] 0 (by omega) (by decide) rfl)
  have HX4a := Lib.hid (HX4.out.alloc (.cells #[] 25))
  have HB4a := Lib.hid (HB4.out.alloc (by omega) (.cells #[] 25))
  have hR : ownTail sd v ks = R := HR0.out
  unfold ownTail at hR
  by_cases he : ks.length % 2 = 0
  · rw [if_pos he] at hR
    have HR := Lib.hid hR
    have t6 : ((ks.length : Int) % 2 == 0) = true := by simp; omega
    clear hR he
    go_wp2_with fail
    go_ret2
    exact (show OwnPost R w _ _ by rw [← HR.out]; exact ⟨rfl, HB4.out⟩)
  · rw [if_neg he] at hR
    have HR := Lib.hid hR
    have t6 : ((ks.length : Int) % 2 == 0) = false := by simp; omega
    clear hR he
    go_wp2_with fail
    go_loopw [8, 76] (fun ov iv wr => OwnAt ks sd v R g w ov iv wr) (fun _ iv _ => ks.length - (intOf iv).toNat)
    case atStart => exact ⟨0, [], ⟨#[]⟩, rfl, Nat.zero_le _, Nat.le_refl _, HO0.out, HX4a.out, HB4a.out, by simpa using HR.out⟩
    case round =>
      obtain ⟨i, acc, nm, rfl, hi, hal, hO, hX, hB, hF⟩ := hrel
      have HO := Lib.hid hO
      have HX := Lib.hid hX
      have HB := Lib.hid hB
      have hgw := hX.lt
      have hst := hB.size
      obtain ⟨va, vc, rfl⟩ := hO.shape
      clear hO hX hB HO0 HX4a HB4a
      by_cases hin : i < ks.length
      · have hya := HYA.out (by omega)
        subst hya
        obtain ⟨x, c, hc1, hl1⟩ := HKS.out i hin
        have hms := HMS.out i hin
        have hdrop := List.drop_eq_getElem_cons hin
        rw [hdrop] at hF
        have hc := hc1.below HB.out
        have HL := Lib.hid (hl1.keep (HB.out.alloc hst (.cells #[.int .i64 ks[i].kind, .int .i64 ks[i].form, .string ks[i].text, .int .i64 ks[i].line, .int .i64 ks[i].col, .slice x ks[i].kids.length c] 32)))
        clear hdrop hc1 hl1
        generalize ks[i] = k at *
        have a0 := hc.c0; have a1 := hc.c1; have a2 := hc.c2; have a3 := hc.c3; have a4 := hc.c4; have a5 := hc.c5
        have HOn := Lib.hid (HO.out.alloc (.cells #[.int .i64 k.kind, .int .i64 k.form, .string k.text, .int .i64 k.line, .int .i64 k.col, .slice x k.kids.length c] 32))
        have HXn := Lib.hid (HX.out.alloc (.cells #[.int .i64 k.kind, .int .i64 k.form, .string k.text, .int .i64 k.line, .int .i64 k.col, .slice x k.kids.length c] 32))
        have HBn := Lib.hid (HB.out.alloc hst (.cells #[.int .i64 k.kind, .int .i64 k.form, .string k.text, .int .i64 k.line, .int .i64 k.col, .slice x k.kids.length c] 32))
        clear hc
        by_cases hp : i % 2 = 1
        · have t7 : ((i : Int) % 2 == 1) = true := by simp; omega
          rw [decide_eq_true hp, ownGo_comma] at hF
          by_cases hk : k.kind = 1 ∧ k.form = 15 ∧ k.text = commaB
          · rw [if_pos hk] at hF
            have q1 : (k.kind != 1) = false := by simp; exact hk.1
            have q2 : (k.form != 15) = false := by simp; exact hk.2.1
            have q3 : (k.text.toList == [44]) = true := by rw [← comma_list]; exact op_eq hk.2.2
            have HF := Lib.hid (show ownGo sd v (decide ((i + 1) % 2 = 1)) (ks.drop (i + 1)) acc = R from by rw [decide_eq_false (by omega)]; exact hF)
            clear hk hF hp
            go_wp2_with fail
            go_roundw
            case rel => exact ⟨i + 1, acc, nm, by go_num, by omega, by omega, HOn.out, HXn.out, HBn.out, HF.out⟩
            case measure => simp [intOf]; omega
          · rw [if_neg hk] at hF
            have HF := Lib.hid hF
            have hq : (k.kind != 1) = true ∨ ((k.kind != 1) = false ∧ (k.form != 15) = true) ∨ ((k.kind != 1) = false ∧ (k.form != 15) = false ∧ (k.text.toList == [44]) = false) := by
              by_cases h1 : k.kind = 1
              · by_cases h2 : k.form = 15
                · exact .inr (.inr ⟨by simp; exact h1, by simp; exact h2, by rw [← comma_list]; exact op_ne (fun h => hk ⟨h1, h2, h⟩)⟩)
                · exact .inr (.inl ⟨by simp; exact h1, by rw [bne_iff_ne]; exact h2⟩)
              · exact .inl (by rw [bne_iff_ne]; exact h1)
            clear hk hF hp
            rcases hq with q1 | ⟨q1, q2⟩ | ⟨q1, q2, q3⟩
            all_goals
              go_wp2_with fail
              go_ret2
              exact (show OwnPost R w _ _ by rw [← HF.out]; exact ⟨rfl, HBn.out⟩)
        · have t7 : ((i : Int) % 2 == 1) = false := by simp; omega
          rw [decide_eq_false hp, ownGo_name] at hF
          have N1 := fun w hl hT => opName_any k (.slice x k.kids.length c) w hms hl hT
          unfold nodeV at N1
          have hsz1 : wr.heap.size < (wr.alloc (.cells #[.int .i64 k.kind, .int .i64 k.form, .string k.text, .int .i64 k.line, .int .i64 k.col, .slice x k.kids.length c] 32)).heap.size := by simp
          cases hnk : nameX k with
          | none =>
            rw [hnk] at hF N1
            have HF := Lib.hid hF
            have N1 := Lib.hid N1
            clear hF hnk hp
            go_wp2_with fail
            refine (N1.out _ HL.out (HT.out.below HBn.out)).mono ?_
            rintro e w6 ⟨rfl, hb6⟩
            have HB6 := Lib.hid (Below.then HBn.out hb6)
            clear hb6
            unfold nameV
            go_wp2_with fail
            go_ret2
            exact (show OwnPost R w _ _ by rw [← HF.out]; exact ⟨rfl, HB6.out⟩)
          | some s =>
            rw [hnk] at hF N1
            have HF := Lib.hid (show ownGo sd v (decide ((i + 1) % 2 = 1)) (ks.drop (i + 1)) (acc ++ [⟨s, sd, v⟩]) = R from by rw [decide_eq_true (by omega)]; exact hF)
            have N1 := Lib.hid N1
            clear hF hnk hp
            go_wp2_with fail
            refine (N1.out _ HL.out (HT.out.below HBn.out)).mono ?_
            rintro e w6 ⟨rfl, hb6⟩
            have HB6 := Lib.hid (Below.then HBn.out hb6)
            have HO6 := Lib.hid (HOn.out.below hb6)
            have HX6 := Lib.hid (HXn.out.below hb6)
            clear hb6
            unfold nameV
            go_upto_region 22 with fail
            have z := HX6.out.frozen
            obtain ⟨d0, d1, d2⟩ := HX6.out.cells
            have hst6 := HB6.out.size
            have hg6 := HX6.out.lt
            go_upto_region 23 with fail
            clear d0 d1 d2 z
            have hX7 := HX6.out.name s
            have hO7 : OwnsX (w6.setCell ⟨g, 0, none⟩ (.string s)) (g + 1) _ acc := HO6.out.at (fun k hk _ => Below.heap_setCell w6 ⟨g, 0, none⟩ _ k (by show k ≠ g; omega))
            have hB7 := HB6.out.setCell (p := ⟨g, 0, none⟩) (by omega) (.string s)
            have hs7 : (w6.setCell ⟨g, 0, none⟩ (.string s)).heap.size = w6.heap.size := by simp
            have hs7a : w.heap.size ≤ (w6.setCell ⟨g, 0, none⟩ (.string s)).heap.size := by omega
            have hs7b : g < (w6.setCell ⟨g, 0, none⟩ (.string s)).heap.size := by omega
            clear hs7
            generalize (w6.setCell ⟨g, 0, none⟩ (.string s)) = w7 at *
            have HO7 := Lib.hid hO7
            have HX7 := Lib.hid hX7
            have HB7 := Lib.hid hB7
            obtain ⟨d0, d1, d2⟩ := hX7.cells
            clear hX7 hO7 hB7
            go_wp2_with (at_builtin; refine wpList_append_own _ rfl _ _ 22 rfl (g + 1) 25 i0 z0 3 32 Tryd.underlying22 hi0 iz0 iz1 iz2 iz3 (by decide) _ _ _ rfl (HO7.out.alloc _) ⟨w7.heap.size, 0, none⟩ 1 1 ([(⟨s, sd, v⟩ : Fx)].flatMap fxCells) rfl rfl (new_fix _ ⟨s, sd, v⟩ _ rfl) (fix_one _) (by simp only [maxLen]; omega) (by omega) (by simp; omega) ?_; rintro v' w8 hown' hgrow -; have HOw := Lib.hid hown'; have HGw := Lib.hid hgrow; clear hown' hgrow)
            have HO8 := Lib.hid (OwnsX.more HOw.out rfl)
            have HB8 := Lib.hid ((HB7.out.alloc hs7a _).grown HGw.out (by simp; omega) (fun k hk => by have := (HO7.out.lt k hk).1; omega))
            have HX8 := Lib.hid (show RowX w8 g _ from (HGw.out.block g (by simp; omega) (fun e => by have := (HO7.out.lt g e.symm).1; omega)).trans (HX7.out.alloc _))
            clear d0 d1 d2
            go_roundw
            case rel => exact ⟨i + 1, acc ++ [⟨s, sd, v⟩], s, by go_num, by omega, by rw [List.length_append]; simp; omega, HO8.out, HX8.out, HB8.out, HF.out⟩
            case measure => simp [intOf]; omega
      · have hi' : i = ks.length := by omega
        subst hi'
        rw [List.drop_length, ownGo_nil] at hF
        have HF := Lib.hid hF
        have t8 : decide (ks.length < ks.length) = false := by simp
        have t8b : decide ((ks.length : Int) < ks.length) = false := by simp
        clear hF hin
        go_wp2_with fail
        go_ret2
        exact (show OwnPost R w _ _ by rw [← HF.out]; exact ⟨_, rfl, HO.out.base (by omega), HB.out⟩)
end Go.Proofs.YtikkdkacflkifaaDoor
