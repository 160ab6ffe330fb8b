/- DERIVED. The walk of tight, at an operator: way 2 of its left side. -/
import Derived.Test.YtikkdkacflkifaaDoorTightB
set_option linter.unusedSimpArgs false
set_option linter.unusedVariables false
namespace Go.Proofs.YtikkdkacflkifaaDoor
open Go.RowKit

set_option maxRecDepth 20000 in
set_option maxHeartbeats 8000000 in
theorem tight_inf20 (env : List Fx) (xa : Option Addr) (ec eb eo : Nat) (ops : List Tr) (oa : Option Addr) (oc ob oo : Nat) (OK : Nat → Value) (t l r : Tr) (a m c : Nat) (hk : t.kind = 20) (h3 : t.kids.length = 3) (hx : t.kids[0]? = some l) (hy : t.kids[2]? = some r) (ha : a < ops.length) (hm : m < ops.length)
    (hD1 : TDoes env xa ec eb eo ops oa oc ob oo OK l a m) (hD2 : TDoes env xa ec eb eo ops oa oc ob oo OK r m c) (hA : t.alike ops[a] = false) (f g h : Fx) (gi hi : Bool) (hf : underX env t = (f, true)) (hg : underX env l = (g, gi)) (hh : underX env r = (h, hi))
    (hmt : t.op.mid.text.size ≤ 1152921504606846976) (hml : l.kind = 20 → l.op.mid.text.size ≤ 1152921504606846976) (hmr : r.kind = 20 → r.op.mid.text.size ≤ 1152921504606846976)
    (hql : l.alike ops[a] = false ∧ gi = true ∧ decide (g.prec < f.prec) = false ∧ (g.prec == f.prec) = true ∧ (g.side != 1) = false ∧ (f.side != 1) = false) (hqr : hi = false) : TDoes env xa ec eb eo ops oa oc ob oo OK t a c := by
  intro kv w hG hl
  obtain ⟨xq, cq, hq1, hq2⟩ := hG.opd a ha
  obtain ⟨xp, cp, hp1, hp2⟩ := hG.opd m hm
  obtain ⟨ka, cap, b, o, K, rfl, hka, hkk⟩ := hl.kidsOf
  have hka := hka (by omega)
  subst hka
  have hoa := hG.hoa (by omega)
  subst hoa
  have hol := hG.hlen
  obtain ⟨xx, cx, hx1, hx2, _⟩ := kid_at hkk (Below.refl _ _) (show 0 < t.kids.length by omega)
  obtain ⟨xy, cy, hy1, hy2, _⟩ := kid_at hkk (Below.refl _ _) (show 2 < t.kids.length by omega)
  have hxe : t.kids[0] = l := by rw [List.getElem?_eq_getElem (by omega)] at hx; injection hx
  have hye : t.kids[2] = r := by rw [List.getElem?_eq_getElem (by omega)] at hy; injection hy
  rw [hxe, Nat.zero_mul, Nat.add_zero] at hx1
  rw [hxe] at hx2
  rw [hye] at hy1 hy2
  have U1 := fun w (hG : TGround w env xa eb eo ops (some ⟨ob, oo, none⟩) ob oo OK) hl => under_any env xa ec eb eo t (.slice (some ⟨b, o, none⟩) t.kids.length cap) w hG.hxa hG.hE hl hG.hT (fun _ => hmt)
  have U2 := fun w (hG : TGround w env xa eb eo ops (some ⟨ob, oo, none⟩) ob oo OK) hl => under_any env xa ec eb eo l (.slice xx l.kids.length cx) w hG.hxa hG.hE hl hG.hT hml
  have U3 := fun w (hG : TGround w env xa eb eo ops (some ⟨ob, oo, none⟩) ob oo OK) hl => under_any env xa ec eb eo r (.slice xy r.kids.length cy) w hG.hxa hG.hE hl hG.hT hmr
  rw [hf] at U1
  rw [hg] at U2
  rw [hh] at U3
  have A1 := fun kv jv w => refAll_any t.size t ops[a] kv jv w (Nat.le_refl _)
  have A2 := fun kv jv w => refAll_any l.size l ops[a] kv jv w (Nat.le_refl _)
  have A3 := fun kv jv w => refAll_any r.size r ops[m] kv jv w (Nat.le_refl _)
  rw [hA] at A1
  obtain ⟨pl, hpl⟩ : ∃ p, l.alike ops[a] = p := ⟨_, rfl⟩
  obtain ⟨pr, hpr⟩ : ∃ p, r.alike ops[m] = p := ⟨_, rfl⟩
  rw [hpl] at A2
  rw [hpr] at A3
  try rw [hpl] at hql
  try rw [hpr] at hqr
  have A1 := Lib.hid A1
  have A2 := Lib.hid A2
  have A3 := Lib.hid A3
  have U1 := Lib.hid U1
  have U2 := Lib.hid U2
  have U3 := Lib.hid U3
  have T1 := Lib.hid hD1
  have T2 := Lib.hid hD2
  have HL := Lib.hid hl
  have HX := Lib.hid hx1
  have HXL := Lib.hid hx2
  have HY := Lib.hid hy1
  have HYL := Lib.hid hy2
  have HQ := Lib.hid hq1
  have HQL := Lib.hid hq2
  have HP := Lib.hid hp1
  have HPL := Lib.hid hp2
  have HG := Lib.hid hG
  generalize ops[a] = q at *
  generalize ops[m] = p at *
  have t1 : decide ((a : Int) < ops.length) = true := by simp; omega
  have t4 : decide ((m : Int) < ops.length) = true := by simp; omega
  have t2 : (t.kind == 21) = false := by simp; omega
  have i0 : (0 : Int) < t.kids.length := by omega
  have j0 : 0 < t.kids.length := by omega
  have i2 : (2 : Int) < t.kids.length := by omega
  clear hG hl hx1 hx2 hy1 hy2 hq1 hq2 hp1 hp2 hx hy hxe hye hkk hD1 hD2 hA hmt hml hmr hf hg hh hpl hpr hk h3
  have r0 := fun w' (h : TS w t (.slice (some ⟨b, o, none⟩) t.kids.length cap) w') => h.1.cells.1
  have s0 := fun w' (h : TS w t (.slice (some ⟨b, o, none⟩) t.kids.length cap) w') => (six0 HQ.out h.2).1
  have p0 := fun w' (h : TS w t (.slice (some ⟨b, o, none⟩) t.kids.length cap) w') => (six0 HP.out h.2).1
  have q0 := fun w' (h : TS w t (.slice (some ⟨b, o, none⟩) t.kids.length cap) w') => (six0 HX.out h.2).1
  have y0 := fun w' (h : TS w t (.slice (some ⟨b, o, none⟩) t.kids.length cap) w') => (six12 HY.out h.2).1
  have r1 := fun w' (h : TS w t (.slice (some ⟨b, o, none⟩) t.kids.length cap) w') => h.1.cells.2.1
  have s1 := fun w' (h : TS w t (.slice (some ⟨b, o, none⟩) t.kids.length cap) w') => (six0 HQ.out h.2).2.1
  have p1 := fun w' (h : TS w t (.slice (some ⟨b, o, none⟩) t.kids.length cap) w') => (six0 HP.out h.2).2.1
  have q1 := fun w' (h : TS w t (.slice (some ⟨b, o, none⟩) t.kids.length cap) w') => (six0 HX.out h.2).2.1
  have y1 := fun w' (h : TS w t (.slice (some ⟨b, o, none⟩) t.kids.length cap) w') => (six12 HY.out h.2).2.1
  have r2 := fun w' (h : TS w t (.slice (some ⟨b, o, none⟩) t.kids.length cap) w') => h.1.cells.2.2.1
  have s2 := fun w' (h : TS w t (.slice (some ⟨b, o, none⟩) t.kids.length cap) w') => (six0 HQ.out h.2).2.2.1
  have p2 := fun w' (h : TS w t (.slice (some ⟨b, o, none⟩) t.kids.length cap) w') => (six0 HP.out h.2).2.2.1
  have q2 := fun w' (h : TS w t (.slice (some ⟨b, o, none⟩) t.kids.length cap) w') => (six0 HX.out h.2).2.2.1
  have y2 := fun w' (h : TS w t (.slice (some ⟨b, o, none⟩) t.kids.length cap) w') => (six12 HY.out h.2).2.2.1
  have r3 := fun w' (h : TS w t (.slice (some ⟨b, o, none⟩) t.kids.length cap) w') => h.1.cells.2.2.2.1
  have s3 := fun w' (h : TS w t (.slice (some ⟨b, o, none⟩) t.kids.length cap) w') => (six0 HQ.out h.2).2.2.2.1
  have p3 := fun w' (h : TS w t (.slice (some ⟨b, o, none⟩) t.kids.length cap) w') => (six0 HP.out h.2).2.2.2.1
  have q3 := fun w' (h : TS w t (.slice (some ⟨b, o, none⟩) t.kids.length cap) w') => (six0 HX.out h.2).2.2.2.1
  have y3 := fun w' (h : TS w t (.slice (some ⟨b, o, none⟩) t.kids.length cap) w') => (six12 HY.out h.2).2.2.2.1
  have r4 := fun w' (h : TS w t (.slice (some ⟨b, o, none⟩) t.kids.length cap) w') => h.1.cells.2.2.2.2.1
  have s4 := fun w' (h : TS w t (.slice (some ⟨b, o, none⟩) t.kids.length cap) w') => (six0 HQ.out h.2).2.2.2.2.1
  have p4 := fun w' (h : TS w t (.slice (some ⟨b, o, none⟩) t.kids.length cap) w') => (six0 HP.out h.2).2.2.2.2.1
  have q4 := fun w' (h : TS w t (.slice (some ⟨b, o, none⟩) t.kids.length cap) w') => (six0 HX.out h.2).2.2.2.2.1
  have y4 := fun w' (h : TS w t (.slice (some ⟨b, o, none⟩) t.kids.length cap) w') => (six12 HY.out h.2).2.2.2.2.1
  have r5 := fun w' (h : TS w t (.slice (some ⟨b, o, none⟩) t.kids.length cap) w') => h.1.cells.2.2.2.2.2
  have s5 := fun w' (h : TS w t (.slice (some ⟨b, o, none⟩) t.kids.length cap) w') => (six0 HQ.out h.2).2.2.2.2.2
  have p5 := fun w' (h : TS w t (.slice (some ⟨b, o, none⟩) t.kids.length cap) w') => (six0 HP.out h.2).2.2.2.2.2
  have q5 := fun w' (h : TS w t (.slice (some ⟨b, o, none⟩) t.kids.length cap) w') => (six0 HX.out h.2).2.2.2.2.2
  have y5 := fun w' (h : TS w t (.slice (some ⟨b, o, none⟩) t.kids.length cap) w') => (six12 HY.out h.2).2.2.2.2.2
  have HS0 := Lib.hid (TS.start w t (.slice (some ⟨b, o, none⟩) t.kids.length cap)).drew
  unfold nodeV
  obtain ⟨rfl, rfl, l1, l2, l3, l4⟩ := hql
  obtain rfl := hqr
  go_enter Tryd.func21, Tryd.ntmps21
  go_wp2_with fail
  go_region_held3 (fun w' => TS w t (.slice (some ⟨b, o, none⟩) t.kids.length cap) w')
    (first
      | with_reducible exact HS1.out
      | with_reducible exact HS0.out)
    (first
      | (go_at_call 20; refine (A1.out _ _ _ (HL.out.keep HS0.out.2) (HQL.out.keep HS0.out.2)).mono ?_; rintro e w1 ⟨rfl, hb9⟩; have HS1 := Lib.hid (HS0.out.below hb9)))
  clear hb9
  go_wp2_with fail
  refine (U1.out _ (HG.out.below HS1.out.2) (HL.out.keep HS1.out.2)).mono ?_
  rintro e w2 ⟨rfl, hb2⟩
  have HS2 := Lib.hid ((HS1.out.below hb2).alloc (.cells #[.string f.op, .int .i64 f.side, .int .i64 f.prec] 25))
  have HF2 := Lib.hid (rowX_new w2 f)
  clear hb2
  have n0 := HS2.out.n0
  have n5 := HS2.out.n5
  obtain ⟨x0, x1, x2, x3, x4, x5⟩ := six0 HX.out HS2.out.2
  unfold underV
  simp only
  go_wp2_with fail
  refine (U2.out _ (HG.out.below HS2.out.2) (HXL.out.keep HS2.out.2)).mono ?_
  rintro e w3 ⟨rfl, hb3⟩
  have hfg : w2.heap.size < w3.heap.size := by have h9 := hb3.size; simp at h9; omega
  have hgl : w.heap.size < w3.heap.size := (HS2.out.below hb3).1.lt
  have HS3 := Lib.hid ((HS2.out.below hb3).alloc (.cells #[.string g.op, .int .i64 g.side, .int .i64 g.prec] 25)).drew
  have HG3 := Lib.hid (rowX_new w3 g)
  have HF3 := Lib.hid ((HF2.out.below hb3).alloc (.cells #[.string g.op, .int .i64 g.side, .int .i64 g.prec] 25))
  clear hb3 n0 n5 x0 x1 x2 x3 x4 x5
  unfold underV
  simp only
  go_wp2_with fail
  go_region_held3 (fun w' => TS w t (.slice (some ⟨b, o, none⟩) t.kids.length cap) w')
    (first
      | with_reducible exact HS4.out
      | with_reducible exact HS3.out)
    (first
      | (go_at_call 20; refine (A2.out _ _ _ (HXL.out.keep HS3.out.2) (HQL.out.keep HS3.out.2)).mono ?_; rintro e w4 ⟨rfl, hb9⟩; have HS4 := Lib.hid (HS3.out.below hb9)))
  have hbt : Below (w3.alloc (.cells #[.string g.op, .int .i64 g.side, .int .i64 g.prec] 25)).heap.size (w3.alloc (.cells #[.string g.op, .int .i64 g.side, .int .i64 g.prec] 25)) w4 := Below.then (Below.refl _ _).drew hb9
  have HG4 := Lib.hid (HG3.out.below hbt)
  have HF4 := Lib.hid (HF3.out.below hbt)
  clear hb9 hbt
  have n0 := HS4.out.n0
  have n5 := HS4.out.n5
  obtain ⟨x0, x1, x2, x3, x4, x5⟩ := six0 HX.out HS4.out.2
  obtain ⟨g0, g1, g2⟩ := HG4.out.cells
  obtain ⟨f0, f1, f2⟩ := HF4.out.cells
  go_wp2_with fail
  refine (T1.out _ _ (HG.out.below HS4.out.2) (HXL.out.keep HS4.out.2)).mono ?_
  rintro e w5 ⟨rfl, hb5⟩
  have HS5 := Lib.hid (HS4.out.below hb5)
  have HG5 := Lib.hid (HG4.out.below hb5)
  have HF5 := Lib.hid (HF4.out.below hb5)
  clear hb5 n0 n5 x0 x1 x2 x3 x4 x5 g0 g1 g2 f0 f1 f2
  have n0 := HS5.out.n0
  have n5 := HS5.out.n5
  obtain ⟨x0, x1, x2, x3, x4, x5⟩ := six12 HY.out HS5.out.2
  go_wp2_with fail
  refine (U3.out _ (HG.out.below HS5.out.2) (HYL.out.keep HS5.out.2)).mono ?_
  rintro e w6 ⟨rfl, hb6⟩
  have HS6 := Lib.hid (HS5.out.below hb6)
  have HG6 := Lib.hid (HG5.out.below hb6)
  have HF6 := Lib.hid (HF5.out.below hb6)
  clear hb6 n0 n5 x0 x1 x2 x3 x4 x5
  have z := HG6.out.frozen
  obtain ⟨g0, g1, g2⟩ := HG6.out.cells
  unfold underV
  simp only
  go_wp2_with fail
  obtain ⟨wN, hwN, hRN, hoN, hsN, h1N, h2N, h3N⟩ := store_fix HG6.out h.op h.side h.prec
  rw [hwN]
  have HS7' := Lib.hid (show TS w t (.slice (some ⟨b, o, none⟩) t.kids.length cap) wN from ⟨HS6.out.1.keep (hoN _ (by omega)), below_fresh HS6.out.2 (g := w3.heap.size) (by omega) hoN hsN h1N h2N h3N⟩)
  have HS7 := Lib.hid HS7'.out.drew
  have HG7 := Lib.hid (show RowX wN w3.heap.size h from hRN)
  have HF7 := Lib.hid (HF6.out.keep (hoN _ (by omega)))
  clear hwN hRN hoN hsN h1N h2N h3N z g0 g1 g2
  go_region_held3 (fun w' => TS w t (.slice (some ⟨b, o, none⟩) t.kids.length cap) w')
    (first
      | with_reducible exact HS8.out
      | with_reducible exact HS7.out)
    (first
      | (go_at_call 20; refine (A3.out _ _ _ (HYL.out.keep HS7.out.2) (HPL.out.keep HS7.out.2)).mono ?_; rintro e w8 ⟨rfl, hb9⟩; have HS8 := Lib.hid (HS7.out.below hb9)))
  have hbt : Below wN.heap.size wN w8 := Below.then (Below.refl _ _).drew hb9
  have HG8 := Lib.hid (HG7.out.below hbt)
  have HF8 := Lib.hid (HF7.out.below hbt)
  clear hb9 hbt r0 r1 r2 r3 r4 r5 q0 q1 q2 q3 q4 q5 s0 s1 s2 s3 s4 s5 y0 y1 y2 y3 y4 y5 p0 p1 p2 p3 p4 p5
  have n0 := HS8.out.n0
  have n5 := HS8.out.n5
  obtain ⟨x0, x1, x2, x3, x4, x5⟩ := six12 HY.out HS8.out.2
  obtain ⟨g0, g1, g2⟩ := HG8.out.cells
  obtain ⟨f0, f1, f2⟩ := HF8.out.cells
  go_wp2_with fail
  refine (T2.out _ _ (HG.out.below HS8.out.2) (HYL.out.keep HS8.out.2)).mono ?_
  rintro e w9 ⟨rfl, hb9⟩
  have HS9 := Lib.hid (HS8.out.below hb9)
  clear hb9
  go_wp2_with fail
  go_ret2
  exact ⟨rfl, HS9.out.2⟩
set_option maxRecDepth 20000 in
set_option maxHeartbeats 8000000 in
theorem tight_inf21 (env : List Fx) (xa : Option Addr) (ec eb eo : Nat) (ops : List Tr) (oa : Option Addr) (oc ob oo : Nat) (OK : Nat → Value) (t l r : Tr) (a m c : Nat) (hk : t.kind = 20) (h3 : t.kids.length = 3) (hx : t.kids[0]? = some l) (hy : t.kids[2]? = some r) (ha : a < ops.length) (hm : m < ops.length)
    (hD1 : TDoes env xa ec eb eo ops oa oc ob oo OK l a m) (hD2 : TDoes env xa ec eb eo ops oa oc ob oo OK r m c) (hA : t.alike ops[a] = false) (f g h : Fx) (gi hi : Bool) (hf : underX env t = (f, true)) (hg : underX env l = (g, gi)) (hh : underX env r = (h, hi))
    (hmt : t.op.mid.text.size ≤ 1152921504606846976) (hml : l.kind = 20 → l.op.mid.text.size ≤ 1152921504606846976) (hmr : r.kind = 20 → r.op.mid.text.size ≤ 1152921504606846976)
    (hql : l.alike ops[a] = false ∧ gi = true ∧ decide (g.prec < f.prec) = false ∧ (g.prec == f.prec) = true ∧ (g.side != 1) = false ∧ (f.side != 1) = false) (hqr : r.alike ops[m] = false ∧ hi = true ∧ (r.kind == 21) = true ∧ (r.kind == 20) = false ∧ decide (6 ≤ f.prec) = false) : TDoes env xa ec eb eo ops oa oc ob oo OK t a c := by
  intro kv w hG hl
  obtain ⟨xq, cq, hq1, hq2⟩ := hG.opd a ha
  obtain ⟨xp, cp, hp1, hp2⟩ := hG.opd m hm
  obtain ⟨ka, cap, b, o, K, rfl, hka, hkk⟩ := hl.kidsOf
  have hka := hka (by omega)
  subst hka
  have hoa := hG.hoa (by omega)
  subst hoa
  have hol := hG.hlen
  obtain ⟨xx, cx, hx1, hx2, _⟩ := kid_at hkk (Below.refl _ _) (show 0 < t.kids.length by omega)
  obtain ⟨xy, cy, hy1, hy2, _⟩ := kid_at hkk (Below.refl _ _) (show 2 < t.kids.length by omega)
  have hxe : t.kids[0] = l := by rw [List.getElem?_eq_getElem (by omega)] at hx; injection hx
  have hye : t.kids[2] = r := by rw [List.getElem?_eq_getElem (by omega)] at hy; injection hy
  rw [hxe, Nat.zero_mul, Nat.add_zero] at hx1
  rw [hxe] at hx2
  rw [hye] at hy1 hy2
  have U1 := fun w (hG : TGround w env xa eb eo ops (some ⟨ob, oo, none⟩) ob oo OK) hl => under_any env xa ec eb eo t (.slice (some ⟨b, o, none⟩) t.kids.length cap) w hG.hxa hG.hE hl hG.hT (fun _ => hmt)
  have U2 := fun w (hG : TGround w env xa eb eo ops (some ⟨ob, oo, none⟩) ob oo OK) hl => under_any env xa ec eb eo l (.slice xx l.kids.length cx) w hG.hxa hG.hE hl hG.hT hml
  have U3 := fun w (hG : TGround w env xa eb eo ops (some ⟨ob, oo, none⟩) ob oo OK) hl => under_any env xa ec eb eo r (.slice xy r.kids.length cy) w hG.hxa hG.hE hl hG.hT hmr
  rw [hf] at U1
  rw [hg] at U2
  rw [hh] at U3
  have A1 := fun kv jv w => refAll_any t.size t ops[a] kv jv w (Nat.le_refl _)
  have A2 := fun kv jv w => refAll_any l.size l ops[a] kv jv w (Nat.le_refl _)
  have A3 := fun kv jv w => refAll_any r.size r ops[m] kv jv w (Nat.le_refl _)
  rw [hA] at A1
  obtain ⟨pl, hpl⟩ : ∃ p, l.alike ops[a] = p := ⟨_, rfl⟩
  obtain ⟨pr, hpr⟩ : ∃ p, r.alike ops[m] = p := ⟨_, rfl⟩
  rw [hpl] at A2
  rw [hpr] at A3
  try rw [hpl] at hql
  try rw [hpr] at hqr
  have A1 := Lib.hid A1
  have A2 := Lib.hid A2
  have A3 := Lib.hid A3
  have U1 := Lib.hid U1
  have U2 := Lib.hid U2
  have U3 := Lib.hid U3
  have T1 := Lib.hid hD1
  have T2 := Lib.hid hD2
  have HL := Lib.hid hl
  have HX := Lib.hid hx1
  have HXL := Lib.hid hx2
  have HY := Lib.hid hy1
  have HYL := Lib.hid hy2
  have HQ := Lib.hid hq1
  have HQL := Lib.hid hq2
  have HP := Lib.hid hp1
  have HPL := Lib.hid hp2
  have HG := Lib.hid hG
  generalize ops[a] = q at *
  generalize ops[m] = p at *
  have t1 : decide ((a : Int) < ops.length) = true := by simp; omega
  have t4 : decide ((m : Int) < ops.length) = true := by simp; omega
  have t2 : (t.kind == 21) = false := by simp; omega
  have i0 : (0 : Int) < t.kids.length := by omega
  have j0 : 0 < t.kids.length := by omega
  have i2 : (2 : Int) < t.kids.length := by omega
  clear hG hl hx1 hx2 hy1 hy2 hq1 hq2 hp1 hp2 hx hy hxe hye hkk hD1 hD2 hA hmt hml hmr hf hg hh hpl hpr hk h3
  have r0 := fun w' (h : TS w t (.slice (some ⟨b, o, none⟩) t.kids.length cap) w') => h.1.cells.1
  have s0 := fun w' (h : TS w t (.slice (some ⟨b, o, none⟩) t.kids.length cap) w') => (six0 HQ.out h.2).1
  have p0 := fun w' (h : TS w t (.slice (some ⟨b, o, none⟩) t.kids.length cap) w') => (six0 HP.out h.2).1
  have q0 := fun w' (h : TS w t (.slice (some ⟨b, o, none⟩) t.kids.length cap) w') => (six0 HX.out h.2).1
  have y0 := fun w' (h : TS w t (.slice (some ⟨b, o, none⟩) t.kids.length cap) w') => (six12 HY.out h.2).1
  have r1 := fun w' (h : TS w t (.slice (some ⟨b, o, none⟩) t.kids.length cap) w') => h.1.cells.2.1
  have s1 := fun w' (h : TS w t (.slice (some ⟨b, o, none⟩) t.kids.length cap) w') => (six0 HQ.out h.2).2.1
  have p1 := fun w' (h : TS w t (.slice (some ⟨b, o, none⟩) t.kids.length cap) w') => (six0 HP.out h.2).2.1
  have q1 := fun w' (h : TS w t (.slice (some ⟨b, o, none⟩) t.kids.length cap) w') => (six0 HX.out h.2).2.1
  have y1 := fun w' (h : TS w t (.slice (some ⟨b, o, none⟩) t.kids.length cap) w') => (six12 HY.out h.2).2.1
  have r2 := fun w' (h : TS w t (.slice (some ⟨b, o, none⟩) t.kids.length cap) w') => h.1.cells.2.2.1
  have s2 := fun w' (h : TS w t (.slice (some ⟨b, o, none⟩) t.kids.length cap) w') => (six0 HQ.out h.2).2.2.1
  have p2 := fun w' (h : TS w t (.slice (some ⟨b, o, none⟩) t.kids.length cap) w') => (six0 HP.out h.2).2.2.1
  have q2 := fun w' (h : TS w t (.slice (some ⟨b, o, none⟩) t.kids.length cap) w') => (six0 HX.out h.2).2.2.1
  have y2 := fun w' (h : TS w t (.slice (some ⟨b, o, none⟩) t.kids.length cap) w') => (six12 HY.out h.2).2.2.1
  have r3 := fun w' (h : TS w t (.slice (some ⟨b, o, none⟩) t.kids.length cap) w') => h.1.cells.2.2.2.1
  have s3 := fun w' (h : TS w t (.slice (some ⟨b, o, none⟩) t.kids.length cap) w') => (six0 HQ.out h.2).2.2.2.1
  have p3 := fun w' (h : TS w t (.slice (some ⟨b, o, none⟩) t.kids.length cap) w') => (six0 HP.out h.2).2.2.2.1
  have q3 := fun w' (h : TS w t (.slice (some ⟨b, o, none⟩) t.kids.length cap) w') => (six0 HX.out h.2).2.2.2.1
  have y3 := fun w' (h : TS w t (.slice (some ⟨b, o, none⟩) t.kids.length cap) w') => (six12 HY.out h.2).2.2.2.1
  have r4 := fun w' (h : TS w t (.slice (some ⟨b, o, none⟩) t.kids.length cap) w') => h.1.cells.2.2.2.2.1
  have s4 := fun w' (h : TS w t (.slice (some ⟨b, o, none⟩) t.kids.length cap) w') => (six0 HQ.out h.2).2.2.2.2.1
  have p4 := fun w' (h : TS w t (.slice (some ⟨b, o, none⟩) t.kids.length cap) w') => (six0 HP.out h.2).2.2.2.2.1
  have q4 := fun w' (h : TS w t (.slice (some ⟨b, o, none⟩) t.kids.length cap) w') => (six0 HX.out h.2).2.2.2.2.1
  have y4 := fun w' (h : TS w t (.slice (some ⟨b, o, none⟩) t.kids.length cap) w') => (six12 HY.out h.2).2.2.2.2.1
  have r5 := fun w' (h : TS w t (.slice (some ⟨b, o, none⟩) t.kids.length cap) w') => h.1.cells.2.2.2.2.2
  have s5 := fun w' (h : TS w t (.slice (some ⟨b, o, none⟩) t.kids.length cap) w') => (six0 HQ.out h.2).2.2.2.2.2
  have p5 := fun w' (h : TS w t (.slice (some ⟨b, o, none⟩) t.kids.length cap) w') => (six0 HP.out h.2).2.2.2.2.2
  have q5 := fun w' (h : TS w t (.slice (some ⟨b, o, none⟩) t.kids.length cap) w') => (six0 HX.out h.2).2.2.2.2.2
  have y5 := fun w' (h : TS w t (.slice (some ⟨b, o, none⟩) t.kids.length cap) w') => (six12 HY.out h.2).2.2.2.2.2
  have HS0 := Lib.hid (TS.start w t (.slice (some ⟨b, o, none⟩) t.kids.length cap)).drew
  unfold nodeV
  obtain ⟨rfl, rfl, l1, l2, l3, l4⟩ := hql
  obtain ⟨rfl, rfl, m1, m2, m3⟩ := hqr
  go_enter Tryd.func21, Tryd.ntmps21
  go_wp2_with fail
  go_region_held3 (fun w' => TS w t (.slice (some ⟨b, o, none⟩) t.kids.length cap) w')
    (first
      | with_reducible exact HS1.out
      | with_reducible exact HS0.out)
    (first
      | (go_at_call 20; refine (A1.out _ _ _ (HL.out.keep HS0.out.2) (HQL.out.keep HS0.out.2)).mono ?_; rintro e w1 ⟨rfl, hb9⟩; have HS1 := Lib.hid (HS0.out.below hb9)))
  clear hb9
  go_wp2_with fail
  refine (U1.out _ (HG.out.below HS1.out.2) (HL.out.keep HS1.out.2)).mono ?_
  rintro e w2 ⟨rfl, hb2⟩
  have HS2 := Lib.hid ((HS1.out.below hb2).alloc (.cells #[.string f.op, .int .i64 f.side, .int .i64 f.prec] 25))
  have HF2 := Lib.hid (rowX_new w2 f)
  clear hb2
  have n0 := HS2.out.n0
  have n5 := HS2.out.n5
  obtain ⟨x0, x1, x2, x3, x4, x5⟩ := six0 HX.out HS2.out.2
  unfold underV
  simp only
  go_wp2_with fail
  refine (U2.out _ (HG.out.below HS2.out.2) (HXL.out.keep HS2.out.2)).mono ?_
  rintro e w3 ⟨rfl, hb3⟩
  have hfg : w2.heap.size < w3.heap.size := by have h9 := hb3.size; simp at h9; omega
  have hgl : w.heap.size < w3.heap.size := (HS2.out.below hb3).1.lt
  have HS3 := Lib.hid ((HS2.out.below hb3).alloc (.cells #[.string g.op, .int .i64 g.side, .int .i64 g.prec] 25)).drew
  have HG3 := Lib.hid (rowX_new w3 g)
  have HF3 := Lib.hid ((HF2.out.below hb3).alloc (.cells #[.string g.op, .int .i64 g.side, .int .i64 g.prec] 25))
  clear hb3 n0 n5 x0 x1 x2 x3 x4 x5
  unfold underV
  simp only
  go_wp2_with fail
  go_region_held3 (fun w' => TS w t (.slice (some ⟨b, o, none⟩) t.kids.length cap) w')
    (first
      | with_reducible exact HS4.out
      | with_reducible exact HS3.out)
    (first
      | (go_at_call 20; refine (A2.out _ _ _ (HXL.out.keep HS3.out.2) (HQL.out.keep HS3.out.2)).mono ?_; rintro e w4 ⟨rfl, hb9⟩; have HS4 := Lib.hid (HS3.out.below hb9)))
  have hbt : Below (w3.alloc (.cells #[.string g.op, .int .i64 g.side, .int .i64 g.prec] 25)).heap.size (w3.alloc (.cells #[.string g.op, .int .i64 g.side, .int .i64 g.prec] 25)) w4 := Below.then (Below.refl _ _).drew hb9
  have HG4 := Lib.hid (HG3.out.below hbt)
  have HF4 := Lib.hid (HF3.out.below hbt)
  clear hb9 hbt
  have n0 := HS4.out.n0
  have n5 := HS4.out.n5
  obtain ⟨x0, x1, x2, x3, x4, x5⟩ := six0 HX.out HS4.out.2
  obtain ⟨g0, g1, g2⟩ := HG4.out.cells
  obtain ⟨f0, f1, f2⟩ := HF4.out.cells
  go_wp2_with fail
  refine (T1.out _ _ (HG.out.below HS4.out.2) (HXL.out.keep HS4.out.2)).mono ?_
  rintro e w5 ⟨rfl, hb5⟩
  have HS5 := Lib.hid (HS4.out.below hb5)
  have HG5 := Lib.hid (HG4.out.below hb5)
  have HF5 := Lib.hid (HF4.out.below hb5)
  clear hb5 n0 n5 x0 x1 x2 x3 x4 x5 g0 g1 g2 f0 f1 f2
  have n0 := HS5.out.n0
  have n5 := HS5.out.n5
  obtain ⟨x0, x1, x2, x3, x4, x5⟩ := six12 HY.out HS5.out.2
  go_wp2_with fail
  refine (U3.out _ (HG.out.below HS5.out.2) (HYL.out.keep HS5.out.2)).mono ?_
  rintro e w6 ⟨rfl, hb6⟩
  have HS6 := Lib.hid (HS5.out.below hb6)
  have HG6 := Lib.hid (HG5.out.below hb6)
  have HF6 := Lib.hid (HF5.out.below hb6)
  clear hb6 n0 n5 x0 x1 x2 x3 x4 x5
  have z := HG6.out.frozen
  obtain ⟨g0, g1, g2⟩ := HG6.out.cells
  unfold underV
  simp only
  go_wp2_with fail
  obtain ⟨wN, hwN, hRN, hoN, hsN, h1N, h2N, h3N⟩ := store_fix HG6.out h.op h.side h.prec
  rw [hwN]
  have HS7' := Lib.hid (show TS w t (.slice (some ⟨b, o, none⟩) t.kids.length cap) wN from ⟨HS6.out.1.keep (hoN _ (by omega)), below_fresh HS6.out.2 (g := w3.heap.size) (by omega) hoN hsN h1N h2N h3N⟩)
  have HS7 := Lib.hid HS7'.out.drew
  have HG7 := Lib.hid (show RowX wN w3.heap.size h from hRN)
  have HF7 := Lib.hid (HF6.out.keep (hoN _ (by omega)))
  clear hwN hRN hoN hsN h1N h2N h3N z g0 g1 g2
  go_region_held3 (fun w' => TS w t (.slice (some ⟨b, o, none⟩) t.kids.length cap) w')
    (first
      | with_reducible exact HS8.out
      | with_reducible exact HS7.out)
    (first
      | (go_at_call 20; refine (A3.out _ _ _ (HYL.out.keep HS7.out.2) (HPL.out.keep HS7.out.2)).mono ?_; rintro e w8 ⟨rfl, hb9⟩; have HS8 := Lib.hid (HS7.out.below hb9)))
  have hbt : Below wN.heap.size wN w8 := Below.then (Below.refl _ _).drew hb9
  have HG8 := Lib.hid (HG7.out.below hbt)
  have HF8 := Lib.hid (HF7.out.below hbt)
  clear hb9 hbt r0 r1 r2 r3 r4 r5 q0 q1 q2 q3 q4 q5 s0 s1 s2 s3 s4 s5 y0 y1 y2 y3 y4 y5 p0 p1 p2 p3 p4 p5
  have n0 := HS8.out.n0
  have n5 := HS8.out.n5
  obtain ⟨x0, x1, x2, x3, x4, x5⟩ := six12 HY.out HS8.out.2
  obtain ⟨g0, g1, g2⟩ := HG8.out.cells
  obtain ⟨f0, f1, f2⟩ := HF8.out.cells
  go_wp2_with fail
  refine (T2.out _ _ (HG.out.below HS8.out.2) (HYL.out.keep HS8.out.2)).mono ?_
  rintro e w9 ⟨rfl, hb9⟩
  have HS9 := Lib.hid (HS8.out.below hb9)
  clear hb9
  go_wp2_with fail
  go_ret2
  exact ⟨rfl, HS9.out.2⟩
set_option maxRecDepth 20000 in
set_option maxHeartbeats 8000000 in
theorem tight_inf22 (env : List Fx) (xa : Option Addr) (ec eb eo : Nat) (ops : List Tr) (oa : Option Addr) (oc ob oo : Nat) (OK : Nat → Value) (t l r : Tr) (a m c : Nat) (hk : t.kind = 20) (h3 : t.kids.length = 3) (hx : t.kids[0]? = some l) (hy : t.kids[2]? = some r) (ha : a < ops.length) (hm : m < ops.length)
    (hD1 : TDoes env xa ec eb eo ops oa oc ob oo OK l a m) (hD2 : TDoes env xa ec eb eo ops oa oc ob oo OK r m c) (hA : t.alike ops[a] = false) (f g h : Fx) (gi hi : Bool) (hf : underX env t = (f, true)) (hg : underX env l = (g, gi)) (hh : underX env r = (h, hi))
    (hmt : t.op.mid.text.size ≤ 1152921504606846976) (hml : l.kind = 20 → l.op.mid.text.size ≤ 1152921504606846976) (hmr : r.kind = 20 → r.op.mid.text.size ≤ 1152921504606846976)
    (hql : l.alike ops[a] = false ∧ gi = true ∧ decide (g.prec < f.prec) = false ∧ (g.prec == f.prec) = true ∧ (g.side != 1) = false ∧ (f.side != 1) = false) (hqr : r.alike ops[m] = false ∧ hi = true ∧ (r.kind == 21) = false ∧ (r.kind == 20) = true ∧ decide (h.prec < f.prec) = false ∧ (h.prec == f.prec) = false) : TDoes env xa ec eb eo ops oa oc ob oo OK t a c := by
  intro kv w hG hl
  obtain ⟨xq, cq, hq1, hq2⟩ := hG.opd a ha
  obtain ⟨xp, cp, hp1, hp2⟩ := hG.opd m hm
  obtain ⟨ka, cap, b, o, K, rfl, hka, hkk⟩ := hl.kidsOf
  have hka := hka (by omega)
  subst hka
  have hoa := hG.hoa (by omega)
  subst hoa
  have hol := hG.hlen
  obtain ⟨xx, cx, hx1, hx2, _⟩ := kid_at hkk (Below.refl _ _) (show 0 < t.kids.length by omega)
  obtain ⟨xy, cy, hy1, hy2, _⟩ := kid_at hkk (Below.refl _ _) (show 2 < t.kids.length by omega)
  have hxe : t.kids[0] = l := by rw [List.getElem?_eq_getElem (by omega)] at hx; injection hx
  have hye : t.kids[2] = r := by rw [List.getElem?_eq_getElem (by omega)] at hy; injection hy
  rw [hxe, Nat.zero_mul, Nat.add_zero] at hx1
  rw [hxe] at hx2
  rw [hye] at hy1 hy2
  have U1 := fun w (hG : TGround w env xa eb eo ops (some ⟨ob, oo, none⟩) ob oo OK) hl => under_any env xa ec eb eo t (.slice (some ⟨b, o, none⟩) t.kids.length cap) w hG.hxa hG.hE hl hG.hT (fun _ => hmt)
  have U2 := fun w (hG : TGround w env xa eb eo ops (some ⟨ob, oo, none⟩) ob oo OK) hl => under_any env xa ec eb eo l (.slice xx l.kids.length cx) w hG.hxa hG.hE hl hG.hT hml
  have U3 := fun w (hG : TGround w env xa eb eo ops (some ⟨ob, oo, none⟩) ob oo OK) hl => under_any env xa ec eb eo r (.slice xy r.kids.length cy) w hG.hxa hG.hE hl hG.hT hmr
  rw [hf] at U1
  rw [hg] at U2
  rw [hh] at U3
  have A1 := fun kv jv w => refAll_any t.size t ops[a] kv jv w (Nat.le_refl _)
  have A2 := fun kv jv w => refAll_any l.size l ops[a] kv jv w (Nat.le_refl _)
  have A3 := fun kv jv w => refAll_any r.size r ops[m] kv jv w (Nat.le_refl _)
  rw [hA] at A1
  obtain ⟨pl, hpl⟩ : ∃ p, l.alike ops[a] = p := ⟨_, rfl⟩
  obtain ⟨pr, hpr⟩ : ∃ p, r.alike ops[m] = p := ⟨_, rfl⟩
  rw [hpl] at A2
  rw [hpr] at A3
  try rw [hpl] at hql
  try rw [hpr] at hqr
  have A1 := Lib.hid A1
  have A2 := Lib.hid A2
  have A3 := Lib.hid A3
  have U1 := Lib.hid U1
  have U2 := Lib.hid U2
  have U3 := Lib.hid U3
  have T1 := Lib.hid hD1
  have T2 := Lib.hid hD2
  have HL := Lib.hid hl
  have HX := Lib.hid hx1
  have HXL := Lib.hid hx2
  have HY := Lib.hid hy1
  have HYL := Lib.hid hy2
  have HQ := Lib.hid hq1
  have HQL := Lib.hid hq2
  have HP := Lib.hid hp1
  have HPL := Lib.hid hp2
  have HG := Lib.hid hG
  generalize ops[a] = q at *
  generalize ops[m] = p at *
  have t1 : decide ((a : Int) < ops.length) = true := by simp; omega
  have t4 : decide ((m : Int) < ops.length) = true := by simp; omega
  have t2 : (t.kind == 21) = false := by simp; omega
  have i0 : (0 : Int) < t.kids.length := by omega
  have j0 : 0 < t.kids.length := by omega
  have i2 : (2 : Int) < t.kids.length := by omega
  clear hG hl hx1 hx2 hy1 hy2 hq1 hq2 hp1 hp2 hx hy hxe hye hkk hD1 hD2 hA hmt hml hmr hf hg hh hpl hpr hk h3
  have r0 := fun w' (h : TS w t (.slice (some ⟨b, o, none⟩) t.kids.length cap) w') => h.1.cells.1
  have s0 := fun w' (h : TS w t (.slice (some ⟨b, o, none⟩) t.kids.length cap) w') => (six0 HQ.out h.2).1
  have p0 := fun w' (h : TS w t (.slice (some ⟨b, o, none⟩) t.kids.length cap) w') => (six0 HP.out h.2).1
  have q0 := fun w' (h : TS w t (.slice (some ⟨b, o, none⟩) t.kids.length cap) w') => (six0 HX.out h.2).1
  have y0 := fun w' (h : TS w t (.slice (some ⟨b, o, none⟩) t.kids.length cap) w') => (six12 HY.out h.2).1
  have r1 := fun w' (h : TS w t (.slice (some ⟨b, o, none⟩) t.kids.length cap) w') => h.1.cells.2.1
  have s1 := fun w' (h : TS w t (.slice (some ⟨b, o, none⟩) t.kids.length cap) w') => (six0 HQ.out h.2).2.1
  have p1 := fun w' (h : TS w t (.slice (some ⟨b, o, none⟩) t.kids.length cap) w') => (six0 HP.out h.2).2.1
  have q1 := fun w' (h : TS w t (.slice (some ⟨b, o, none⟩) t.kids.length cap) w') => (six0 HX.out h.2).2.1
  have y1 := fun w' (h : TS w t (.slice (some ⟨b, o, none⟩) t.kids.length cap) w') => (six12 HY.out h.2).2.1
  have r2 := fun w' (h : TS w t (.slice (some ⟨b, o, none⟩) t.kids.length cap) w') => h.1.cells.2.2.1
  have s2 := fun w' (h : TS w t (.slice (some ⟨b, o, none⟩) t.kids.length cap) w') => (six0 HQ.out h.2).2.2.1
  have p2 := fun w' (h : TS w t (.slice (some ⟨b, o, none⟩) t.kids.length cap) w') => (six0 HP.out h.2).2.2.1
  have q2 := fun w' (h : TS w t (.slice (some ⟨b, o, none⟩) t.kids.length cap) w') => (six0 HX.out h.2).2.2.1
  have y2 := fun w' (h : TS w t (.slice (some ⟨b, o, none⟩) t.kids.length cap) w') => (six12 HY.out h.2).2.2.1
  have r3 := fun w' (h : TS w t (.slice (some ⟨b, o, none⟩) t.kids.length cap) w') => h.1.cells.2.2.2.1
  have s3 := fun w' (h : TS w t (.slice (some ⟨b, o, none⟩) t.kids.length cap) w') => (six0 HQ.out h.2).2.2.2.1
  have p3 := fun w' (h : TS w t (.slice (some ⟨b, o, none⟩) t.kids.length cap) w') => (six0 HP.out h.2).2.2.2.1
  have q3 := fun w' (h : TS w t (.slice (some ⟨b, o, none⟩) t.kids.length cap) w') => (six0 HX.out h.2).2.2.2.1
  have y3 := fun w' (h : TS w t (.slice (some ⟨b, o, none⟩) t.kids.length cap) w') => (six12 HY.out h.2).2.2.2.1
  have r4 := fun w' (h : TS w t (.slice (some ⟨b, o, none⟩) t.kids.length cap) w') => h.1.cells.2.2.2.2.1
  have s4 := fun w' (h : TS w t (.slice (some ⟨b, o, none⟩) t.kids.length cap) w') => (six0 HQ.out h.2).2.2.2.2.1
  have p4 := fun w' (h : TS w t (.slice (some ⟨b, o, none⟩) t.kids.length cap) w') => (six0 HP.out h.2).2.2.2.2.1
  have q4 := fun w' (h : TS w t (.slice (some ⟨b, o, none⟩) t.kids.length cap) w') => (six0 HX.out h.2).2.2.2.2.1
  have y4 := fun w' (h : TS w t (.slice (some ⟨b, o, none⟩) t.kids.length cap) w') => (six12 HY.out h.2).2.2.2.2.1
  have r5 := fun w' (h : TS w t (.slice (some ⟨b, o, none⟩) t.kids.length cap) w') => h.1.cells.2.2.2.2.2
  have s5 := fun w' (h : TS w t (.slice (some ⟨b, o, none⟩) t.kids.length cap) w') => (six0 HQ.out h.2).2.2.2.2.2
  have p5 := fun w' (h : TS w t (.slice (some ⟨b, o, none⟩) t.kids.length cap) w') => (six0 HP.out h.2).2.2.2.2.2
  have q5 := fun w' (h : TS w t (.slice (some ⟨b, o, none⟩) t.kids.length cap) w') => (six0 HX.out h.2).2.2.2.2.2
  have y5 := fun w' (h : TS w t (.slice (some ⟨b, o, none⟩) t.kids.length cap) w') => (six12 HY.out h.2).2.2.2.2.2
  have HS0 := Lib.hid (TS.start w t (.slice (some ⟨b, o, none⟩) t.kids.length cap)).drew
  unfold nodeV
  obtain ⟨rfl, rfl, l1, l2, l3, l4⟩ := hql
  obtain ⟨rfl, rfl, m1, m2, m3, m4⟩ := hqr
  go_enter Tryd.func21, Tryd.ntmps21
  go_wp2_with fail
  go_region_held3 (fun w' => TS w t (.slice (some ⟨b, o, none⟩) t.kids.length cap) w')
    (first
      | with_reducible exact HS1.out
      | with_reducible exact HS0.out)
    (first
      | (go_at_call 20; refine (A1.out _ _ _ (HL.out.keep HS0.out.2) (HQL.out.keep HS0.out.2)).mono ?_; rintro e w1 ⟨rfl, hb9⟩; have HS1 := Lib.hid (HS0.out.below hb9)))
  clear hb9
  go_wp2_with fail
  refine (U1.out _ (HG.out.below HS1.out.2) (HL.out.keep HS1.out.2)).mono ?_
  rintro e w2 ⟨rfl, hb2⟩
  have HS2 := Lib.hid ((HS1.out.below hb2).alloc (.cells #[.string f.op, .int .i64 f.side, .int .i64 f.prec] 25))
  have HF2 := Lib.hid (rowX_new w2 f)
  clear hb2
  have n0 := HS2.out.n0
  have n5 := HS2.out.n5
  obtain ⟨x0, x1, x2, x3, x4, x5⟩ := six0 HX.out HS2.out.2
  unfold underV
  simp only
  go_wp2_with fail
  refine (U2.out _ (HG.out.below HS2.out.2) (HXL.out.keep HS2.out.2)).mono ?_
  rintro e w3 ⟨rfl, hb3⟩
  have hfg : w2.heap.size < w3.heap.size := by have h9 := hb3.size; simp at h9; omega
  have hgl : w.heap.size < w3.heap.size := (HS2.out.below hb3).1.lt
  have HS3 := Lib.hid ((HS2.out.below hb3).alloc (.cells #[.string g.op, .int .i64 g.side, .int .i64 g.prec] 25)).drew
  have HG3 := Lib.hid (rowX_new w3 g)
  have HF3 := Lib.hid ((HF2.out.below hb3).alloc (.cells #[.string g.op, .int .i64 g.side, .int .i64 g.prec] 25))
  clear hb3 n0 n5 x0 x1 x2 x3 x4 x5
  unfold underV
  simp only
  go_wp2_with fail
  go_region_held3 (fun w' => TS w t (.slice (some ⟨b, o, none⟩) t.kids.length cap) w')
    (first
      | with_reducible exact HS4.out
      | with_reducible exact HS3.out)
    (first
      | (go_at_call 20; refine (A2.out _ _ _ (HXL.out.keep HS3.out.2) (HQL.out.keep HS3.out.2)).mono ?_; rintro e w4 ⟨rfl, hb9⟩; have HS4 := Lib.hid (HS3.out.below hb9)))
  have hbt : Below (w3.alloc (.cells #[.string g.op, .int .i64 g.side, .int .i64 g.prec] 25)).heap.size (w3.alloc (.cells #[.string g.op, .int .i64 g.side, .int .i64 g.prec] 25)) w4 := Below.then (Below.refl _ _).drew hb9
  have HG4 := Lib.hid (HG3.out.below hbt)
  have HF4 := Lib.hid (HF3.out.below hbt)
  clear hb9 hbt
  have n0 := HS4.out.n0
  have n5 := HS4.out.n5
  obtain ⟨x0, x1, x2, x3, x4, x5⟩ := six0 HX.out HS4.out.2
  obtain ⟨g0, g1, g2⟩ := HG4.out.cells
  obtain ⟨f0, f1, f2⟩ := HF4.out.cells
  go_wp2_with fail
  refine (T1.out _ _ (HG.out.below HS4.out.2) (HXL.out.keep HS4.out.2)).mono ?_
  rintro e w5 ⟨rfl, hb5⟩
  have HS5 := Lib.hid (HS4.out.below hb5)
  have HG5 := Lib.hid (HG4.out.below hb5)
  have HF5 := Lib.hid (HF4.out.below hb5)
  clear hb5 n0 n5 x0 x1 x2 x3 x4 x5 g0 g1 g2 f0 f1 f2
  have n0 := HS5.out.n0
  have n5 := HS5.out.n5
  obtain ⟨x0, x1, x2, x3, x4, x5⟩ := six12 HY.out HS5.out.2
  go_wp2_with fail
  refine (U3.out _ (HG.out.below HS5.out.2) (HYL.out.keep HS5.out.2)).mono ?_
  rintro e w6 ⟨rfl, hb6⟩
  have HS6 := Lib.hid (HS5.out.below hb6)
  have HG6 := Lib.hid (HG5.out.below hb6)
  have HF6 := Lib.hid (HF5.out.below hb6)
  clear hb6 n0 n5 x0 x1 x2 x3 x4 x5
  have z := HG6.out.frozen
  obtain ⟨g0, g1, g2⟩ := HG6.out.cells
  unfold underV
  simp only
  go_wp2_with fail
  obtain ⟨wN, hwN, hRN, hoN, hsN, h1N, h2N, h3N⟩ := store_fix HG6.out h.op h.side h.prec
  rw [hwN]
  have HS7' := Lib.hid (show TS w t (.slice (some ⟨b, o, none⟩) t.kids.length cap) wN from ⟨HS6.out.1.keep (hoN _ (by omega)), below_fresh HS6.out.2 (g := w3.heap.size) (by omega) hoN hsN h1N h2N h3N⟩)
  have HS7 := Lib.hid HS7'.out.drew
  have HG7 := Lib.hid (show RowX wN w3.heap.size h from hRN)
  have HF7 := Lib.hid (HF6.out.keep (hoN _ (by omega)))
  clear hwN hRN hoN hsN h1N h2N h3N z g0 g1 g2
  go_region_held3 (fun w' => TS w t (.slice (some ⟨b, o, none⟩) t.kids.length cap) w')
    (first
      | with_reducible exact HS8.out
      | with_reducible exact HS7.out)
    (first
      | (go_at_call 20; refine (A3.out _ _ _ (HYL.out.keep HS7.out.2) (HPL.out.keep HS7.out.2)).mono ?_; rintro e w8 ⟨rfl, hb9⟩; have HS8 := Lib.hid (HS7.out.below hb9)))
  have hbt : Below wN.heap.size wN w8 := Below.then (Below.refl _ _).drew hb9
  have HG8 := Lib.hid (HG7.out.below hbt)
  have HF8 := Lib.hid (HF7.out.below hbt)
  clear hb9 hbt r0 r1 r2 r3 r4 r5 q0 q1 q2 q3 q4 q5 s0 s1 s2 s3 s4 s5 y0 y1 y2 y3 y4 y5 p0 p1 p2 p3 p4 p5
  have n0 := HS8.out.n0
  have n5 := HS8.out.n5
  obtain ⟨x0, x1, x2, x3, x4, x5⟩ := six12 HY.out HS8.out.2
  obtain ⟨g0, g1, g2⟩ := HG8.out.cells
  obtain ⟨f0, f1, f2⟩ := HF8.out.cells
  go_wp2_with fail
  refine (T2.out _ _ (HG.out.below HS8.out.2) (HYL.out.keep HS8.out.2)).mono ?_
  rintro e w9 ⟨rfl, hb9⟩
  have HS9 := Lib.hid (HS8.out.below hb9)
  clear hb9
  go_wp2_with fail
  go_ret2
  exact ⟨rfl, HS9.out.2⟩
set_option maxRecDepth 20000 in
set_option maxHeartbeats 8000000 in
theorem tight_inf23 (env : List Fx) (xa : Option Addr) (ec eb eo : Nat) (ops : List Tr) (oa : Option Addr) (oc ob oo : Nat) (OK : Nat → Value) (t l r : Tr) (a m c : Nat) (hk : t.kind = 20) (h3 : t.kids.length = 3) (hx : t.kids[0]? = some l) (hy : t.kids[2]? = some r) (ha : a < ops.length) (hm : m < ops.length)
    (hD1 : TDoes env xa ec eb eo ops oa oc ob oo OK l a m) (hD2 : TDoes env xa ec eb eo ops oa oc ob oo OK r m c) (hA : t.alike ops[a] = false) (f g h : Fx) (gi hi : Bool) (hf : underX env t = (f, true)) (hg : underX env l = (g, gi)) (hh : underX env r = (h, hi))
    (hmt : t.op.mid.text.size ≤ 1152921504606846976) (hml : l.kind = 20 → l.op.mid.text.size ≤ 1152921504606846976) (hmr : r.kind = 20 → r.op.mid.text.size ≤ 1152921504606846976)
    (hql : l.alike ops[a] = false ∧ gi = true ∧ decide (g.prec < f.prec) = false ∧ (g.prec == f.prec) = true ∧ (g.side != 1) = false ∧ (f.side != 1) = false) (hqr : r.alike ops[m] = false ∧ hi = true ∧ (r.kind == 21) = false ∧ (r.kind == 20) = true ∧ decide (h.prec < f.prec) = false ∧ (h.prec == f.prec) = true ∧ (h.side != 2) = false ∧ (f.side != 2) = false) : TDoes env xa ec eb eo ops oa oc ob oo OK t a c := by
  intro kv w hG hl
  obtain ⟨xq, cq, hq1, hq2⟩ := hG.opd a ha
  obtain ⟨xp, cp, hp1, hp2⟩ := hG.opd m hm
  obtain ⟨ka, cap, b, o, K, rfl, hka, hkk⟩ := hl.kidsOf
  have hka := hka (by omega)
  subst hka
  have hoa := hG.hoa (by omega)
  subst hoa
  have hol := hG.hlen
  obtain ⟨xx, cx, hx1, hx2, _⟩ := kid_at hkk (Below.refl _ _) (show 0 < t.kids.length by omega)
  obtain ⟨xy, cy, hy1, hy2, _⟩ := kid_at hkk (Below.refl _ _) (show 2 < t.kids.length by omega)
  have hxe : t.kids[0] = l := by rw [List.getElem?_eq_getElem (by omega)] at hx; injection hx
  have hye : t.kids[2] = r := by rw [List.getElem?_eq_getElem (by omega)] at hy; injection hy
  rw [hxe, Nat.zero_mul, Nat.add_zero] at hx1
  rw [hxe] at hx2
  rw [hye] at hy1 hy2
  have U1 := fun w (hG : TGround w env xa eb eo ops (some ⟨ob, oo, none⟩) ob oo OK) hl => under_any env xa ec eb eo t (.slice (some ⟨b, o, none⟩) t.kids.length cap) w hG.hxa hG.hE hl hG.hT (fun _ => hmt)
  have U2 := fun w (hG : TGround w env xa eb eo ops (some ⟨ob, oo, none⟩) ob oo OK) hl => under_any env xa ec eb eo l (.slice xx l.kids.length cx) w hG.hxa hG.hE hl hG.hT hml
  have U3 := fun w (hG : TGround w env xa eb eo ops (some ⟨ob, oo, none⟩) ob oo OK) hl => under_any env xa ec eb eo r (.slice xy r.kids.length cy) w hG.hxa hG.hE hl hG.hT hmr
  rw [hf] at U1
  rw [hg] at U2
  rw [hh] at U3
  have A1 := fun kv jv w => refAll_any t.size t ops[a] kv jv w (Nat.le_refl _)
  have A2 := fun kv jv w => refAll_any l.size l ops[a] kv jv w (Nat.le_refl _)
  have A3 := fun kv jv w => refAll_any r.size r ops[m] kv jv w (Nat.le_refl _)
  rw [hA] at A1
  obtain ⟨pl, hpl⟩ : ∃ p, l.alike ops[a] = p := ⟨_, rfl⟩
  obtain ⟨pr, hpr⟩ : ∃ p, r.alike ops[m] = p := ⟨_, rfl⟩
  rw [hpl] at A2
  rw [hpr] at A3
  try rw [hpl] at hql
  try rw [hpr] at hqr
  have A1 := Lib.hid A1
  have A2 := Lib.hid A2
  have A3 := Lib.hid A3
  have U1 := Lib.hid U1
  have U2 := Lib.hid U2
  have U3 := Lib.hid U3
  have T1 := Lib.hid hD1
  have T2 := Lib.hid hD2
  have HL := Lib.hid hl
  have HX := Lib.hid hx1
  have HXL := Lib.hid hx2
  have HY := Lib.hid hy1
  have HYL := Lib.hid hy2
  have HQ := Lib.hid hq1
  have HQL := Lib.hid hq2
  have HP := Lib.hid hp1
  have HPL := Lib.hid hp2
  have HG := Lib.hid hG
  generalize ops[a] = q at *
  generalize ops[m] = p at *
  have t1 : decide ((a : Int) < ops.length) = true := by simp; omega
  have t4 : decide ((m : Int) < ops.length) = true := by simp; omega
  have t2 : (t.kind == 21) = false := by simp; omega
  have i0 : (0 : Int) < t.kids.length := by omega
  have j0 : 0 < t.kids.length := by omega
  have i2 : (2 : Int) < t.kids.length := by omega
  clear hG hl hx1 hx2 hy1 hy2 hq1 hq2 hp1 hp2 hx hy hxe hye hkk hD1 hD2 hA hmt hml hmr hf hg hh hpl hpr hk h3
  have r0 := fun w' (h : TS w t (.slice (some ⟨b, o, none⟩) t.kids.length cap) w') => h.1.cells.1
  have s0 := fun w' (h : TS w t (.slice (some ⟨b, o, none⟩) t.kids.length cap) w') => (six0 HQ.out h.2).1
  have p0 := fun w' (h : TS w t (.slice (some ⟨b, o, none⟩) t.kids.length cap) w') => (six0 HP.out h.2).1
  have q0 := fun w' (h : TS w t (.slice (some ⟨b, o, none⟩) t.kids.length cap) w') => (six0 HX.out h.2).1
  have y0 := fun w' (h : TS w t (.slice (some ⟨b, o, none⟩) t.kids.length cap) w') => (six12 HY.out h.2).1
  have r1 := fun w' (h : TS w t (.slice (some ⟨b, o, none⟩) t.kids.length cap) w') => h.1.cells.2.1
  have s1 := fun w' (h : TS w t (.slice (some ⟨b, o, none⟩) t.kids.length cap) w') => (six0 HQ.out h.2).2.1
  have p1 := fun w' (h : TS w t (.slice (some ⟨b, o, none⟩) t.kids.length cap) w') => (six0 HP.out h.2).2.1
  have q1 := fun w' (h : TS w t (.slice (some ⟨b, o, none⟩) t.kids.length cap) w') => (six0 HX.out h.2).2.1
  have y1 := fun w' (h : TS w t (.slice (some ⟨b, o, none⟩) t.kids.length cap) w') => (six12 HY.out h.2).2.1
  have r2 := fun w' (h : TS w t (.slice (some ⟨b, o, none⟩) t.kids.length cap) w') => h.1.cells.2.2.1
  have s2 := fun w' (h : TS w t (.slice (some ⟨b, o, none⟩) t.kids.length cap) w') => (six0 HQ.out h.2).2.2.1
  have p2 := fun w' (h : TS w t (.slice (some ⟨b, o, none⟩) t.kids.length cap) w') => (six0 HP.out h.2).2.2.1
  have q2 := fun w' (h : TS w t (.slice (some ⟨b, o, none⟩) t.kids.length cap) w') => (six0 HX.out h.2).2.2.1
  have y2 := fun w' (h : TS w t (.slice (some ⟨b, o, none⟩) t.kids.length cap) w') => (six12 HY.out h.2).2.2.1
  have r3 := fun w' (h : TS w t (.slice (some ⟨b, o, none⟩) t.kids.length cap) w') => h.1.cells.2.2.2.1
  have s3 := fun w' (h : TS w t (.slice (some ⟨b, o, none⟩) t.kids.length cap) w') => (six0 HQ.out h.2).2.2.2.1
  have p3 := fun w' (h : TS w t (.slice (some ⟨b, o, none⟩) t.kids.length cap) w') => (six0 HP.out h.2).2.2.2.1
  have q3 := fun w' (h : TS w t (.slice (some ⟨b, o, none⟩) t.kids.length cap) w') => (six0 HX.out h.2).2.2.2.1
  have y3 := fun w' (h : TS w t (.slice (some ⟨b, o, none⟩) t.kids.length cap) w') => (six12 HY.out h.2).2.2.2.1
  have r4 := fun w' (h : TS w t (.slice (some ⟨b, o, none⟩) t.kids.length cap) w') => h.1.cells.2.2.2.2.1
  have s4 := fun w' (h : TS w t (.slice (some ⟨b, o, none⟩) t.kids.length cap) w') => (six0 HQ.out h.2).2.2.2.2.1
  have p4 := fun w' (h : TS w t (.slice (some ⟨b, o, none⟩) t.kids.length cap) w') => (six0 HP.out h.2).2.2.2.2.1
  have q4 := fun w' (h : TS w t (.slice (some ⟨b, o, none⟩) t.kids.length cap) w') => (six0 HX.out h.2).2.2.2.2.1
  have y4 := fun w' (h : TS w t (.slice (some ⟨b, o, none⟩) t.kids.length cap) w') => (six12 HY.out h.2).2.2.2.2.1
  have r5 := fun w' (h : TS w t (.slice (some ⟨b, o, none⟩) t.kids.length cap) w') => h.1.cells.2.2.2.2.2
  have s5 := fun w' (h : TS w t (.slice (some ⟨b, o, none⟩) t.kids.length cap) w') => (six0 HQ.out h.2).2.2.2.2.2
  have p5 := fun w' (h : TS w t (.slice (some ⟨b, o, none⟩) t.kids.length cap) w') => (six0 HP.out h.2).2.2.2.2.2
  have q5 := fun w' (h : TS w t (.slice (some ⟨b, o, none⟩) t.kids.length cap) w') => (six0 HX.out h.2).2.2.2.2.2
  have y5 := fun w' (h : TS w t (.slice (some ⟨b, o, none⟩) t.kids.length cap) w') => (six12 HY.out h.2).2.2.2.2.2
  have HS0 := Lib.hid (TS.start w t (.slice (some ⟨b, o, none⟩) t.kids.length cap)).drew
  unfold nodeV
  obtain ⟨rfl, rfl, l1, l2, l3, l4⟩ := hql
  obtain ⟨rfl, rfl, m1, m2, m3, m4, m5, m6⟩ := hqr
  go_enter Tryd.func21, Tryd.ntmps21
  go_wp2_with fail
  go_region_held3 (fun w' => TS w t (.slice (some ⟨b, o, none⟩) t.kids.length cap) w')
    (first
      | with_reducible exact HS1.out
      | with_reducible exact HS0.out)
    (first
      | (go_at_call 20; refine (A1.out _ _ _ (HL.out.keep HS0.out.2) (HQL.out.keep HS0.out.2)).mono ?_; rintro e w1 ⟨rfl, hb9⟩; have HS1 := Lib.hid (HS0.out.below hb9)))
  clear hb9
  go_wp2_with fail
  refine (U1.out _ (HG.out.below HS1.out.2) (HL.out.keep HS1.out.2)).mono ?_
  rintro e w2 ⟨rfl, hb2⟩
  have HS2 := Lib.hid ((HS1.out.below hb2).alloc (.cells #[.string f.op, .int .i64 f.side, .int .i64 f.prec] 25))
  have HF2 := Lib.hid (rowX_new w2 f)
  clear hb2
  have n0 := HS2.out.n0
  have n5 := HS2.out.n5
  obtain ⟨x0, x1, x2, x3, x4, x5⟩ := six0 HX.out HS2.out.2
  unfold underV
  simp only
  go_wp2_with fail
  refine (U2.out _ (HG.out.below HS2.out.2) (HXL.out.keep HS2.out.2)).mono ?_
  rintro e w3 ⟨rfl, hb3⟩
  have hfg : w2.heap.size < w3.heap.size := by have h9 := hb3.size; simp at h9; omega
  have hgl : w.heap.size < w3.heap.size := (HS2.out.below hb3).1.lt
  have HS3 := Lib.hid ((HS2.out.below hb3).alloc (.cells #[.string g.op, .int .i64 g.side, .int .i64 g.prec] 25)).drew
  have HG3 := Lib.hid (rowX_new w3 g)
  have HF3 := Lib.hid ((HF2.out.below hb3).alloc (.cells #[.string g.op, .int .i64 g.side, .int .i64 g.prec] 25))
  clear hb3 n0 n5 x0 x1 x2 x3 x4 x5
  unfold underV
  simp only
  go_wp2_with fail
  go_region_held3 (fun w' => TS w t (.slice (some ⟨b, o, none⟩) t.kids.length cap) w')
    (first
      | with_reducible exact HS4.out
      | with_reducible exact HS3.out)
    (first
      | (go_at_call 20; refine (A2.out _ _ _ (HXL.out.keep HS3.out.2) (HQL.out.keep HS3.out.2)).mono ?_; rintro e w4 ⟨rfl, hb9⟩; have HS4 := Lib.hid (HS3.out.below hb9)))
  have hbt : Below (w3.alloc (.cells #[.string g.op, .int .i64 g.side, .int .i64 g.prec] 25)).heap.size (w3.alloc (.cells #[.string g.op, .int .i64 g.side, .int .i64 g.prec] 25)) w4 := Below.then (Below.refl _ _).drew hb9
  have HG4 := Lib.hid (HG3.out.below hbt)
  have HF4 := Lib.hid (HF3.out.below hbt)
  clear hb9 hbt
  have n0 := HS4.out.n0
  have n5 := HS4.out.n5
  obtain ⟨x0, x1, x2, x3, x4, x5⟩ := six0 HX.out HS4.out.2
  obtain ⟨g0, g1, g2⟩ := HG4.out.cells
  obtain ⟨f0, f1, f2⟩ := HF4.out.cells
  go_wp2_with fail
  refine (T1.out _ _ (HG.out.below HS4.out.2) (HXL.out.keep HS4.out.2)).mono ?_
  rintro e w5 ⟨rfl, hb5⟩
  have HS5 := Lib.hid (HS4.out.below hb5)
  have HG5 := Lib.hid (HG4.out.below hb5)
  have HF5 := Lib.hid (HF4.out.below hb5)
  clear hb5 n0 n5 x0 x1 x2 x3 x4 x5 g0 g1 g2 f0 f1 f2
  have n0 := HS5.out.n0
  have n5 := HS5.out.n5
  obtain ⟨x0, x1, x2, x3, x4, x5⟩ := six12 HY.out HS5.out.2
  go_wp2_with fail
  refine (U3.out _ (HG.out.below HS5.out.2) (HYL.out.keep HS5.out.2)).mono ?_
  rintro e w6 ⟨rfl, hb6⟩
  have HS6 := Lib.hid (HS5.out.below hb6)
  have HG6 := Lib.hid (HG5.out.below hb6)
  have HF6 := Lib.hid (HF5.out.below hb6)
  clear hb6 n0 n5 x0 x1 x2 x3 x4 x5
  have z := HG6.out.frozen
  obtain ⟨g0, g1, g2⟩ := HG6.out.cells
  unfold underV
  simp only
  go_wp2_with fail
  obtain ⟨wN, hwN, hRN, hoN, hsN, h1N, h2N, h3N⟩ := store_fix HG6.out h.op h.side h.prec
  rw [hwN]
  have HS7' := Lib.hid (show TS w t (.slice (some ⟨b, o, none⟩) t.kids.length cap) wN from ⟨HS6.out.1.keep (hoN _ (by omega)), below_fresh HS6.out.2 (g := w3.heap.size) (by omega) hoN hsN h1N h2N h3N⟩)
  have HS7 := Lib.hid HS7'.out.drew
  have HG7 := Lib.hid (show RowX wN w3.heap.size h from hRN)
  have HF7 := Lib.hid (HF6.out.keep (hoN _ (by omega)))
  clear hwN hRN hoN hsN h1N h2N h3N z g0 g1 g2
  go_region_held3 (fun w' => TS w t (.slice (some ⟨b, o, none⟩) t.kids.length cap) w')
    (first
      | with_reducible exact HS8.out
      | with_reducible exact HS7.out)
    (first
      | (go_at_call 20; refine (A3.out _ _ _ (HYL.out.keep HS7.out.2) (HPL.out.keep HS7.out.2)).mono ?_; rintro e w8 ⟨rfl, hb9⟩; have HS8 := Lib.hid (HS7.out.below hb9)))
  have hbt : Below wN.heap.size wN w8 := Below.then (Below.refl _ _).drew hb9
  have HG8 := Lib.hid (HG7.out.below hbt)
  have HF8 := Lib.hid (HF7.out.below hbt)
  clear hb9 hbt r0 r1 r2 r3 r4 r5 q0 q1 q2 q3 q4 q5 s0 s1 s2 s3 s4 s5 y0 y1 y2 y3 y4 y5 p0 p1 p2 p3 p4 p5
  have n0 := HS8.out.n0
  have n5 := HS8.out.n5
  obtain ⟨x0, x1, x2, x3, x4, x5⟩ := six12 HY.out HS8.out.2
  obtain ⟨g0, g1, g2⟩ := HG8.out.cells
  obtain ⟨f0, f1, f2⟩ := HF8.out.cells
  go_wp2_with fail
  refine (T2.out _ _ (HG.out.below HS8.out.2) (HYL.out.keep HS8.out.2)).mono ?_
  rintro e w9 ⟨rfl, hb9⟩
  have HS9 := Lib.hid (HS8.out.below hb9)
  clear hb9
  go_wp2_with fail
  go_ret2
  exact ⟨rfl, HS9.out.2⟩
end Go.Proofs.YtikkdkacflkifaaDoor
