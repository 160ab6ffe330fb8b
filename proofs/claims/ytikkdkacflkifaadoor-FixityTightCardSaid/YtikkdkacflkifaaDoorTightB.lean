/- DERIVED. The walk of tight, at an operand and at a sign. -/
import Derived.Test.YtikkdkacflkifaaDoorTightA
import Derived.Deep.RegionHeld3
import Derived.Deep.QuietTactic
set_option linter.unusedSimpArgs false
set_option linter.unusedVariables false
namespace Go.Proofs.YtikkdkacflkifaaDoor
open Go.RowKit

theorem RowN.under {w w' : World} {g : Nat} {t : Tr} {kv : Value} (h : RowN w g t kv) (hb : Below w.heap.size w w') : RowN w' g t kv := h.keep (hb.block g h.lt)
theorem six0 {w W : World} {b o : Nat} {t : Tr} {kv : Value} (h : Cells6 w b o t kv) (hb : Below w.heap.size w W) :
    W.cell? ⟨b, o, none⟩ = some (.int .i64 t.kind) ∧ W.cell? ⟨b, o + 1, none⟩ = some (.int .i64 t.form) ∧ W.cell? ⟨b, o + 2, none⟩ = some (.string t.text) ∧ W.cell? ⟨b, o + 3, none⟩ = some (.int .i64 t.line) ∧ W.cell? ⟨b, o + 4, none⟩ = some (.int .i64 t.col) ∧ W.cell? ⟨b, o + 5, none⟩ = some kv :=
  have h2 := h.below hb
  ⟨h2.c0, h2.c1, h2.c2, h2.c3, h2.c4, h2.c5⟩
theorem six6 {w W : World} {b o : Nat} {t : Tr} {kv : Value} (h : Cells6 w b (o + 6) t kv) (hb : Below w.heap.size w W) :
    W.cell? ⟨b, o + 6, none⟩ = some (.int .i64 t.kind) ∧ W.cell? ⟨b, o + 7, none⟩ = some (.int .i64 t.form) ∧ W.cell? ⟨b, o + 8, none⟩ = some (.string t.text) ∧ W.cell? ⟨b, o + 9, none⟩ = some (.int .i64 t.line) ∧ W.cell? ⟨b, o + 10, none⟩ = some (.int .i64 t.col) ∧ W.cell? ⟨b, o + 11, none⟩ = some kv :=
  six0 h hb
theorem six12 {w W : World} {b o : Nat} {t : Tr} {kv : Value} (h : Cells6 w b (o + 12) t kv) (hb : Below w.heap.size w W) :
    W.cell? ⟨b, o + 12, none⟩ = some (.int .i64 t.kind) ∧ W.cell? ⟨b, o + 13, none⟩ = some (.int .i64 t.form) ∧ W.cell? ⟨b, o + 14, none⟩ = some (.string t.text) ∧ W.cell? ⟨b, o + 15, none⟩ = some (.int .i64 t.line) ∧ W.cell? ⟨b, o + 16, none⟩ = some (.int .i64 t.col) ∧ W.cell? ⟨b, o + 17, none⟩ = some kv :=
  six0 h hb
/-- What lies behind all calls. -/
structure TGround (W0 : World) (env : List Fx) (xa : Option Addr) (eb eo : Nat) (ops : List Tr) (oa : Option Addr) (ob oo : Nat) (OK : Nat → Value) : Prop where
  hxa : 0 < env.length → xa = some ⟨eb, eo, none⟩
  hE : Fixes W0 eb eo env
  hT : Tabs16 W0
  hoa : 0 < ops.length → oa = some ⟨ob, oo, none⟩
  hO : ∀ i (h : i < ops.length), Cells6 W0 ob (oo + i * 6) ops[i] (OK i) ∧ Lies W0 ops[i] (OK i)
  hlen : ops.length ≤ 1152921504606846976
theorem TGround.below {W0 W : World} {env : List Fx} {xa : Option Addr} {eb eo : Nat} {ops : List Tr} {oa : Option Addr} {ob oo : Nat} {OK : Nat → Value} (h : TGround W0 env xa eb eo ops oa ob oo OK) (hb : Below W0.heap.size W0 W) : TGround W env xa eb eo ops oa ob oo OK :=
  ⟨h.hxa, h.hE.below hb, h.hT.below hb, h.hoa, fun i hi => ⟨(h.hO i hi).1.below hb, (h.hO i hi).2.keep hb⟩, h.hlen⟩
theorem TGround.opd {W : World} {env : List Fx} {xa : Option Addr} {eb eo : Nat} {ops : List Tr} {oa : Option Addr} {ob oo : Nat} {OK : Nat → Value} (h : TGround W env xa eb eo ops oa ob oo OK) (a : Nat) (ha : a < ops.length) :
    ∃ x c, Cells6 W ob (oo + a * 6) ops[a] (.slice x ops[a].kids.length c) ∧ Lies W ops[a] (.slice x ops[a].kids.length c) := by
  obtain ⟨h1, h2⟩ := h.hO a ha
  obtain ⟨x, c, e⟩ := h2.shape
  rw [e] at h1 h2
  exact ⟨x, c, h1, h2⟩
/-- What tight does with a tree. -/
def TDoes (env : List Fx) (xa : Option Addr) (ec eb eo : Nat) (ops : List Tr) (oa : Option Addr) (oc ob oo : Nat) (OK : Nat → Value) (t : Tr) (a b : Nat) : Prop :=
  ∀ (kv : Value) (w : World), TGround w env xa eb eo ops oa ob oo OK → Lies w t kv →
    Calls Tryd.prog 21 #[.slice xa env.length ec, nodeV t kv, .slice oa ops.length oc, .int .i64 a] w fun e w' => e = .returned (.tuple #[.int .i64 b, .bool true]) ∧ Below w.heap.size w w'
theorem alike_kind {t u : Tr} (h : t.kind ≠ u.kind) : t.alike u = false := by
  rw [Tr.alike_def]
  have : (t.kind == u.kind) = false := by simpa using h
  rw [this]; rfl
theorem alike_self (t : Tr) : t.alike t = true := alike_refl t.size t (Nat.le_refl _)
/-- The world as it stands within a call of tight. -/
def TS (w : World) (t : Tr) (kv : Value) (w' : World) : Prop := RowN w' w.heap.size t kv ∧ Below w.heap.size w w'
theorem TS.start (w : World) (t : Tr) (kv : Value) : TS w t kv (w.alloc (.cells #[.int .i64 t.kind, .int .i64 t.form, .string t.text, .int .i64 t.line, .int .i64 t.col, kv] 32)) := ⟨rowN_new w t kv, (Below.refl _ _).alloc (Nat.le_refl _) _⟩
theorem TS.below {w w1 w2 : World} {t : Tr} {kv : Value} (h : TS w t kv w1) (hb : Below w1.heap.size w1 w2) : TS w t kv w2 := ⟨h.1.under hb, Below.then h.2 hb⟩
theorem TS.alloc {w w1 : World} {t : Tr} {kv : Value} (h : TS w t kv w1) (o : Obj) : TS w t kv (w1.alloc o) := h.below ((Below.refl _ _).alloc (Nat.le_refl _) _)
theorem TS.drew {w w1 : World} {t : Tr} {kv : Value} (h : TS w t kv w1) : TS w t kv w1.drew := h.below (Below.refl _ _).drew
theorem TS.n0 {w w' : World} {t : Tr} {kv : Value} (h : TS w t kv w') : w'.cell? ⟨w.heap.size, 0, none⟩ = some (.int .i64 t.kind) := h.1.cells.1
theorem TS.n5 {w w' : World} {t : Tr} {kv : Value} (h : TS w t kv w') : w'.cell? ⟨w.heap.size, 5, none⟩ = some kv := h.1.cells.2.2.2.2.2

set_option maxRecDepth 20000 in
set_option maxHeartbeats 8000000 in
theorem tight_leaf (env : List Fx) (xa : Option Addr) (ec eb eo : Nat) (ops : List Tr) (oa : Option Addr) (oc ob oo : Nat) (OK : Nat → Value) (t : Tr) (a : Nat) (h : ops[a]? = some t) :
    TDoes env xa ec eb eo ops oa oc ob oo OK t a (a + 1) := by
  intro kv w hG hl
  obtain ⟨halt, hta⟩ := List.getElem?_eq_some_iff.1 h
  obtain ⟨xq, cq, hq1, hq2⟩ := hG.opd a halt
  obtain ⟨ka, cap, rfl⟩ := hl.shape
  have hoa := hG.hoa (by omega)
  subst hoa
  have hol := hG.hlen
  rw [hta] at hq1 hq2
  have A1 := fun kv jv w => refAll_any t.size t t kv jv w (Nat.le_refl _)
  rw [alike_self] at A1
  have A1 := Lib.hid A1
  have HL := Lib.hid hl
  have HQ := Lib.hid hq1
  have HQL := Lib.hid hq2
  have t1 : decide ((a : Int) < ops.length) = true := by simp; omega
  clear hG hl hq1 hq2 h hta
  have r0 := fun w' (h : TS w t (.slice ka t.kids.length cap) w') => h.1.cells.1
  have r1 := fun w' (h : TS w t (.slice ka t.kids.length cap) w') => h.1.cells.2.1
  have r2 := fun w' (h : TS w t (.slice ka t.kids.length cap) w') => h.1.cells.2.2.1
  have r3 := fun w' (h : TS w t (.slice ka t.kids.length cap) w') => h.1.cells.2.2.2.1
  have r4 := fun w' (h : TS w t (.slice ka t.kids.length cap) w') => h.1.cells.2.2.2.2.1
  have r5 := fun w' (h : TS w t (.slice ka t.kids.length cap) w') => h.1.cells.2.2.2.2.2
  have s0 := fun w' (h : TS w t (.slice ka t.kids.length cap) w') => (six0 HQ.out h.2).1
  have s1 := fun w' (h : TS w t (.slice ka t.kids.length cap) w') => (six0 HQ.out h.2).2.1
  have s2 := fun w' (h : TS w t (.slice ka t.kids.length cap) w') => (six0 HQ.out h.2).2.2.1
  have s3 := fun w' (h : TS w t (.slice ka t.kids.length cap) w') => (six0 HQ.out h.2).2.2.2.1
  have s4 := fun w' (h : TS w t (.slice ka t.kids.length cap) w') => (six0 HQ.out h.2).2.2.2.2.1
  have s5 := fun w' (h : TS w t (.slice ka t.kids.length cap) w') => (six0 HQ.out h.2).2.2.2.2.2
  have HS0 := Lib.hid (TS.start w t (.slice ka t.kids.length cap)).drew
  unfold nodeV
  go_enter Tryd.func21, Tryd.ntmps21
  go_wp2_with fail
  go_region_held3 (fun w' => TS w t (.slice ka t.kids.length cap) w')
    (first
      | with_reducible exact HS1.out
      | with_reducible exact HS0.out)
    (first
      | (go_at_call 20; refine (A1.out _ _ _ (HL.out.keep HS0.out.2) (HQL.out.keep HS0.out.2)).mono ?_; rintro e w1 ⟨rfl, hb1⟩; have HS1 := Lib.hid (HS0.out.below hb1)))
  go_wp2_with fail
  go_ret2
  exact ⟨by go_num, HS1.out.2⟩

set_option maxRecDepth 20000 in
set_option maxHeartbeats 16000000 in
theorem tight_neg (env : List Fx) (xa : Option Addr) (ec eb eo : Nat) (ops : List Tr) (oa : Option Addr) (oc ob oo : Nat) (OK : Nat → Value) (t x : Tr) (a b2 : Nat) (hk : t.kind = 21) (h2 : t.kids.length = 2) (hx : t.kids[1]? = some x) (ha : a < ops.length)
    (hD : TDoes env xa ec eb eo ops oa oc ob oo OK x a b2) (hA : t.alike ops[a] = false) (hm : x.kind = 20 → x.op.mid.text.size ≤ 1152921504606846976)
    (hc : (underX env x).2 = false ∨ (x.alike ops[a] = false ∧ (underX env x).2 = true ∧ x.kind = 20 ∧ 6 < (underX env x).1.prec)) :
    TDoes env xa ec eb eo ops oa oc ob oo OK t a b2 := by
  intro kv w hG hl
  obtain ⟨xq, cq, hq1, hq2⟩ := hG.opd a ha
  obtain ⟨ka, cap, b, o, K, rfl, hka, hkk⟩ := hl.kidsOf
  have hka := hka (by omega)
  subst hka
  have hoa := hG.hoa (by omega)
  subst hoa
  have hol := hG.hlen
  obtain ⟨xx, cx, hx1, hx2, _⟩ := kid_at hkk (Below.refl _ _) (show 1 < t.kids.length by omega)
  have hxe : t.kids[1] = x := by rw [List.getElem?_eq_getElem (by omega)] at hx; injection hx
  rw [hxe, Nat.one_mul] at hx1
  rw [hxe] at hx2
  have hE := hG.hE
  have U1 := fun w (hG : TGround w env xa eb eo ops (some ⟨ob, oo, none⟩) ob oo OK) hl => under_any env xa ec eb eo t (.slice (some ⟨b, o, none⟩) t.kids.length cap) w hG.hxa hG.hE hl hG.hT (fun h => by omega)
  have U2 := fun w (hG : TGround w env xa eb eo ops (some ⟨ob, oo, none⟩) ob oo OK) hl => under_any env xa ec eb eo x (.slice xx x.kids.length cx) w hG.hxa hG.hE hl hG.hT hm
  have hu1 : (underX env t).2 = true := by unfold underX; rw [if_pos hk]
  obtain ⟨⟨f, fi⟩, hf⟩ : ∃ p, underX env t = p := ⟨_, rfl⟩
  obtain ⟨⟨g, gi⟩, hg⟩ : ∃ p, underX env x = p := ⟨_, rfl⟩
  rw [hf] at U1 hu1
  rw [hg] at U2 hc
  simp only at hu1 hc
  subst hu1
  have A1 := fun kv jv w => refAll_any t.size t ops[a] kv jv w (Nat.le_refl _)
  have A2 := fun kv jv w => refAll_any x.size x ops[a] kv jv w (Nat.le_refl _)
  rw [hA] at A1
  obtain ⟨p, hp⟩ : ∃ p, x.alike ops[a] = p := ⟨_, rfl⟩
  rw [hp] at A2 hc
  have A1 := Lib.hid A1
  have A2 := Lib.hid A2
  have U1 := Lib.hid U1
  have U2 := Lib.hid U2
  have T1 := Lib.hid hD
  have HL := Lib.hid hl
  have HX := Lib.hid hx1
  have HXL := Lib.hid hx2
  have HQ := Lib.hid hq1
  have HQL := Lib.hid hq2
  have HG := Lib.hid hG
  generalize ops[a] = q at *
  have t1 : decide ((a : Int) < ops.length) = true := by simp; omega
  have t2 : (t.kind == 21) = true := by simp; exact hk
  have t3 : ((t.kids.length : Int) != 2) = false := by simp; omega
  clear hG hl hx1 hx2 hq1 hq2 hx hxe hkk hD hA hm hf hg hp hE hk
  have r0 := fun w' (h : TS w t (.slice (some ⟨b, o, none⟩) t.kids.length cap) w') => h.1.cells.1
  have s0 := fun w' (h : TS w t (.slice (some ⟨b, o, none⟩) t.kids.length cap) w') => (six0 HQ.out h.2).1
  have q0 := fun w' (h : TS w t (.slice (some ⟨b, o, none⟩) t.kids.length cap) w') => (six6 HX.out h.2).1
  have r1 := fun w' (h : TS w t (.slice (some ⟨b, o, none⟩) t.kids.length cap) w') => h.1.cells.2.1
  have s1 := fun w' (h : TS w t (.slice (some ⟨b, o, none⟩) t.kids.length cap) w') => (six0 HQ.out h.2).2.1
  have q1 := fun w' (h : TS w t (.slice (some ⟨b, o, none⟩) t.kids.length cap) w') => (six6 HX.out h.2).2.1
  have r2 := fun w' (h : TS w t (.slice (some ⟨b, o, none⟩) t.kids.length cap) w') => h.1.cells.2.2.1
  have s2 := fun w' (h : TS w t (.slice (some ⟨b, o, none⟩) t.kids.length cap) w') => (six0 HQ.out h.2).2.2.1
  have q2 := fun w' (h : TS w t (.slice (some ⟨b, o, none⟩) t.kids.length cap) w') => (six6 HX.out h.2).2.2.1
  have r3 := fun w' (h : TS w t (.slice (some ⟨b, o, none⟩) t.kids.length cap) w') => h.1.cells.2.2.2.1
  have s3 := fun w' (h : TS w t (.slice (some ⟨b, o, none⟩) t.kids.length cap) w') => (six0 HQ.out h.2).2.2.2.1
  have q3 := fun w' (h : TS w t (.slice (some ⟨b, o, none⟩) t.kids.length cap) w') => (six6 HX.out h.2).2.2.2.1
  have r4 := fun w' (h : TS w t (.slice (some ⟨b, o, none⟩) t.kids.length cap) w') => h.1.cells.2.2.2.2.1
  have s4 := fun w' (h : TS w t (.slice (some ⟨b, o, none⟩) t.kids.length cap) w') => (six0 HQ.out h.2).2.2.2.2.1
  have q4 := fun w' (h : TS w t (.slice (some ⟨b, o, none⟩) t.kids.length cap) w') => (six6 HX.out h.2).2.2.2.2.1
  have r5 := fun w' (h : TS w t (.slice (some ⟨b, o, none⟩) t.kids.length cap) w') => h.1.cells.2.2.2.2.2
  have s5 := fun w' (h : TS w t (.slice (some ⟨b, o, none⟩) t.kids.length cap) w') => (six0 HQ.out h.2).2.2.2.2.2
  have q5 := fun w' (h : TS w t (.slice (some ⟨b, o, none⟩) t.kids.length cap) w') => (six6 HX.out h.2).2.2.2.2.2
  have HS0 := Lib.hid (TS.start w t (.slice (some ⟨b, o, none⟩) t.kids.length cap)).drew
  have i1 : (1 : Int) < t.kids.length := by omega
  clear h2
  unfold nodeV
  rcases hc with rfl | ⟨rfl, rfl, h20, h6⟩
  · cases p
    all_goals
      go_enter Tryd.func21, Tryd.ntmps21
      go_wp2_with fail
      go_region_held3 (fun w' => TS w t (.slice (some ⟨b, o, none⟩) t.kids.length cap) w')
        (first
          | with_reducible exact HS1.out
          | with_reducible exact HS0.out)
        (first
          | (go_at_call 20; refine (A1.out _ _ _ (HL.out.keep HS0.out.2) (HQL.out.keep HS0.out.2)).mono ?_; rintro e w1 ⟨rfl, hb9⟩; have HS1 := Lib.hid (HS0.out.below hb9)))
      go_wp2_with fail
      refine (U1.out _ (HG.out.below HS1.out.2) (HL.out.keep HS1.out.2)).mono ?_
      rintro e w2 ⟨rfl, hb2⟩
      have HS2 := Lib.hid ((HS1.out.below hb2).alloc (.cells #[.string f.op, .int .i64 f.side, .int .i64 f.prec] 25))
      clear hb2
      have n0 := HS2.out.n0
      have n5 := HS2.out.n5
      obtain ⟨x0, x1, x2, x3, x4, x5⟩ := six6 HX.out HS2.out.2
      unfold underV
      simp only
      go_wp2_with fail
      refine (U2.out _ (HG.out.below HS2.out.2) (HXL.out.keep HS2.out.2)).mono ?_
      rintro e w3 ⟨rfl, hb3⟩
      have HS3 := Lib.hid ((HS2.out.below hb3).alloc (.cells #[.string g.op, .int .i64 g.side, .int .i64 g.prec] 25))
      have HG3 := Lib.hid (rowX_new w3 g)
      clear hb3 n0 n5 x0 x1 x2 x3 x4 x5
      have n0 := HS3.out.n0
      have n5 := HS3.out.n5
      obtain ⟨x0, x1, x2, x3, x4, x5⟩ := six6 HX.out HS3.out.2
      unfold underV
      simp only
      go_wp2_with fail
      refine (T1.out _ _ (HG.out.below HS3.out.2) (HXL.out.keep HS3.out.2)).mono ?_
      rintro e w4 ⟨rfl, hb4⟩
      have HS4' := Lib.hid (HS3.out.below hb4)
      have HS4 := Lib.hid HS4'.out.drew
      have HG4 := Lib.hid (HG3.out.below hb4)
      have hg4 := HG4.out.lt
      clear hb4 n0 n5 x0 x1 x2 x3 x4 x5
      go_wp2_with fail
      go_region_held3 (fun w' => TS w t (.slice (some ⟨b, o, none⟩) t.kids.length cap) w')
        (first
          | with_reducible exact HS5.out
          | with_reducible exact HS4.out)
        (first
          | (go_at_call 20; refine (A2.out _ _ _ (HXL.out.keep HS4.out.2) (HQL.out.keep HS4.out.2)).mono ?_; rintro e w5 ⟨rfl, hb9⟩; have HS5 := Lib.hid (HS4.out.below hb9)))
      have HG5 := Lib.hid (show RowX w5 w3.heap.size g from HG4.out.keep (hb9.block w3.heap.size hg4))
      clear r0 r1 r2 r3 r4 r5 q0 q1 q2 q3 q4 q5 s0 s1 s2 s3 s4 s5
      have n0 := HS5.out.n0
      have n5 := HS5.out.n5
      obtain ⟨x0, x1, x2, x3, x4, x5⟩ := six6 HX.out HS5.out.2
      obtain ⟨g0, g1, g2⟩ := HG5.out.cells
      go_wp2_with fail
      go_quiet (fail)
      go_wp2_with fail
      go_ret2
      exact ⟨rfl, below_drewN HS5.out.2 _⟩
  · have k1 : (x.kind == 20) = true := by simp; exact h20
    have k2 : decide (6 < g.prec) = true := by simp; exact h6
    clear h20 h6
    go_enter Tryd.func21, Tryd.ntmps21
    go_wp2_with fail
    go_region_held3 (fun w' => TS w t (.slice (some ⟨b, o, none⟩) t.kids.length cap) w')
      (first
        | with_reducible exact HS1.out
        | with_reducible exact HS0.out)
      (first
        | (go_at_call 20; refine (A1.out _ _ _ (HL.out.keep HS0.out.2) (HQL.out.keep HS0.out.2)).mono ?_; rintro e w1 ⟨rfl, hb9⟩; have HS1 := Lib.hid (HS0.out.below hb9)))
    go_wp2_with fail
    refine (U1.out _ (HG.out.below HS1.out.2) (HL.out.keep HS1.out.2)).mono ?_
    rintro e w2 ⟨rfl, hb2⟩
    have HS2 := Lib.hid ((HS1.out.below hb2).alloc (.cells #[.string f.op, .int .i64 f.side, .int .i64 f.prec] 25))
    clear hb2
    have n0 := HS2.out.n0
    have n5 := HS2.out.n5
    obtain ⟨x0, x1, x2, x3, x4, x5⟩ := six6 HX.out HS2.out.2
    unfold underV
    simp only
    go_wp2_with fail
    refine (U2.out _ (HG.out.below HS2.out.2) (HXL.out.keep HS2.out.2)).mono ?_
    rintro e w3 ⟨rfl, hb3⟩
    have HS3 := Lib.hid ((HS2.out.below hb3).alloc (.cells #[.string g.op, .int .i64 g.side, .int .i64 g.prec] 25))
    have HG3 := Lib.hid (rowX_new w3 g)
    clear hb3 n0 n5 x0 x1 x2 x3 x4 x5
    have n0 := HS3.out.n0
    have n5 := HS3.out.n5
    obtain ⟨x0, x1, x2, x3, x4, x5⟩ := six6 HX.out HS3.out.2
    unfold underV
    simp only
    go_wp2_with fail
    refine (T1.out _ _ (HG.out.below HS3.out.2) (HXL.out.keep HS3.out.2)).mono ?_
    rintro e w4 ⟨rfl, hb4⟩
    have HS4' := Lib.hid (HS3.out.below hb4)
    have HS4 := Lib.hid HS4'.out.drew
    have HG4 := Lib.hid (HG3.out.below hb4)
    have hg4 := HG4.out.lt
    clear hb4 n0 n5 x0 x1 x2 x3 x4 x5
    go_wp2_with fail
    go_region_held3 (fun w' => TS w t (.slice (some ⟨b, o, none⟩) t.kids.length cap) w')
      (first
        | with_reducible exact HS5.out
        | with_reducible exact HS4.out)
      (first
        | (go_at_call 20; refine (A2.out _ _ _ (HXL.out.keep HS4.out.2) (HQL.out.keep HS4.out.2)).mono ?_; rintro e w5 ⟨rfl, hb9⟩; have HS5 := Lib.hid (HS4.out.below hb9)))
    have HG5 := Lib.hid (show RowX w5 w3.heap.size g from HG4.out.keep (hb9.block w3.heap.size hg4))
    clear r0 r1 r2 r3 r4 r5 q0 q1 q2 q3 q4 q5 s0 s1 s2 s3 s4 s5
    have n0 := HS5.out.n0
    have n5 := HS5.out.n5
    obtain ⟨x0, x1, x2, x3, x4, x5⟩ := six6 HX.out HS5.out.2
    obtain ⟨g0, g1, g2⟩ := HG5.out.cells
    go_wp2_with fail
    go_quiet (fail)
    go_wp2_with fail
    go_ret2
    exact ⟨rfl, below_drewN HS5.out.2 _⟩

/-- The store of a whole fixity into a block that holds one. -/
theorem store_fix {wA : World} {g : Nat} {u : Fx} (h : RowX wA g u) (op : ByteArray) (a b : Int) :
    ∃ wN, (((wA.setCell ⟨g, 0, none⟩ (.string op)).setCell ⟨g, 1, none⟩ (.int .i64 a)).setCell ⟨g, 2, none⟩ (.int .i64 b)) = wN ∧
      RowX wN g ⟨op, a, b⟩ ∧ (∀ j, j ≠ g → wN.heap[j]? = wA.heap[j]?) ∧ wN.heap.size = wA.heap.size ∧ wN.os = wA.os ∧ wN.tape = wA.tape ∧ wN.output = wA.output := by
  have hb := below_set3 (Below.refl 0 wA) g (Nat.zero_le _) op a b
  refine ⟨_, rfl, rowX_set3 h op a b, fun j hj => ?_, by simp, hb.os, hb.tape, hb.output⟩
  rw [Below.heap_setCell _ _ _ _ hj, Below.heap_setCell _ _ _ _ hj, Below.heap_setCell _ _ _ _ hj]
end Go.Proofs.YtikkdkacflkifaaDoor
