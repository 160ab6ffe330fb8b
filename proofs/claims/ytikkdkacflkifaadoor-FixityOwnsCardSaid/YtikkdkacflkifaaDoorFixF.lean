/- DERIVED. The walk of beginning, given what beginning and going do further on. -/
import Derived.Test.YtikkdkacflkifaaDoorFixP
import Derived.Deep.RegionHeld3
import Derived.Deep.RegionWith
set_option linter.unusedSimpArgs false
set_option linter.unusedVariables false
namespace Go.Proofs.YtikkdkacflkifaaDoor
open Go.RowKit

theorem Lies.low {w : World} {t : Tr} {kv : Value} (h : Lies w t kv) : LiesP (fun g => g < w.heap.size) w t kv := by
  induction h with
  | mk kd fm tx ln cl ks xa cap b o K hlen hxa hc hk ih => exact .mk kd fm tx ln cl ks xa cap b o K hlen (fun h => ⟨hxa h, lt_of_cell (hc 0 h).c0⟩) hc ih
/-- What lies behind all calls of the resolver: the row of kids, what is told, the tables. -/
structure Ground (W0 : World) (X be b o : Nat) (ks : List Tr) (K : Nat → Value) (env : List Fx) : Prop where
  kid : ∀ i (h : i < ks.length), Cells6 W0 b (o + i * 6) ks[i] (K i) ∧ LiesP (fun g => g < W0.heap.size ∧ g ≠ X) W0 ks[i] (K i)
  env : EnvAt W0 be env
  tabs : Tabs16 W0
  text : ∀ i (h : i < ks.length), (ks[i]).mid.text.size ≤ 1152921504606846976
theorem Ground.at_ {W0 : World} {X be b o : Nat} {ks : List Tr} {K : Nat → Value} {env : List Fx} (h : Ground W0 X be b o ks K env) {k : Nat} (hk : k < ks.length) :
    ∃ x c, Cells6 W0 b (o + k * 6) ks[k] (.slice x ks[k].kids.length c) ∧ LiesP (fun g => g < W0.heap.size ∧ g ≠ X) W0 ks[k] (.slice x ks[k].kids.length c) ∧ b < W0.heap.size := by
  obtain ⟨h1, h2⟩ := h.kid k hk
  obtain ⟨x, c, e⟩ := h2.shape
  rw [e] at h1 h2
  exact ⟨x, c, h1, h2, lt_of_cell h1.c0⟩
theorem LiesP.kidsOf {P : Nat → Prop} {w : World} {t : Tr} {kv : Value} (h : LiesP P w t kv) :
    ∃ (xa : Option Addr) (cap b o : Nat) (K : Nat → Value), kv = .slice xa t.kids.length cap ∧ (0 < t.kids.length → xa = some ⟨b, o, none⟩ ∧ P b) ∧
      (∀ i (h : i < t.kids.length), Cells6 w b (o + i * 6) t.kids[i] (K i) ∧ LiesP P w t.kids[i] (K i)) := by
  cases h with
  | mk kd fm tx ln cl ks xa cap b o K hlen hxa hc hk => exact ⟨xa, cap, b, o, K, rfl, hxa, fun i h => ⟨hc i h, hk i h⟩⟩
/-- The resolver stands at the k-th kid. -/
def At (w : World) (rb be b o : Nat) (ks : List Tr) (k : Nat) (wr : Bool) : Prop := ∃ sv, RestAt b o ks k sv ∧ RV w rb be sv wr
/-- What a call of the resolver leaves behind. -/
def StepPost (W0 : World) (X be b o : Nat) (ks : List Tr) (B : Nat) (Q : Tr × Nat × Bool) (w : World) (e : Ending) (w' : World) : Prop :=
  But W0.heap.size w w' ∧ (∃ kv, e = .returned (nodeV Q.1 kv) ∧ LiesP (fun g => (g < W0.heap.size ∧ g ≠ X) ∨ B ≤ g) w' Q.1 kv) ∧ At w' W0.heap.size be b o ks Q.2.1 Q.2.2
/-- What beginning does. -/
def BeginDoes (W0 : World) (X be b o : Nat) (ks : List Tr) (env : List Fx) (f : Nat) : Prop :=
  ∀ (x : Fx) (k : Nat) (w : World), k < ks.length → rowOk true (ks.drop k) = true → 2 * (ks.length - k) ≤ f → Below W0.heap.size W0 w → At w W0.heap.size be b o ks k false →
    Calls Tryd.prog 36 #[.pointer (some ⟨W0.heap.size, 0, none⟩), fxV x] w (StepPost W0 X be b o ks w.heap.size (pBegin env ks f x k) w)
/-- What going does. -/
def GoDoes (W0 : World) (X be b o : Nat) (ks : List Tr) (env : List Fx) (f : Nat) : Prop :=
  ∀ (x : Fx) (n : Tr) (nv : Value) (k : Nat) (wr : Bool) (B : Nat) (w : World), k ≤ ks.length → (wr = true ∨ rowOk false (ks.drop k) = true) → 2 * (ks.length - k) ≤ f → Below W0.heap.size W0 w → W0.heap.size < B → B ≤ w.heap.size →
    LiesP (fun g => (g < W0.heap.size ∧ g ≠ X) ∨ B ≤ g) w n nv → At w W0.heap.size be b o ks k wr →
    Calls Tryd.prog 37 #[.pointer (some ⟨W0.heap.size, 0, none⟩), fxV x, nodeV n nv] w (StepPost W0 X be b o ks B (pGo env ks f x n k wr) w)

/-- The resolver stands somewhere. -/
def SomeAt (w : World) (rb be b o : Nat) (ks : List Tr) : Prop := ∃ k wr, At w rb be b o ks k wr
theorem At.lt {w : World} {rb be b o k : Nat} {ks : List Tr} {wr : Bool} (h : At w rb be b o ks k wr) : rb < w.heap.size := by obtain ⟨sv, _, h⟩ := h; exact h.lt
theorem At.alloc {w : World} {rb be b o k : Nat} {ks : List Tr} {wr : Bool} (h : At w rb be b o ks k wr) (x : Obj) : At (w.alloc x) rb be b o ks k wr := by obtain ⟨sv, h1, h⟩ := h; exact ⟨sv, h1, h.alloc x⟩
theorem At.keep {w w' : World} {rb be b o k : Nat} {ks : List Tr} {wr : Bool} (h : At w rb be b o ks k wr) (hb : w'.heap[rb]? = w.heap[rb]?) : At w' rb be b o ks k wr := by obtain ⟨sv, h1, h⟩ := h; exact ⟨sv, h1, hb.trans h⟩
theorem But.toBelow {W0 w w' : World} (h : But W0.heap.size w w') (hW : Below W0.heap.size W0 w) : Below W0.heap.size W0 w' := hW.trans (h.below (Nat.le_refl _) hW.size)

theorem But.set6 {b g : Nat} {w w' : World} (h : But b w w') (hg : w.heap.size ≤ g) (t : Tr) (kv : Value) : But b w (set6 w' g t kv) := by
  have hb := set6_below (Below.refl w.heap.size w') g hg t kv
  exact ⟨hb.os.trans h.os, hb.tape.trans h.tape, hb.output.trans h.output, Nat.le_trans h.size hb.size, fun k hk hn => (hb.block k hk).trans (h.block k hk hn)⟩

theorem two_lies {P : Nat → Prop} {w : World} {n m : Tr} {x y : Option Addr} {c d : Nat} (ty : TypeId) (k : Int) (hn : LiesP P w n (.slice x n.kids.length c)) (hm : LiesP P w m (.slice y m.kids.length d)) (hP : P w.heap.size) :
    LiesP P (w.alloc (.cells #[.int .i64 n.kind, .int .i64 n.form, .string n.text, .int .i64 n.line, .int .i64 n.col, .slice x n.kids.length c, .int .i64 m.kind, .int .i64 m.form, .string m.text, .int .i64 m.line, .int .i64 m.col, .slice y m.kids.length d] ty)) (nodeOf k [n, m]) (.slice (some ⟨w.heap.size, 0, none⟩) 2 2) := by
  have hnew := heap_alloc_new w (.cells #[.int .i64 n.kind, .int .i64 n.form, .string n.text, .int .i64 n.line, .int .i64 n.col, .slice x n.kids.length c, .int .i64 m.kind, .int .i64 m.form, .string m.text, .int .i64 m.line, .int .i64 m.col, .slice y m.kids.length d] ty)
  have hkeep := fun j (hj : j < w.heap.size) (_ : P j) => Below.heap_alloc w (.cells #[.int .i64 n.kind, .int .i64 n.form, .string n.text, .int .i64 n.line, .int .i64 n.col, .slice x n.kids.length c, .int .i64 m.kind, .int .i64 m.form, .string m.text, .int .i64 m.line, .int .i64 m.col, .slice y m.kids.length d] ty) j hj
  refine .mk k 0 ⟨#[]⟩ 0 0 [n, m] (some ⟨w.heap.size, 0, none⟩) 2 w.heap.size 0 (fun i => if i = 0 then .slice x n.kids.length c else .slice y m.kids.length d) ⟨Nat.le_refl _, by decide +kernel⟩ (fun _ => ⟨rfl, hP⟩) (fun i h => ?_) (fun i h => ?_)
  · match i, h with
    | 0, _ => exact ⟨cell_of_row _ _ _ _ _ _ hnew, cell_of_row _ _ _ _ _ _ hnew, cell_of_row _ _ _ _ _ _ hnew, cell_of_row _ _ _ _ _ _ hnew, cell_of_row _ _ _ _ _ _ hnew, cell_of_row _ _ _ _ _ _ hnew⟩
    | 1, _ => exact ⟨cell_of_row _ _ _ _ _ _ hnew, cell_of_row _ _ _ _ _ _ hnew, cell_of_row _ _ _ _ _ _ hnew, cell_of_row _ _ _ _ _ _ hnew, cell_of_row _ _ _ _ _ _ hnew, cell_of_row _ _ _ _ _ _ hnew⟩
  · match i, h with
    | 0, _ => exact hn.keep hkeep
    | 1, _ => exact hm.keep hkeep

/-- The store of a whole node into a block that holds one. -/
theorem store_node {wA : World} {g : Nat} {u : Tr} {kv0 : Value} (h : RowN wA g u kv0) (a b c d : Int) (tx : ByteArray) (kv : Value) :
    ∃ wN, ((((((wA.setCell ⟨g, 0, none⟩ (.int .i64 a)).setCell ⟨g, 1, none⟩ (.int .i64 b)).setCell ⟨g, 2, none⟩ (.string tx)).setCell ⟨g, 3, none⟩ (.int .i64 c)).setCell ⟨g, 4, none⟩ (.int .i64 d)).setCell ⟨g, 5, none⟩ kv) = wN ∧
      (∀ t : Tr, t.kind = a → t.form = b → t.text = tx → t.line = c → t.col = d → RowN wN g t kv) ∧ (∀ j, j ≠ g → wN.heap[j]? = wA.heap[j]?) ∧ wN.heap.size = wA.heap.size ∧ wN.os = wA.os ∧ wN.tape = wA.tape ∧ wN.output = wA.output := by
  have hb := (((((((Below.refl 0 wA).setCell (p := ⟨g, 0, none⟩) (Nat.zero_le _) (.int .i64 a)).setCell (p := ⟨g, 1, none⟩) (Nat.zero_le _) (.int .i64 b)).setCell (p := ⟨g, 2, none⟩) (Nat.zero_le _) (.string tx)).setCell (p := ⟨g, 3, none⟩) (Nat.zero_le _) (.int .i64 c)).setCell (p := ⟨g, 4, none⟩) (Nat.zero_le _) (.int .i64 d)).setCell (p := ⟨g, 5, none⟩) (Nat.zero_le _) kv)
  refine ⟨_, rfl, fun t e0 e1 e2 e3 e4 => ?_, fun j hj => ?_, by simp, hb.os, hb.tape, hb.output⟩
  · subst e0 e1 e2 e3 e4
    exact h.set t kv
  · rw [Below.heap_setCell _ _ _ _ hj, Below.heap_setCell _ _ _ _ hj, Below.heap_setCell _ _ _ _ hj, Below.heap_setCell _ _ _ _ hj, Below.heap_setCell _ _ _ _ hj, Below.heap_setCell _ _ _ _ hj]
theorem But.fresh {b : Nat} {w w1 w2 : World} {g : Nat} (h : But b w w1) (hg : w.heap.size ≤ g) (ho : ∀ j, j ≠ g → w2.heap[j]? = w1.heap[j]?) (hs : w2.heap.size = w1.heap.size) (h1 : w2.os = w1.os) (h2 : w2.tape = w1.tape) (h3 : w2.output = w1.output) : But b w w2 :=
  ⟨h1.trans h.os, h2.trans h.tape, h3.trans h.output, by rw [hs]; exact h.size, fun k hk hn => (ho k (by omega)).trans (h.block k hk hn)⟩

set_option maxRecDepth 20000 in
set_option maxHeartbeats 8000000 in
theorem beginning_step (W0 : World) (X be b o : Nat) (ks : List Tr) (K : Nat → Value) (env : List Fx) (f : Nat) (hG : Ground W0 X be b o ks K env) (hBe : BeginDoes W0 X be b o ks env f) (hGo : GoDoes W0 X be b o ks env f) : BeginDoes W0 X be b o ks env (f + 1) := by
  intro y k w hk hr hf hW hA
  have hps := pBegin_s env ks f k y hk
  obtain ⟨R, hR⟩ : ∃ R, pBegin env ks (f + 1) y k = R := ⟨_, rfl⟩
  rw [hR] at hps ⊢
  rw [rowOk_at ks k true hk] at hr
  obtain ⟨x, c, hc, hl, hbl⟩ := hG.at_ hk
  obtain ⟨sv, hRest, hRV⟩ := hA
  have hrlt := hRV.lt
  have HW := Lib.hid hW
  have HL := Lib.hid hl
  have HC := Lib.hid hc
  have T1 := Lib.hid fun w h hc => take_any W0.heap.size be b o ks k sv false (ks[k]'hk) x c w hk hRest h hc
  have HPS := Lib.hid hps
  have HRW := Lib.hid hr
  have HBE := Lib.hid hBe
  have HGO := Lib.hid hGo
  have HRV := Lib.hid hRV
  have hst := hW.size
  clear hps hr hc hl hRest hRV hW hBe hGo hR
  generalize hn : ks[k] = n at *
  clear hn
  unfold fxV
  by_cases h19 : n.kind = 19
  · have t1 : (n.kind == 19) = true := by simp; exact h19
    have H19 := Lib.hid h19
    clear h19
    go_enter Tryd.func36, Tryd.ntmps36
    go_wp2_with fail
    have HB0 := Lib.hid (((Below.refl w.heap.size w).alloc (Nat.le_refl _) (.cells #[.string y.op, .int .i64 y.side, .int .i64 y.prec] 25)).alloc (by simp) (.cells #[.int .i64 0, .int .i64 0, .string ⟨#[]⟩, .int .i64 0, .int .i64 0, .slice none 0 0] 32))
    have HX0 := Lib.hid ((rowX_new w y).alloc (.cells #[.int .i64 0, .int .i64 0, .string ⟨#[]⟩, .int .i64 0, .int .i64 0, .slice none 0 0] 32))
    have hN0 := rowN_new (w.alloc (.cells #[.string y.op, .int .i64 y.side, .int .i64 y.prec] 25)) zeroT (.slice none 0 0)
    rw [show (w.alloc (.cells #[.string y.op, .int .i64 y.side, .int .i64 y.prec] 25)).heap.size = w.heap.size + 1 from by simp] at hN0
    have HN0 := Lib.hid hN0
    clear hN0
    refine (T1.out _ ((HRV.out.alloc _).alloc _) (HC.out.below (HW.out.trans (HB0.out.mono hst)))).mono ?_
    rintro e w1 ⟨rfl, hb1, sv1, hR1, hV1⟩
    have HW1 := Lib.hid (hb1.toBelow (HW.out.trans (HB0.out.mono hst)))
    have HX1 := Lib.hid (HX0.out.keep (hb1.block _ (by simp; omega) (by omega)))
    have HN1 := Lib.hid (HN0.out.but hb1 (by omega))
    have HV1 := Lib.hid hV1
    have HR1 := Lib.hid hR1
    have HA1 := Lib.hid (show At w1 W0.heap.size be b o ks (k + 1) false from ⟨sv1, hR1, hV1⟩)
    have HBU := Lib.hid ((((But.refl W0.heap.size w).alloc (.cells #[.string y.op, .int .i64 y.side, .int .i64 y.prec] 25)).alloc (.cells #[.int .i64 0, .int .i64 0, .string ⟨#[]⟩, .int .i64 0, .int .i64 0, .slice none 0 0] 32)).trans hb1)
    have hs1 : w.heap.size + 2 ≤ w1.heap.size := by have := hb1.size; simp at this; omega
    clear hb1 hR1 hV1
    unfold nodeV
    have HV2 := Lib.hid (HV1.out.alloc (.cells #[.int .i64 n.kind, .int .i64 n.form, .string n.text, .int .i64 n.line, .int .i64 n.col, .slice x n.kids.length c] 32))
    have HX2 := Lib.hid (HX1.out.alloc (.cells #[.int .i64 n.kind, .int .i64 n.form, .string n.text, .int .i64 n.line, .int .i64 n.col, .slice x n.kids.length c] 32))
    have HM2 := Lib.hid (rowN_new w1 n (.slice x n.kids.length c))
    have HN2 := Lib.hid (HN1.out.alloc (.cells #[.int .i64 n.kind, .int .i64 n.form, .string n.text, .int .i64 n.line, .int .i64 n.col, .slice x n.kids.length c] 32))
    obtain ⟨x0, x1, x2⟩ := HX2.out.cells
    by_cases h6 : 6 ≤ y.prec
    · have HP := Lib.hid (show R = (n, k + 1, true) by rw [HPS.out, if_pos H19.out, if_pos h6])
      have t2 : decide (6 ≤ y.prec) = true := by simp; exact h6
      have v2 := HV2.out.c2
      have z2 := HV2.out.frozen
      have HM3 := Lib.hid (HM2.out.keep (Below.heap_setCell _ ⟨W0.heap.size, 2, none⟩ (.bool true) _ (by simp; omega)))
      have HN3 := Lib.hid (HN2.out.keep (Below.heap_setCell _ ⟨W0.heap.size, 2, none⟩ (.bool true) _ (by simp; omega)))
      obtain ⟨e0, e1, e2, e3, e4, e5⟩ := HM3.out.cells
      obtain ⟨d0, d1, d2, d3, d4, d5⟩ := HN3.out.cells
      have z := HN3.out.frozen
      go_wp2_with fail
      have HBUn := Lib.hid ((HBU.out.alloc (.cells #[.int .i64 n.kind, .int .i64 n.form, .string n.text, .int .i64 n.line, .int .i64 n.col, .slice x n.kids.length c] 32)).set 2 (.bool true))
      have HW2 := Lib.hid (HBUn.out.toBelow HW.out)
      rw [HP.out]
      refine bodyPost_ret (results_cell_row rfl _ _ (w.heap.size + 1) 32 _ (0, 0) _ rfl (HN3.out.set n (.slice x n.kids.length c)) Tryd.underlying32 rfl (by kernel_rfl)) rfl ?_
      exact ⟨HBUn.out.set6 (by omega) _ _, ⟨_, rfl, (((HL.out.keep (fun j _ hP => HW2.out.block j hP.1)).mono (Q := fun g => (g < W0.heap.size ∧ g ≠ X) ∨ w1.heap.size ≤ g) (fun j _ hP => .inl hP)).keep (fun j _ hP => set6_other _ _ _ _ _ (by have : (j < W0.heap.size ∧ j ≠ X) ∨ w1.heap.size ≤ j := hP; omega))).mono (fun j _ hP => by omega)⟩, At.keep ⟨sv1, HR1.out, HV2.out.set2 true⟩ (set6_other _ _ _ _ _ (by omega))⟩
    · have t2 : decide (6 ≤ y.prec) = false := by simp; omega
      obtain ⟨Q, hQ⟩ : ∃ Q, pBegin env ks f ⟨⟨#[]⟩, 1, 6⟩ (k + 1) = Q := ⟨_, rfl⟩
      have hro : rowOk true (ks.drop (k + 1)) = true := by have h := HRW.out; rw [rowOk_m _ _ H19.out] at h; exact h
      have hk1 : k + 1 < ks.length := by
        by_cases hh : k + 1 < ks.length
        · exact hh
        · rw [List.drop_eq_nil_of_le (by omega)] at hro; simp [rowOk] at hro
      have hfin := (p_fine env ks f).1 ⟨⟨#[]⟩, 1, 6⟩ (k + 1) (by omega) hro
      rw [hQ] at hfin
      have HF := Lib.hid hfin
      have HP := Lib.hid (show R = pGo env ks f y (nodeOf 21 [n, Q.1]) Q.2.1 Q.2.2 by rw [HPS.out, if_pos H19.out, if_neg h6, hQ])
      have B1 := Lib.hid fun w' hb hA => HBE.out ⟨⟨#[]⟩, 1, 6⟩ (k + 1) w' hk1 hro (by omega) hb hA
      rw [hQ] at B1
      have HW2 := Lib.hid (HW1.out.alloc (by omega) (.cells #[.int .i64 n.kind, .int .i64 n.form, .string n.text, .int .i64 n.line, .int .i64 n.col, .slice x n.kids.length c] 32))
      have HA2 := Lib.hid (HA1.out.alloc (.cells #[.int .i64 n.kind, .int .i64 n.form, .string n.text, .int .i64 n.line, .int .i64 n.col, .slice x n.kids.length c] 32))
      have v3 := HV2.out.c3
      obtain ⟨e0, e1, e2, e3, e4, e5⟩ := HM2.out.cells
      clear hQ hro hfin h6
      go_wp2_with fail
      go_region_with (go_at_call 36; refine (B1.out _ HW2.out.drew HA2.out).mono ?_; rintro e w3 ⟨hb3, ⟨jv, rfl, hl3⟩, hA3⟩; obtain ⟨ja, jc, rfl⟩ := hl3.shape; have HM3 := Lib.hid (show RowN w3 w1.heap.size n (.slice x n.kids.length c) from (hb3.block w1.heap.size (by simp) (by omega)).trans HM2.out); obtain ⟨d0, d1, d2, d3, d4, d5⟩ := HM3.out.cells; have z3 := fun o => (HM3.out.alloc o).frozen; have y0 := fun o => (HM3.out.alloc o).cells.1; have y1 := fun o => (HM3.out.alloc o).cells.2.1; have y2 := fun o => (HM3.out.alloc o).cells.2.2.1; have y3 := fun o => (HM3.out.alloc o).cells.2.2.2.1; have y4 := fun o => (HM3.out.alloc o).cells.2.2.2.2.1; have y5 := fun o => (HM3.out.alloc o).cells.2.2.2.2.2; unfold nodeV)
      all_goals
        have hHW3 := hb3.toBelow HW2.out.drew
        have hsz3 : w1.heap.size + 1 ≤ w3.heap.size := by have := hb3.size; simp at this; omega
        have hk3 : LiesP (fun g => (g < W0.heap.size ∧ g ≠ X) ∨ w1.heap.size + 1 ≤ g) w3 n (.slice x n.kids.length c) := (HL.out.keep (fun j _ hP => hHW3.block j hP.1)).mono (fun j _ hP => .inl hP)
        have hm3 : LiesP (fun g => (g < W0.heap.size ∧ g ≠ X) ∨ w1.heap.size + 1 ≤ g) w3 Q.1 (.slice ja Q.1.kids.length jc) := hl3.mono (fun j _ hP => by have := hP; simp at this; omega)
        have h2 := two_lies 32 21 hk3 hm3 (.inr hsz3)
        obtain ⟨wN, hwN, hR4, ho4, hz4, ho1, ho2, ho3⟩ := store_node (HM3.out.alloc (.cells #[.int .i64 n.kind, .int .i64 n.form, .string n.text, .int .i64 n.line, .int .i64 n.col, .slice x n.kids.length c, .int .i64 Q.1.kind, .int .i64 Q.1.form, .string Q.1.text, .int .i64 Q.1.line, .int .i64 Q.1.col, .slice ja Q.1.kids.length jc] 32)) 21 0 0 0 ⟨#[]⟩ (.slice (some ⟨w3.heap.size, 0, none⟩) 2 2)
        rw [hwN]
        obtain ⟨N5, kv5, hN5, hL5, hP5⟩ : ∃ N5 kv5, RowN wN w1.heap.size N5 kv5 ∧ LiesP (fun g => (g < W0.heap.size ∧ g ≠ X) ∨ w1.heap.size + 1 ≤ g) wN N5 kv5 ∧ nodeOf 21 [n, Q.1] = N5 :=
          ⟨_, _, hR4 _ rfl rfl rfl rfl rfl, h2.keep (fun j _ hP => ho4 j (by have h : (j < W0.heap.size ∧ j ≠ X) ∨ w1.heap.size + 1 ≤ j := hP; omega)), rfl⟩
        have hBU5 := ((((HBU.out.alloc (.cells #[.int .i64 n.kind, .int .i64 n.form, .string n.text, .int .i64 n.line, .int .i64 n.col, .slice x n.kids.length c] 32)).drewN 1).trans hb3).alloc (.cells #[.int .i64 n.kind, .int .i64 n.form, .string n.text, .int .i64 n.line, .int .i64 n.col, .slice x n.kids.length c, .int .i64 Q.1.kind, .int .i64 Q.1.form, .string Q.1.text, .int .i64 Q.1.line, .int .i64 Q.1.col, .slice ja Q.1.kids.length jc] 32)).fresh (g := w1.heap.size) (by omega) ho4 hz4 ho1 ho2 ho3
        have HW5 := Lib.hid (hBU5.toBelow HW.out)
        have HN5 := Lib.hid hN5
        have HL5 := Lib.hid hL5
        have hsz5 : w1.heap.size + 1 ≤ wN.heap.size := by rw [hz4]; simp; omega
        have HBU5 := Lib.hid hBU5
        have HX5 := Lib.hid (((RowX.keep HX2.out (hb3.block _ (by simp; omega) (by omega))).alloc (.cells #[.int .i64 n.kind, .int .i64 n.form, .string n.text, .int .i64 n.line, .int .i64 n.col, .slice x n.kids.length c, .int .i64 Q.1.kind, .int .i64 Q.1.form, .string Q.1.text, .int .i64 Q.1.line, .int .i64 Q.1.col, .slice ja Q.1.kids.length jc] 32)).keep (ho4 _ (by omega)))
        have HZ5 := Lib.hid (((show RowN w3 (w.heap.size + 1) zeroT (.slice none 0 0) from (hb3.block (w.heap.size + 1) (by simp; omega) (by omega)).trans HN2.out).alloc (.cells #[.int .i64 n.kind, .int .i64 n.form, .string n.text, .int .i64 n.line, .int .i64 n.col, .slice x n.kids.length c, .int .i64 Q.1.kind, .int .i64 Q.1.form, .string Q.1.text, .int .i64 Q.1.line, .int .i64 Q.1.col, .slice ja Q.1.kids.length jc] 32)).keep (ho4 _ (by omega)))
        have HA5 := Lib.hid ((hA3.alloc (.cells #[.int .i64 n.kind, .int .i64 n.form, .string n.text, .int .i64 n.line, .int .i64 n.col, .slice x n.kids.length c, .int .i64 Q.1.kind, .int .i64 Q.1.form, .string Q.1.text, .int .i64 Q.1.line, .int .i64 Q.1.col, .slice ja Q.1.kids.length jc] 32)).keep (ho4 _ (by omega)))
        have HP5 := Lib.hid (show R = pGo env ks f y N5 Q.2.1 Q.2.2 by rw [HP.out, hP5])
        have hq1 := HF.out.1
        have G1 := Lib.hid fun w' hb hB hl hA => HGO.out y N5 kv5 Q.2.1 Q.2.2 (w1.heap.size + 1) w' HF.out.2.1 HF.out.2.2 (by omega) hb (by omega) hB hl hA
        rw [← HP5.out] at G1
        clear hN5 hL5 hP5 hBU5 hwN hR4 ho4 hz4 ho1 ho2 ho3 h2 hk3 hm3 hl3 hHW3 hb3 hA3 d0 d1 d2 d3 d4 d5 z3 y0 y1 y2 y3 y4 y5 HM3 hq1 x0 x1 x2 e0 e1 e2 e3 e4 e5 v3 hsz3
        have rn0 := fun w' (h : RowN w' w1.heap.size N5 kv5) => h.cells.1
        have rn1 := fun w' (h : RowN w' w1.heap.size N5 kv5) => h.cells.2.1
        have rn2 := fun w' (h : RowN w' w1.heap.size N5 kv5) => h.cells.2.2.1
        have rn3 := fun w' (h : RowN w' w1.heap.size N5 kv5) => h.cells.2.2.2.1
        have rn4 := fun w' (h : RowN w' w1.heap.size N5 kv5) => h.cells.2.2.2.2.1
        have rn5 := fun w' (h : RowN w' w1.heap.size N5 kv5) => h.cells.2.2.2.2.2
        have rx0 := fun w' (h : RowX w' w.heap.size y) => h.cells.1
        have rx1 := fun w' (h : RowX w' w.heap.size y) => h.cells.2.1
        have rx2 := fun w' (h : RowX w' w.heap.size y) => h.cells.2.2
        have rv4 := fun w' (h : SomeAt w' W0.heap.size be b o ks) => (show w'.cell? ⟨W0.heap.size, 4, none⟩ = some (.func (.func 37) #[.pointer (some ⟨W0.heap.size, 0, none⟩)] #[]) from by obtain ⟨_, _, _, _, h⟩ := h; exact h.c4)
        have HL6 := Lib.hid (show LiesP (fun g => (g < W0.heap.size ∧ g ≠ X) ∨ w1.heap.size + 1 ≤ g) wN.drew N5 kv5 from HL5.out.keep (fun j _ _ => rfl))
        have HA6 := Lib.hid (show At wN.drew W0.heap.size be b o ks Q.2.1 Q.2.2 from HA5.out)
        have hs6 : w1.heap.size + 1 ≤ wN.drew.heap.size := hsz5
        go_wp2_with fail
        have HS0 := Lib.hid (show RowN wN.drew w1.heap.size N5 kv5 ∧ RowX wN.drew w.heap.size y ∧ SomeAt wN.drew W0.heap.size be b o ks from ⟨HN5.out, HX5.out, _, _, HA5.out⟩)
        go_region_held3 (fun w' => RowN w' w1.heap.size N5 kv5 ∧ RowX w' w.heap.size y ∧ SomeAt w' W0.heap.size be b o ks)
          (first
            | with_reducible exact HS3.out
            | with_reducible exact HS0.out
            | exact HS4.out)
          (first
            | (go_at_call 37; refine (G1.out _ HW5.out.drew hs6 HL6.out HA6.out).mono ?_; rintro e w7 ⟨hb7, ⟨jv, rfl, hl7⟩, hA7⟩; obtain ⟨ka, kc, rfl⟩ := hl7.shape; have HN7 := Lib.hid (show RowN w7 (w.heap.size + 1) zeroT (.slice none 0 0) from (hb7.block (w.heap.size + 1) (by simp; omega) (by omega)).trans HZ5.out); have HS3 := Lib.hid (show RowN w7 w1.heap.size N5 kv5 ∧ RowX w7 w.heap.size y ∧ SomeAt w7 W0.heap.size be b o ks from ⟨(hb7.block w1.heap.size (by simp; omega) (by omega)).trans HN5.out, (hb7.block w.heap.size (by simp; omega) (by omega)).trans HX5.out, _, _, hA7⟩); have HS4 := Lib.hid (show RowN (set6 w7 (w.heap.size + 1) R.1 (.slice ka R.1.kids.length kc)) w1.heap.size N5 kv5 ∧ RowX (set6 w7 (w.heap.size + 1) R.1 (.slice ka R.1.kids.length kc)) w.heap.size y ∧ SomeAt (set6 w7 (w.heap.size + 1) R.1 (.slice ka R.1.kids.length kc)) W0.heap.size be b o ks from ⟨HS3.out.1.keep (set6_other _ _ _ _ _ (by omega)), HS3.out.2.1.keep (set6_other _ _ _ _ _ (by omega)), _, _, hA7.keep (set6_other _ _ _ _ _ (by omega))⟩); obtain ⟨e0, e1, e2, e3, e4, e5⟩ := HN7.out.cells; have z := HN7.out.frozen; unfold nodeV))
        go_wp2_with fail
        refine bodyPost_ret (results_cell_row rfl _ _ (w.heap.size + 1) 32 _ (0, 0) _ rfl (HN7.out.set R.1 (.slice ka R.1.kids.length kc)) Tryd.underlying32 rfl (by kernel_rfl)) rfl ?_
        exact ⟨(HBU5.out.drewN 1 |>.trans hb7).set6 (by omega) _ _, ⟨_, rfl, (hl7.keep (fun j _ hP => set6_other _ _ _ _ _ (by have h : (j < W0.heap.size ∧ j ≠ X) ∨ w1.heap.size + 1 ≤ j := hP; omega))).mono (fun j _ hP => by have h : (j < W0.heap.size ∧ j ≠ X) ∨ w1.heap.size + 1 ≤ j := hP; omega)⟩, hA7.keep (set6_other _ _ _ _ _ (by omega))⟩
  · have t1 : (n.kind == 19) = false := by simp; exact h19
    have HP := Lib.hid (show R = pGo env ks f y n (k + 1) false by rw [HPS.out, if_neg h19])
    have hro : rowOk false (ks.drop (k + 1)) = true := by
      have h := HRW.out
      by_cases h18 : n.kind = 18
      · rw [rowOk_o _ _ h18] at h; cases h
      · rw [rowOk_n _ _ h19 h18] at h; exact h
    have HRO := Lib.hid hro
    clear h19 hro
    go_enter Tryd.func36, Tryd.ntmps36
    go_wp2_with fail
    have HB0 := Lib.hid (((Below.refl w.heap.size w).alloc (Nat.le_refl _) (.cells #[.string y.op, .int .i64 y.side, .int .i64 y.prec] 25)).alloc (by simp) (.cells #[.int .i64 0, .int .i64 0, .string ⟨#[]⟩, .int .i64 0, .int .i64 0, .slice none 0 0] 32))
    have HX0 := Lib.hid ((rowX_new w y).alloc (.cells #[.int .i64 0, .int .i64 0, .string ⟨#[]⟩, .int .i64 0, .int .i64 0, .slice none 0 0] 32))
    have hN0 := rowN_new (w.alloc (.cells #[.string y.op, .int .i64 y.side, .int .i64 y.prec] 25)) zeroT (.slice none 0 0)
    rw [show (w.alloc (.cells #[.string y.op, .int .i64 y.side, .int .i64 y.prec] 25)).heap.size = w.heap.size + 1 from by simp] at hN0
    have HN0 := Lib.hid hN0
    clear hN0
    refine (T1.out _ ((HRV.out.alloc _).alloc _) (HC.out.below (HW.out.trans (HB0.out.mono hst)))).mono ?_
    rintro e w1 ⟨rfl, hb1, sv1, hR1, hV1⟩
    have HW1 := Lib.hid (hb1.toBelow (HW.out.trans (HB0.out.mono hst)))
    have HX1 := Lib.hid (HX0.out.keep (hb1.block _ (by simp; omega) (by omega)))
    have HN1 := Lib.hid (HN0.out.but hb1 (by omega))
    have HA1 := Lib.hid (show At w1 W0.heap.size be b o ks (k + 1) false from ⟨sv1, hR1, hV1⟩)
    have HBU := Lib.hid ((((But.refl W0.heap.size w).alloc (.cells #[.string y.op, .int .i64 y.side, .int .i64 y.prec] 25)).alloc (.cells #[.int .i64 0, .int .i64 0, .string ⟨#[]⟩, .int .i64 0, .int .i64 0, .slice none 0 0] 32)).trans hb1)
    have hs1 : w.heap.size + 2 ≤ w1.heap.size := by have := hb1.size; simp at this; omega
    clear hb1 hR1 hV1
    unfold nodeV
    go_wp2_with fail
    have HBUn := Lib.hid (HBU.out.alloc (.cells #[.int .i64 n.kind, .int .i64 n.form, .string n.text, .int .i64 n.line, .int .i64 n.col, .slice x n.kids.length c] 32))
    have HW2 := Lib.hid (HW1.out.alloc (by omega) (.cells #[.int .i64 n.kind, .int .i64 n.form, .string n.text, .int .i64 n.line, .int .i64 n.col, .slice x n.kids.length c] 32))
    have HM2 := Lib.hid (rowN_new w1 n (.slice x n.kids.length c))
    have HX2 := Lib.hid (HX1.out.alloc (.cells #[.int .i64 n.kind, .int .i64 n.form, .string n.text, .int .i64 n.line, .int .i64 n.col, .slice x n.kids.length c] 32))
    have HN2 := Lib.hid (HN1.out.alloc (.cells #[.int .i64 n.kind, .int .i64 n.form, .string n.text, .int .i64 n.line, .int .i64 n.col, .slice x n.kids.length c] 32))
    have HA2 := Lib.hid (HA1.out.alloc (.cells #[.int .i64 n.kind, .int .i64 n.form, .string n.text, .int .i64 n.line, .int .i64 n.col, .slice x n.kids.length c] 32))
    have rn0 := fun w' (h : RowN w' w1.heap.size n (.slice x n.kids.length c)) => h.cells.1
    have rn1 := fun w' (h : RowN w' w1.heap.size n (.slice x n.kids.length c)) => h.cells.2.1
    have rn2 := fun w' (h : RowN w' w1.heap.size n (.slice x n.kids.length c)) => h.cells.2.2.1
    have rn3 := fun w' (h : RowN w' w1.heap.size n (.slice x n.kids.length c)) => h.cells.2.2.2.1
    have rn4 := fun w' (h : RowN w' w1.heap.size n (.slice x n.kids.length c)) => h.cells.2.2.2.2.1
    have rn5 := fun w' (h : RowN w' w1.heap.size n (.slice x n.kids.length c)) => h.cells.2.2.2.2.2
    have rx0 := fun w' (h : RowX w' w.heap.size y) => h.cells.1
    have rx1 := fun w' (h : RowX w' w.heap.size y) => h.cells.2.1
    have rx2 := fun w' (h : RowX w' w.heap.size y) => h.cells.2.2
    have rv4 := fun w' (h : SomeAt w' W0.heap.size be b o ks) => (show w'.cell? ⟨W0.heap.size, 4, none⟩ = some (.func (.func 37) #[.pointer (some ⟨W0.heap.size, 0, none⟩)] #[]) from by obtain ⟨_, _, _, _, h⟩ := h; exact h.c4)
    have G1 := Lib.hid fun w' hb hB hl hA => HGO.out y n (.slice x n.kids.length c) (k + 1) false w1.heap.size w' (by omega) (.inr HRO.out) (by omega) hb (by omega) hB hl hA
    rw [← HP.out] at G1
    have HS0 := Lib.hid (show RowN (w1.alloc (.cells #[.int .i64 n.kind, .int .i64 n.form, .string n.text, .int .i64 n.line, .int .i64 n.col, .slice x n.kids.length c] 32)).drew w1.heap.size n (.slice x n.kids.length c) ∧ RowX (w1.alloc (.cells #[.int .i64 n.kind, .int .i64 n.form, .string n.text, .int .i64 n.line, .int .i64 n.col, .slice x n.kids.length c] 32)).drew w.heap.size y ∧ SomeAt (w1.alloc (.cells #[.int .i64 n.kind, .int .i64 n.form, .string n.text, .int .i64 n.line, .int .i64 n.col, .slice x n.kids.length c] 32)).drew W0.heap.size be b o ks from ⟨HM2.out, HX2.out, _, _, HA2.out⟩)
    go_region_held3 (fun w' => RowN w' w1.heap.size n (.slice x n.kids.length c) ∧ RowX w' w.heap.size y ∧ SomeAt w' W0.heap.size be b o ks)
      (first
        | with_reducible exact HS3.out
        | with_reducible exact HS0.out
        | exact HS4.out)
      (first
        | (go_at_call 37; refine (G1.out _ HW2.out.drew (by simp) ((HL.out.keep (fun j _ hP => HW2.out.drew.block j hP.1)).mono (fun j _ hP => .inl hP)) HA2.out).mono ?_; rintro e w3 ⟨hb3, ⟨jv, rfl, hl3⟩, hA3⟩; obtain ⟨ja, jc, rfl⟩ := hl3.shape; have HN3 := Lib.hid (show RowN w3 (w.heap.size + 1) zeroT (.slice none 0 0) from (hb3.block (w.heap.size + 1) (by simp; omega) (by omega)).trans HN2.out); have HS3 := Lib.hid (show RowN w3 w1.heap.size n (.slice x n.kids.length c) ∧ RowX w3 w.heap.size y ∧ SomeAt w3 W0.heap.size be b o ks from ⟨(hb3.block w1.heap.size (by simp) (by omega)).trans HM2.out, (hb3.block w.heap.size (by simp; omega) (by omega)).trans HX2.out, _, _, hA3⟩); have HS4 := Lib.hid (show RowN (set6 w3 (w.heap.size + 1) R.1 (.slice ja R.1.kids.length jc)) w1.heap.size n (.slice x n.kids.length c) ∧ RowX (set6 w3 (w.heap.size + 1) R.1 (.slice ja R.1.kids.length jc)) w.heap.size y ∧ SomeAt (set6 w3 (w.heap.size + 1) R.1 (.slice ja R.1.kids.length jc)) W0.heap.size be b o ks from ⟨HS3.out.1.keep (set6_other _ _ _ _ _ (by omega)), HS3.out.2.1.keep (set6_other _ _ _ _ _ (by omega)), _, _, hA3.keep (set6_other _ _ _ _ _ (by omega))⟩); obtain ⟨e0, e1, e2, e3, e4, e5⟩ := HN3.out.cells; have z := HN3.out.frozen; unfold nodeV))
    go_wp2_with fail
    refine bodyPost_ret (results_cell_row rfl _ _ (w.heap.size + 1) 32 _ (0, 0) _ rfl (HN3.out.set R.1 (.slice ja R.1.kids.length jc)) Tryd.underlying32 rfl (by kernel_rfl)) rfl ?_
    exact ⟨(HBUn.out.drewN 1 |>.trans hb3).set6 (by omega) _ _, ⟨_, rfl, (hl3.keep (fun j _ hP => set6_other _ _ _ _ _ (by omega))).mono (fun j _ hP => by omega)⟩, hA3.keep (set6_other _ _ _ _ _ (by omega))⟩
#print axioms beginning_step
end Go.Proofs.YtikkdkacflkifaaDoor
