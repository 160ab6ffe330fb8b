/- DERIVED. The walk of going, given what beginning does further on. -/
import Derived.Test.YtikkdkacflkifaaDoorFixF
import Derived.Deep.DeepCutAuto
set_option linter.unusedSimpArgs false
set_option linter.unusedVariables false
namespace Go.Proofs.YtikkdkacflkifaaDoor
open Go.RowKit

theorem three_lies {P : Nat → Prop} {w : World} {n m l : Tr} {x y z : Option Addr} {c d e : Nat} (ty : TypeId) (k : Int) (hn : LiesP P w n (.slice x n.kids.length c)) (hm : LiesP P w m (.slice y m.kids.length d)) (hl : LiesP P w l (.slice z l.kids.length e)) (hP : P w.heap.size) :
    LiesP P (w.alloc (.cells #[.int .i64 n.kind, .int .i64 n.form, .string n.text, .int .i64 n.line, .int .i64 n.col, .slice x n.kids.length c, .int .i64 m.kind, .int .i64 m.form, .string m.text, .int .i64 m.line, .int .i64 m.col, .slice y m.kids.length d, .int .i64 l.kind, .int .i64 l.form, .string l.text, .int .i64 l.line, .int .i64 l.col, .slice z l.kids.length e] ty)) (nodeOf k [n, m, l]) (.slice (some ⟨w.heap.size, 0, none⟩) 3 3) := by
  have hnew := heap_alloc_new w (.cells #[.int .i64 n.kind, .int .i64 n.form, .string n.text, .int .i64 n.line, .int .i64 n.col, .slice x n.kids.length c, .int .i64 m.kind, .int .i64 m.form, .string m.text, .int .i64 m.line, .int .i64 m.col, .slice y m.kids.length d, .int .i64 l.kind, .int .i64 l.form, .string l.text, .int .i64 l.line, .int .i64 l.col, .slice z l.kids.length e] ty)
  have hkeep := fun j (hj : j < w.heap.size) (_ : P j) => Below.heap_alloc w (.cells #[.int .i64 n.kind, .int .i64 n.form, .string n.text, .int .i64 n.line, .int .i64 n.col, .slice x n.kids.length c, .int .i64 m.kind, .int .i64 m.form, .string m.text, .int .i64 m.line, .int .i64 m.col, .slice y m.kids.length d, .int .i64 l.kind, .int .i64 l.form, .string l.text, .int .i64 l.line, .int .i64 l.col, .slice z l.kids.length e] ty) j hj
  refine .mk k 0 ⟨#[]⟩ 0 0 [n, m, l] (some ⟨w.heap.size, 0, none⟩) 3 w.heap.size 0 (fun i => if i = 0 then .slice x n.kids.length c else if i = 1 then .slice y m.kids.length d else .slice z l.kids.length e) ⟨Nat.le_refl _, by decide +kernel⟩ (fun _ => ⟨rfl, hP⟩) (fun i h => ?_) (fun i h => ?_)
  · match i, h with
    | 0, _ => exact ⟨cell_of_row _ _ _ _ _ _ hnew, cell_of_row _ _ _ _ _ _ hnew, cell_of_row _ _ _ _ _ _ hnew, cell_of_row _ _ _ _ _ _ hnew, cell_of_row _ _ _ _ _ _ hnew, cell_of_row _ _ _ _ _ _ hnew⟩
    | 1, _ => exact ⟨cell_of_row _ _ _ _ _ _ hnew, cell_of_row _ _ _ _ _ _ hnew, cell_of_row _ _ _ _ _ _ hnew, cell_of_row _ _ _ _ _ _ hnew, cell_of_row _ _ _ _ _ _ hnew, cell_of_row _ _ _ _ _ _ hnew⟩
    | 2, _ => exact ⟨cell_of_row _ _ _ _ _ _ hnew, cell_of_row _ _ _ _ _ _ hnew, cell_of_row _ _ _ _ _ _ hnew, cell_of_row _ _ _ _ _ _ hnew, cell_of_row _ _ _ _ _ _ hnew, cell_of_row _ _ _ _ _ _ hnew⟩
  · match i, h with
    | 0, _ => exact hn.keep hkeep
    | 1, _ => exact hm.keep hkeep
    | 2, _ => exact hl.keep hkeep

theorem EnvAt.below {w w' : World} {be : Nat} {env : List Fx} (h : EnvAt w be env) (hb : Below w.heap.size w w') : EnvAt w' be env := by
  obtain ⟨⟨xa, cap, b, o, h1, h2, h3⟩⟩ := h
  exact ⟨⟨xa, cap, b, o, (hb.block be (Array.getElem?_eq_some_iff.1 h1).1).trans h1, h2, h3.below hb⟩⟩

/-- Where going has come to. -/
structure GoAt (W0 : World) (X be b o : Nat) (ks : List Tr) (env : List Fx) (y : Fx) (B : Nat) (w : World) (F : Nat) (R : Tr × Nat × Bool) (n : Tr) (nv : Value) (k : Nat) (q : Bool) (f : Nat) (W : World) : Prop where
  but : But W0.heap.size w W
  big : w.heap.size + 3 ≤ W.heap.size
  box : RowX W w.heap.size y
  cur : RowN W (w.heap.size + 1) n nv
  res : RowN W (w.heap.size + 2) zeroT (.slice none 0 0)
  lie : LiesP (fun g => ((g < W0.heap.size ∧ g ≠ X) ∨ B ≤ g) ∧ g ≠ w.heap.size + 1 ∧ g ≠ w.heap.size + 2) W n nv
  at_ : At W W0.heap.size be b o ks k q
  le : k ≤ ks.length
  row : q = true ∨ rowOk false (ks.drop k) = true
  fuel : 2 * (ks.length - k) ≤ f
  most : f ≤ F
  val : pGo env ks f y n k q = R
def GoRel (W0 : World) (X be b o : Nat) (ks : List Tr) (env : List Fx) (y : Fx) (B : Nat) (w : World) (F : Nat) (R : Tr × Nat × Bool) (g : Nat) (W : World) : Prop :=
  ∃ n nv k q f, g = ks.length - k ∧ GoAt W0 X be b o ks env y B w F R n nv k q f W

theorem other6 (wA : World) (g : Nat) (v0 v1 v2 v3 v4 v5 : Value) (j : Nat) (hj : j ≠ g) : ((((((wA.setCell ⟨g, 0, none⟩ v0).setCell ⟨g, 1, none⟩ v1).setCell ⟨g, 2, none⟩ v2).setCell ⟨g, 3, none⟩ v3).setCell ⟨g, 4, none⟩ v4).setCell ⟨g, 5, none⟩ v5).heap[j]? = wA.heap[j]? := by
  rw [Below.heap_setCell _ _ _ _ hj, Below.heap_setCell _ _ _ _ hj, Below.heap_setCell _ _ _ _ hj, Below.heap_setCell _ _ _ _ hj, Below.heap_setCell _ _ _ _ hj, Below.heap_setCell _ _ _ _ hj]
theorem set3_other (w : World) (g : Nat) (x : Fx) (k : Nat) (hk : k ≠ g) : (set3 w g x).heap[k]? = w.heap[k]? := by
  unfold set3
  rw [Below.heap_setCell _ _ _ _ hk, Below.heap_setCell _ _ _ _ hk, Below.heap_setCell _ _ _ _ hk]
theorem SomeAt.keep {w w' : World} {rb be b o : Nat} {ks : List Tr} (h : SomeAt w rb be b o ks) (hb : w'.heap[rb]? = w.heap[rb]?) : SomeAt w' rb be b o ks := by
  obtain ⟨k, q, h⟩ := h
  exact ⟨k, q, h.keep hb⟩
theorem SomeAt.alloc {w : World} {rb be b o : Nat} {ks : List Tr} (h : SomeAt w rb be b o ks) (x : Obj) : SomeAt (w.alloc x) rb be b o ks := by
  obtain ⟨k, q, h⟩ := h
  exact ⟨k, q, h.alloc x⟩
theorem Cells6.alloc {w : World} {b o : Nat} {t : Tr} {kv : Value} (h : Cells6 w b o t kv) (x : Obj) : Cells6 (w.alloc x) b o t kv := h.below ((Below.refl _ _).alloc (Nat.le_refl _) _)
/-- Whether a round goes on. -/
theorem go_case (y p : Fx) {A B C : Prop} (hA : y.prec = p.prec ∧ (y.side ≠ p.side ∨ y.side = 3) → A) (hB : ¬ (y.prec = p.prec ∧ (y.side ≠ p.side ∨ y.side = 3)) → (p.prec < y.prec ∨ (y.prec = p.prec ∧ y.side = 1)) → B)
    (hC : ¬ (y.prec = p.prec ∧ (y.side ≠ p.side ∨ y.side = 3)) → ¬ (p.prec < y.prec ∨ (y.prec = p.prec ∧ y.side = 1)) → C) :
    (A ∧ (y.prec == p.prec) = true ∧ ((y.side != p.side) = true ∨ ((y.side != p.side) = false ∧ (y.side == 3) = true))) ∨
    (B ∧ (((y.prec == p.prec) = true ∧ (y.side != p.side) = false ∧ (y.side == 3) = false ∧ decide (p.prec < y.prec) = false ∧ (y.side == 1) = true) ∨ ((y.prec == p.prec) = false ∧ decide (p.prec < y.prec) = true))) ∨
    (C ∧ (((y.prec == p.prec) = true ∧ (y.side != p.side) = false ∧ (y.side == 3) = false ∧ decide (p.prec < y.prec) = false ∧ (y.side == 1) = false) ∨ ((y.prec == p.prec) = false ∧ decide (p.prec < y.prec) = false))) := by
  by_cases h1 : y.prec = p.prec
  · by_cases h2 : y.side = p.side
    · by_cases h3 : y.side = 3
      · exact .inl ⟨hA ⟨h1, .inr h3⟩, by simpa using h1, .inr ⟨by simpa using h2, by simpa using h3⟩⟩
      · have hn : ¬ (y.prec = p.prec ∧ (y.side ≠ p.side ∨ y.side = 3)) := fun h => h.2.elim (fun h => h h2) h3
        by_cases h4 : y.side = 1
        · exact .inr (.inl ⟨hB hn (.inr ⟨h1, h4⟩), .inl ⟨by simpa using h1, by simpa using h2, by simpa using h3, by simp; omega, by simpa using h4⟩⟩)
        · exact .inr (.inr ⟨hC hn (fun h => h.elim (by omega) (fun h => h4 h.2)), .inl ⟨by simpa using h1, by simpa using h2, by simpa using h3, by simp; omega, by simpa using h4⟩⟩)
    · exact .inl ⟨hA ⟨h1, .inl h2⟩, by simpa using h1, .inl (by simpa using h2)⟩
  · have hn : ¬ (y.prec = p.prec ∧ (y.side ≠ p.side ∨ y.side = 3)) := fun h => h1 h.1
    by_cases h5 : p.prec < y.prec
    · exact .inr (.inl ⟨hB hn (.inl h5), .inr ⟨by simpa using h1, by simpa using h5⟩⟩)
    · exact .inr (.inr ⟨hC hn (fun h => h.elim h5 (fun h => h1 h.1)), .inr ⟨by simpa using h1, by simpa using h5⟩⟩)

theorem go_exit {W0 : World} {X be b o : Nat} {ks : List Tr} {B : Nat} {w W : World} {R : Tr × Nat × Bool} {n : Tr} {nv : Value} {k : Nat} {q : Bool} (hW0 : W0.heap.size < w.heap.size)
    (but : But W0.heap.size w W) (lie : LiesP (fun g => ((g < W0.heap.size ∧ g ≠ X) ∨ B ≤ g) ∧ g ≠ w.heap.size + 1 ∧ g ≠ w.heap.size + 2) W n nv) (hA : At W W0.heap.size be b o ks k q) (hR : R = (n, k, q)) :
    StepPost W0 X be b o ks B R w (.returned (nodeV n nv)) (set6 W (w.heap.size + 2) n nv) := by
  subst hR
  exact ⟨but.set6 (by omega) _ _, ⟨nv, rfl, (lie.keep (fun j _ hP => set6_other _ _ _ _ _ (by omega))).mono (fun j _ hP => hP.1)⟩, hA.keep (set6_other _ _ _ _ _ (by omega))⟩

set_option maxRecDepth 20000 in
set_option maxHeartbeats 16000000 in
theorem going_step (W0 : World) (X be b o : Nat) (ks : List Tr) (K : Nat → Value) (env : List Fx) (F : Nat) (hG : Ground W0 X be b o ks K env) (hBe : ∀ f, f < F → BeginDoes W0 X be b o ks env f) : GoDoes W0 X be b o ks env F := by
  intro y n nv k q B w hk hr hf hW hB1 hB2 hl hA
  obtain ⟨R, hR⟩ : ∃ R, pGo env ks F y n k q = R := ⟨_, rfl⟩
  rw [hR]
  obtain ⟨xa, c, rfl⟩ := hl.shape
  have HG := Lib.hid hG
  have HW := Lib.hid hW
  have HBE := Lib.hid hBe
  have hst := hW.size
  have HS : Hid (GoAt W0 X be b o ks env y B w F R n (.slice xa n.kids.length c) k q F (((w.alloc (.cells #[.string y.op, .int .i64 y.side, .int .i64 y.prec] 25)).alloc (.cells #[.int .i64 n.kind, .int .i64 n.form, .string n.text, .int .i64 n.line, .int .i64 n.col, .slice xa n.kids.length c] 32)).alloc (.cells #[.int .i64 0, .int .i64 0, .string ⟨#[]⟩, .int .i64 0, .int .i64 0, .slice none 0 0] 32))) := by
    refine Lib.hid ⟨(((But.refl _ w).alloc _).alloc _).alloc _, by simp, ((rowX_new w y).alloc _).alloc _, ?_, ?_, ?_, ((hA.alloc _).alloc _).alloc _, hk, hr, hf, Nat.le_refl _, hR⟩
    · have h := (rowN_new (w.alloc (.cells #[.string y.op, .int .i64 y.side, .int .i64 y.prec] 25)) n (.slice xa n.kids.length c)).alloc (.cells #[.int .i64 0, .int .i64 0, .string ⟨#[]⟩, .int .i64 0, .int .i64 0, .slice none 0 0] 32)
      rw [show (w.alloc (.cells #[.string y.op, .int .i64 y.side, .int .i64 y.prec] 25)).heap.size = w.heap.size + 1 from by simp] at h
      exact h
    · have h := rowN_new ((w.alloc (.cells #[.string y.op, .int .i64 y.side, .int .i64 y.prec] 25)).alloc (.cells #[.int .i64 n.kind, .int .i64 n.form, .string n.text, .int .i64 n.line, .int .i64 n.col, .slice xa n.kids.length c] 32)) zeroT (.slice none 0 0)
      rw [show ((w.alloc (.cells #[.string y.op, .int .i64 y.side, .int .i64 y.prec] 25)).alloc (.cells #[.int .i64 n.kind, .int .i64 n.form, .string n.text, .int .i64 n.line, .int .i64 n.col, .slice xa n.kids.length c] 32)).heap.size = w.heap.size + 2 from by simp] at h
      exact h
    · refine (hl.mono (Q := fun g => ((g < W0.heap.size ∧ g ≠ X) ∨ B ≤ g) ∧ g ≠ w.heap.size + 1 ∧ g ≠ w.heap.size + 2) (fun j hj hP => ⟨hP, by omega, by omega⟩)).keep (fun j hj _ => ?_)
      rw [Below.heap_alloc _ _ j (by simp; omega), Below.heap_alloc _ _ j (by simp; omega), Below.heap_alloc _ _ j hj]
  clear hG hW hBe hl hA hr hR
  unfold fxV nodeV
  go_enter Tryd.func37, Tryd.ntmps37
  go_wp2_with fail
  go_loopg [7] (ks.length - k) (fun g _ W => GoRel W0 X be b o ks env y B w F R g W)
  case atStart => exact ⟨n, _, k, q, F, rfl, HS.out⟩
  case round =>
    obtain ⟨n, nv, k, q, f, hgk, but, big, box, cur, res, lie, at_, hk, row, fuel, most, val⟩ := hrel
    obtain ⟨xa, c, rfl⟩ := lie.shape
    clear HS
    have HBU := Lib.hid but; have HX := Lib.hid box; have HN := Lib.hid cur; have HZ := Lib.hid res; have HL := Lib.hid lie; have HRow := Lib.hid row
    have HHW := Lib.hid (but.toBelow HW.out)
    have HA := Lib.hid at_
    obtain ⟨sv, hRest, hRV⟩ := at_
    have hrl := hRV.lt
    have HGK := Lib.hid hgk
    have hst2 := but.size
    clear but box cur res lie row hgk
    cases q with
    | true =>
      have v2 := hRV.c2
      rw [pGo_w] at val
      have HV := Lib.hid val
      clear val hRV
      have hN9 := HN.out
      obtain ⟨d0, d1, d2, d3, d4, d5⟩ := hN9.cells
      have HZ9 := Lib.hid HZ.out
      obtain ⟨e0, e1, e2, e3, e4, e5⟩ := HZ9.out.cells
      have z9 := HZ9.out.frozen
      clear hN9
      go_wp2_with fail
      refine bodyPost_ret (results_cell_row rfl _ _ (w.heap.size + 2) 32 _ (0, 0) _ rfl (HZ9.out.set n (.slice xa n.kids.length c)) Tryd.underlying32 rfl (by kernel_rfl)) rfl ?_
      exact go_exit (by omega) HBU.out HL.out HA.out HV.out.symm
    | false =>
      obtain ⟨ra, cap, rfl, hra, hcap, hcm⟩ := hRest
      by_cases hkl : k < ks.length
      · have hra := hra hkl
        subst hra
        obtain ⟨m, hm⟩ : ∃ m, ks.length - k = m + 1 := ⟨ks.length - k - 1, by omega⟩
        have HRest := Lib.hid (show RestAt b o ks k (.slice (some ⟨b, o + k * 6, none⟩) (ks.length - k) cap) from ⟨_, _, rfl, fun _ => rfl, hcap, hcm⟩)
        rw [hm] at hRV hcap HRest
        obtain ⟨f, rfl⟩ : ∃ g, f = g + 1 := ⟨f - 1, by omega⟩
        rw [pGo_s env ks f k y n hkl] at val
        have hrow := HRow.out.resolve_left (by simp)
        rw [rowOk_at ks k true hkl, rowOk_f] at hrow
        obtain ⟨x, d, hc', hl', hbl⟩ := HG.out.at_ hkl
        have hc := hc'.below HHW.out
        have hl := hl'.lies.keep HHW.out
        have htx := HG.out.text k hkl
        have hlow := hl'
        clear hc' hl'
        generalize ks[k] = kk at *
        obtain ⟨p, hp⟩ : ∃ p, fixOf env kk = p := ⟨_, rfl⟩
        rw [hp] at val
        have F1 := Lib.hid fun kv w hE hl hT => fixOf_any env be kk kv w htx hE hl hT
        rw [hp] at F1
        have HRow2 := Lib.hid hrow
        have HV := Lib.hid val
        have HLow := Lib.hid hlow
        have HRV := Lib.hid hRV
        have HC := Lib.hid hc
        have HKL := Lib.hid hl
        have HM := Lib.hid hm
        have T1 := Lib.hid fun w h hc => take_any W0.heap.size be b o ks k (.slice (some ⟨b, o + k * 6, none⟩) (m + 1) cap) false kk x d w hkl HRest.out h hc
        have v1 := hRV.c1
        have v2 := hRV.c2
        clear hp htx hrow val hlow hRV hc hl hm
        have s0 := fun w' (h : RV w' W0.heap.size be (.slice (some ⟨b, o + k * 6, none⟩) (m + 1) cap) false) => h.c0
        have s1 := fun w' (h : RV w' W0.heap.size be (.slice (some ⟨b, o + k * 6, none⟩) (m + 1) cap) false) => h.c1
        have t0 := fun w' (h : Cells6 w' b (o + k * 6) kk (.slice x kk.kids.length d)) => h.c0
        have t1 := fun w' (h : Cells6 w' b (o + k * 6) kk (.slice x kk.kids.length d)) => h.c1
        have t2 := fun w' (h : Cells6 w' b (o + k * 6) kk (.slice x kk.kids.length d)) => h.c2
        have t3 := fun w' (h : Cells6 w' b (o + k * 6) kk (.slice x kk.kids.length d)) => h.c3
        have t4 := fun w' (h : Cells6 w' b (o + k * 6) kk (.slice x kk.kids.length d)) => h.c4
        have t5 := fun w' (h : Cells6 w' b (o + k * 6) kk (.slice x kk.kids.length d)) => h.c5
        have HS0 := Lib.hid (show RV wr.drew W0.heap.size be (.slice (some ⟨b, o + k * 6, none⟩) (m + 1) cap) false ∧ Cells6 wr.drew b (o + k * 6) kk (.slice x kk.kids.length d) from ⟨HRV.out, HC.out.below ((Below.refl _ _).drew)⟩)
        have HE := Lib.hid (show EnvAt wr.drew be env from HG.out.env.below HHW.out.drew)
        have HTT := Lib.hid (show Tabs16 wr.drew from HG.out.tabs.below HHW.out.drew)
        have HKD := Lib.hid (show Lies wr.drew kk (.slice x kk.kids.length d) from HKL.out.keep (Below.refl _ _).drew)
        have HSA := Lib.hid (show RV (wr.alloc (.cells #[.string ⟨#[]⟩, .int .i64 0, .int .i64 0] 25)).drew W0.heap.size be (.slice (some ⟨b, o + k * 6, none⟩) (m + 1) cap) false ∧ Cells6 (wr.alloc (.cells #[.string ⟨#[]⟩, .int .i64 0, .int .i64 0] 25)).drew b (o + k * 6) kk (.slice x kk.kids.length d) from ⟨HRV.out.alloc _, (HC.out.alloc _).below (Below.refl _ _).drew⟩)
        have hst9 : W0.heap.size ≤ wr.heap.size := by omega
        have hBA := ((Below.refl wr.heap.size wr).alloc (Nat.le_refl _) (.cells #[.string ⟨#[]⟩, .int .i64 0, .int .i64 0] 25)).drew
        have HEA := Lib.hid (show EnvAt (wr.alloc (.cells #[.string ⟨#[]⟩, .int .i64 0, .int .i64 0] 25)).drew be env from HG.out.env.below (HHW.out.alloc hst9 _).drew)
        have HTA := Lib.hid (show Tabs16 (wr.alloc (.cells #[.string ⟨#[]⟩, .int .i64 0, .int .i64 0] 25)).drew from HG.out.tabs.below (HHW.out.alloc hst9 _).drew)
        have HKA := Lib.hid (show Lies (wr.alloc (.cells #[.string ⟨#[]⟩, .int .i64 0, .int .i64 0] 25)).drew kk (.slice x kk.kids.length d) from HKL.out.keep hBA)
        have HXA := Lib.hid (show RowX (wr.alloc (.cells #[.string ⟨#[]⟩, .int .i64 0, .int .i64 0] 25)).drew wr.heap.size zeroX from rowX_new wr zeroX)
        have HBA := Lib.hid hBA
        clear hBA
        go_upto_region 2 with fail
        go_cut [7] (fun s7 wx => ∃ g : Nat, s7 = .pointer (some ⟨g, 0, none⟩) ∧ wr.heap.size ≤ g ∧ RowX wx g p ∧ Below wr.heap.size wr wx)
        case first =>
          go_region_held3 (fun w' => RV w' W0.heap.size be (.slice (some ⟨b, o + k * 6, none⟩) (m + 1) cap) false ∧ Cells6 w' b (o + k * 6) kk (.slice x kk.kids.length d))
            (first
              | with_reducible exact HS3.out
              | with_reducible exact HS0.out
              | with_reducible exact HSA.out
              | with_reducible exact HS4.out
              | exact HS5.out)
            (first
              | (go_at_call 35; refine (F1.out _ _ HE.out HKD.out HTT.out).mono ?_; rintro e w3 ⟨rfl, hb3⟩; have HS3 := Lib.hid (show RV w3 W0.heap.size be (.slice (some ⟨b, o + k * 6, none⟩) (m + 1) cap) false ∧ Cells6 w3 b (o + k * 6) kk (.slice x kk.kids.length d) from ⟨HS0.out.1.below hb3, HS0.out.2.below hb3⟩); have HS4 := Lib.hid (show RV (w3.alloc (.cells #[.string ⟨#[]⟩, .int .i64 0, .int .i64 0] 25)) W0.heap.size be (.slice (some ⟨b, o + k * 6, none⟩) (m + 1) cap) false ∧ Cells6 (w3.alloc (.cells #[.string ⟨#[]⟩, .int .i64 0, .int .i64 0] 25)) b (o + k * 6) kk (.slice x kk.kids.length d) from ⟨HS3.out.1.alloc _, HS3.out.2.alloc _⟩); have HS5 := Lib.hid (show RV (w3.alloc (.cells #[.string p.op, .int .i64 p.side, .int .i64 p.prec] 25)) W0.heap.size be (.slice (some ⟨b, o + k * 6, none⟩) (m + 1) cap) false ∧ Cells6 (w3.alloc (.cells #[.string p.op, .int .i64 p.side, .int .i64 p.prec] 25)) b (o + k * 6) kk (.slice x kk.kids.length d) from ⟨HS3.out.1.alloc _, HS3.out.2.alloc _⟩); have HM1 := Lib.hid (show ∃ g : Nat, Value.pointer (some ⟨w3.heap.size, 0, none⟩) = .pointer (some ⟨g, 0, none⟩) ∧ wr.heap.size ≤ g ∧ RowX (w3.alloc (.cells #[.string p.op, .int .i64 p.side, .int .i64 p.prec] 25)) g p ∧ Below wr.heap.size wr (w3.alloc (.cells #[.string p.op, .int .i64 p.side, .int .i64 p.prec] 25)) from ⟨_, rfl, hb3.size, rowX_new _ _, (Below.then (Below.refl _ wr).drew hb3).alloc hb3.size _⟩); unfold fxV)
              | (go_at_call 35; refine (F1.out _ _ HEA.out HKA.out HTA.out).mono ?_; rintro e w3 ⟨rfl, hb3⟩; have HS3 := Lib.hid (show RV w3 W0.heap.size be (.slice (some ⟨b, o + k * 6, none⟩) (m + 1) cap) false ∧ Cells6 w3 b (o + k * 6) kk (.slice x kk.kids.length d) from ⟨HSA.out.1.below hb3, HSA.out.2.below hb3⟩); have HX3 := Lib.hid (show RowX w3 wr.heap.size zeroX from HXA.out.below hb3); have HS5 := Lib.hid (show RV (set3 w3 wr.heap.size p) W0.heap.size be (.slice (some ⟨b, o + k * 6, none⟩) (m + 1) cap) false ∧ Cells6 (set3 w3 wr.heap.size p) b (o + k * 6) kk (.slice x kk.kids.length d) from ⟨(set3_other _ _ _ _ (by omega)).trans HS3.out.1, HS3.out.2.same (set3_other _ _ _ _ (by omega))⟩); have HM1 := Lib.hid (show ∃ g : Nat, Value.pointer (some ⟨wr.heap.size, 0, none⟩) = .pointer (some ⟨g, 0, none⟩) ∧ wr.heap.size ≤ g ∧ RowX (set3 w3 wr.heap.size p) g p ∧ Below wr.heap.size wr (set3 w3 wr.heap.size p) from ⟨_, rfl, Nat.le_refl _, HX3.out.set p, set3_below (Below.then HBA.out hb3) _ (Nat.le_refl _) _⟩); obtain ⟨e0, e1, e2⟩ := HX3.out.cells; have z := HX3.out.frozen; unfold fxV))
          all_goals
            go_wp2_with fail
            go_meet
            exact HM1.out
        case rest =>
          obtain ⟨g, rfl, hg, hxp, hb4⟩ := hcut
          have HP := Lib.hid hxp
          have hgl := hxp.lt
          have hsz4 := hb4.size
          have HBU4 := Lib.hid (HBU.out.trans (But.of hb4))
          have HX4 := Lib.hid (HX.out.below hb4)
          have HN4 := Lib.hid (HN.out.keep (hb4.block (w.heap.size + 1) (by omega)))
          have HZ4 := Lib.hid (HZ.out.keep (hb4.block (w.heap.size + 2) (by omega)))
          have HL4 := Lib.hid (HL.out.keep (fun j hj _ => hb4.block j hj))
          have HV4 := Lib.hid (HRV.out.below hb4)
          have HC4 := Lib.hid (HC.out.below hb4)
          have HW4 := Lib.hid (HBU4.out.toBelow HW.out)
          have HLK := Lib.hid (HLow.out.keep (fun j _ hP => HW4.out.block j hP.1))
          have HA4 := Lib.hid (show At wc W0.heap.size be b o ks k false from ⟨_, HRest.out, HV4.out⟩)
          obtain ⟨p0, p1, p2⟩ := hxp.cells
          obtain ⟨x0, x1, x2⟩ := HX4.out.cells
          clear hxp hb4 v1 v2 s0 s1 t0 t1 t2 t3 t4 t5 HS0 HSA HEA HTA HKA HXA HBA HE HTT HKD HKL F1 HRV HC HX HN HZ HL HLow
          rcases go_case y p (A := R = (n, k, true)) (B := R = (n, k, false)) (C := R = pGo env ks f y (nodeOf 20 [n, kk, (pBegin env ks f p (k + 1)).1]) (pBegin env ks f p (k + 1)).2.1 (pBegin env ks f p (k + 1)).2.2) (fun h => by rw [← HV.out, if_pos h]) (fun h h2 => by rw [← HV.out, if_neg h, if_pos h2]) (fun h h2 => by rw [← HV.out, if_neg h, if_neg h2]) with ⟨hR, c1, hq⟩ | ⟨hR, hq⟩ | ⟨hR, hq⟩
          · have HR := Lib.hid hR
            clear hR
            have v2 := HV4.out.c2
            have zv := HV4.out.frozen
            rcases hq with c2 | ⟨c2, c3⟩
            all_goals
              have hN9 := (HN4.out.keep (Below.heap_setCell wc ⟨W0.heap.size, 2, none⟩ (.bool true) (w.heap.size + 1) (by simp only; omega)))
              obtain ⟨d0, d1, d2, d3, d4, d5⟩ := hN9.cells
              have HZ9 := Lib.hid (HZ4.out.keep (Below.heap_setCell wc ⟨W0.heap.size, 2, none⟩ (.bool true) (w.heap.size + 2) (by simp only; omega)))
              obtain ⟨e0, e1, e2, e3, e4, e5⟩ := HZ9.out.cells
              have z9 := HZ9.out.frozen
              clear hN9
              go_wp2_with fail
              refine bodyPost_ret (results_cell_row rfl _ _ (w.heap.size + 2) 32 _ (0, 0) _ rfl (HZ9.out.set n (.slice xa n.kids.length c)) Tryd.underlying32 rfl (by kernel_rfl)) rfl ?_
              exact go_exit (by omega) (HBU4.out.set 2 (.bool true)) (HL4.out.keep (fun j _ hP => Below.heap_setCell wc ⟨W0.heap.size, 2, none⟩ (.bool true) j (by have h : ((j < W0.heap.size ∧ j ≠ X) ∨ B ≤ j) ∧ j ≠ w.heap.size + 1 ∧ j ≠ w.heap.size + 2 := hP; simp only; omega))) ⟨_, HRest.out, HV4.out.set2 true⟩ HR.out
          · have HR := Lib.hid hR
            clear hR
            rcases hq with ⟨c1, c2, c3, c4, c5⟩ | ⟨c1, c2⟩
            all_goals
              have hN9 := HN4.out
              obtain ⟨d0, d1, d2, d3, d4, d5⟩ := hN9.cells
              have HZ9 := Lib.hid HZ4.out
              obtain ⟨e0, e1, e2, e3, e4, e5⟩ := HZ9.out.cells
              have z9 := HZ9.out.frozen
              clear hN9
              go_wp2_with fail
              refine bodyPost_ret (results_cell_row rfl _ _ (w.heap.size + 2) 32 _ (0, 0) _ rfl (HZ9.out.set n (.slice xa n.kids.length c)) Tryd.underlying32 rfl (by kernel_rfl)) rfl ?_
              exact go_exit (by omega) HBU4.out HL4.out HA4.out HR.out
          · obtain ⟨Q, hQ⟩ : ∃ Q, pBegin env ks f p (k + 1) = Q := ⟨_, rfl⟩
            rw [hQ] at hR
            have HR := Lib.hid hR
            have hro : rowOk true (ks.drop (k + 1)) = true := by
              have h := HRow2.out
              split at h
              · exact h
              · cases h
            have hk1 : k + 1 < ks.length := by
              by_cases hh : k + 1 < ks.length
              · exact hh
              · rw [List.drop_eq_nil_of_le (by omega)] at hro; simp [rowOk] at hro
            have hfin := (p_fine env ks f).1 p (k + 1) (by omega) hro
            rw [hQ] at hfin
            have HF := Lib.hid hfin
            have B1 := Lib.hid fun w' hb hA => HBE.out f (by omega) p (k + 1) w' hk1 hro (by omega) hb hA
            rw [hQ] at B1
            clear hR hQ hro hfin
            rcases hq with ⟨c1, c2, c3, c4, c5⟩ | ⟨c1, c2⟩
            all_goals
              go_wp2_with fail
              refine (T1.out _ HV4.out HC4.out).mono ?_
              rintro e w5 ⟨rfl, hb5, sv5, hR5, hV5⟩
              have hsz5 := hb5.size
              have HBU6 := Lib.hid ((HBU4.out.trans hb5).alloc (.cells #[.int .i64 kk.kind, .int .i64 kk.form, .string kk.text, .int .i64 kk.line, .int .i64 kk.col, .slice x kk.kids.length d] 32))
              have HW6 := Lib.hid (HBU6.out.toBelow HW.out)
              have HP6 := Lib.hid ((HP.out.keep (hb5.block g hgl (by omega))).alloc (.cells #[.int .i64 kk.kind, .int .i64 kk.form, .string kk.text, .int .i64 kk.line, .int .i64 kk.col, .slice x kk.kids.length d] 32))
              have HX6 := Lib.hid ((HX4.out.keep (hb5.block w.heap.size (by omega) (by omega))).alloc (.cells #[.int .i64 kk.kind, .int .i64 kk.form, .string kk.text, .int .i64 kk.line, .int .i64 kk.col, .slice x kk.kids.length d] 32))
              have HN6 := Lib.hid ((HN4.out.keep (hb5.block (w.heap.size + 1) (by omega) (by omega))).alloc (.cells #[.int .i64 kk.kind, .int .i64 kk.form, .string kk.text, .int .i64 kk.line, .int .i64 kk.col, .slice x kk.kids.length d] 32))
              have HZ6 := Lib.hid ((HZ4.out.keep (hb5.block (w.heap.size + 2) (by omega) (by omega))).alloc (.cells #[.int .i64 kk.kind, .int .i64 kk.form, .string kk.text, .int .i64 kk.line, .int .i64 kk.col, .slice x kk.kids.length d] 32))
              have HL5 := HL4.out.keep (fun j hj hP => hb5.block j hj (by have h : ((j < W0.heap.size ∧ j ≠ X) ∨ B ≤ j) ∧ j ≠ w.heap.size + 1 ∧ j ≠ w.heap.size + 2 := hP; omega))
              have HL6 := Lib.hid (HL5.keep (fun j hj _ => Below.heap_alloc w5 (.cells #[.int .i64 kk.kind, .int .i64 kk.form, .string kk.text, .int .i64 kk.line, .int .i64 kk.col, .slice x kk.kids.length d] 32) j hj))
              have HA6 := Lib.hid (show At (w5.alloc (.cells #[.int .i64 kk.kind, .int .i64 kk.form, .string kk.text, .int .i64 kk.line, .int .i64 kk.col, .slice x kk.kids.length d] 32)) W0.heap.size be b o ks (k + 1) false from ⟨sv5, hR5, hV5.alloc _⟩)
              have HM6 := Lib.hid (rowN_new w5 kk (.slice x kk.kids.length d))
              obtain ⟨d0, d1, d2, d3, d4, d5⟩ := HN6.out.cells
              clear hb5 hR5 hV5 HL5 p0 p1 p2 x0 x1 x2
              have hne1 : w5.heap.size ≠ w.heap.size + 1 := by omega
              have hne2 : g ≠ w.heap.size + 1 := by omega
              have hne3 : W0.heap.size ≠ w.heap.size + 1 := by omega
              unfold nodeV
              go_wp2_with fail
              have HS0 := Lib.hid (show RowN (w5.alloc (.cells #[.int .i64 kk.kind, .int .i64 kk.form, .string kk.text, .int .i64 kk.line, .int .i64 kk.col, .slice x kk.kids.length d] 32)).drew w5.heap.size kk (.slice x kk.kids.length d) ∧ RowX (w5.alloc (.cells #[.int .i64 kk.kind, .int .i64 kk.form, .string kk.text, .int .i64 kk.line, .int .i64 kk.col, .slice x kk.kids.length d] 32)).drew g p ∧ SomeAt (w5.alloc (.cells #[.int .i64 kk.kind, .int .i64 kk.form, .string kk.text, .int .i64 kk.line, .int .i64 kk.col, .slice x kk.kids.length d] 32)).drew W0.heap.size be b o ks from ⟨HM6.out, HP6.out, _, _, HA6.out⟩)
              have rn0 := fun w' (h : RowN w' w5.heap.size kk (.slice x kk.kids.length d)) => h.cells.1
              have rn1 := fun w' (h : RowN w' w5.heap.size kk (.slice x kk.kids.length d)) => h.cells.2.1
              have rn2 := fun w' (h : RowN w' w5.heap.size kk (.slice x kk.kids.length d)) => h.cells.2.2.1
              have rn3 := fun w' (h : RowN w' w5.heap.size kk (.slice x kk.kids.length d)) => h.cells.2.2.2.1
              have rn4 := fun w' (h : RowN w' w5.heap.size kk (.slice x kk.kids.length d)) => h.cells.2.2.2.2.1
              have rn5 := fun w' (h : RowN w' w5.heap.size kk (.slice x kk.kids.length d)) => h.cells.2.2.2.2.2
              have rx0 := fun w' (h : RowX w' g p) => h.cells.1
              have rx1 := fun w' (h : RowX w' g p) => h.cells.2.1
              have rx2 := fun w' (h : RowX w' g p) => h.cells.2.2
              have rv3 := fun w' (h : SomeAt w' W0.heap.size be b o ks) => (show w'.cell? ⟨W0.heap.size, 3, none⟩ = some (.func (.func 36) #[.pointer (some ⟨W0.heap.size, 0, none⟩)] #[]) from by obtain ⟨_, _, _, _, h⟩ := h; exact h.c3)
              refine wp_region_noPanic ?_
              refine wp_region_held_drew (S := (fun w' => RowN w' w5.heap.size kk (.slice x kk.kids.length d) ∧ RowX w' g p ∧ SomeAt w' W0.heap.size be b o ks)) (by kernel_rfl) HS0.out (fun hHeld => ?_)
              refine wpAnyH_take (i := 2) (v := ?_) rfl (by kernel_rfl) (by kernel_rfl) (by kernel_rfl) (fun _ _ _ h => h) (Or.inl ⟨by rfl, ?_⟩) (by assumption) ?_
              rotate_left
              · (intro w hSw; (try dsimp only at hSw); go_simp; try with_reducible rfl)
              (try simp only [Act.put, List.setIfInBounds_toArray, List.set_cons_zero, List.set_cons_succ])
              refine wpAnyH_take (i := 3) (v := ?_) rfl (by kernel_rfl) (by kernel_rfl) (by kernel_rfl) (fun _ _ _ h => h) (Or.inl ⟨by rfl, ?_⟩) (by assumption) ?_
              rotate_left
              · (intro w hSw; (try dsimp only at hSw); go_simp; try with_reducible rfl)
              (try simp only [Act.put, List.setIfInBounds_toArray, List.set_cons_zero, List.set_cons_succ])
              refine wpAnyH_take (i := 4) (v := ?_) rfl (by kernel_rfl) (by kernel_rfl) (by kernel_rfl) (fun _ _ _ h => h) (Or.inl ⟨by rfl, ?_⟩) (by assumption) ?_
              rotate_left
              · (intro w hSw; (try dsimp only at hSw); go_simp; try with_reducible rfl)
              (try simp only [Act.put, List.setIfInBounds_toArray, List.set_cons_zero, List.set_cons_succ])
              refine wpAnyH_take (i := 5) (v := ?_) rfl (by kernel_rfl) (by kernel_rfl) (by kernel_rfl) (fun _ _ _ h => h) (Or.inl ⟨by rfl, ?_⟩) (by assumption) ?_
              rotate_left
              · (intro w hSw; (try dsimp only at hSw); go_simp; try with_reducible rfl)
              (try simp only [Act.put, List.setIfInBounds_toArray, List.set_cons_zero, List.set_cons_succ])
              refine wpAnyH_take (i := 6) (v := ?_) rfl (by kernel_rfl) (by kernel_rfl) (by kernel_rfl) (fun _ _ _ h => h) (Or.inl ⟨by rfl, ?_⟩) (by assumption) ?_
              rotate_left
              · (intro w hSw; (try dsimp only at hSw); go_simp; try with_reducible rfl)
              (try simp only [Act.put, List.setIfInBounds_toArray, List.set_cons_zero, List.set_cons_succ])
              refine wpAnyH_take (i := 1) (v := ?_) rfl (by kernel_rfl) (by kernel_rfl) (by kernel_rfl) (fun _ _ _ h => h) (Or.inl ⟨by rfl, ?_⟩) (by assumption) ?_
              rotate_left
              · (intro w hSw; (try dsimp only at hSw); go_simp; try with_reducible rfl)
              (try simp only [Act.put, List.setIfInBounds_toArray, List.set_cons_zero, List.set_cons_succ])
              refine wpAnyH_ready (rs := [0, 7]) (by kernel_rfl) (by simp) ?_
              refine AllReadyH.cons rfl (fun K hK => ?_) (AllReadyH.cons rfl (fun K hK => ?_) AllReadyH.nil)
              · go_simp
                refine hK.out _ _ HS0.out (fun hHeld => ?_)
                clear hK K
                (try simp only [Act.put, List.setIfInBounds_toArray, List.set_cons_zero, List.set_cons_succ])
                refine wpAnyH_ready (rs := [7]) (by kernel_rfl) (by simp) ?_
                refine AllReadyH.cons rfl (fun K hK => ?_) AllReadyH.nil
                go_simp
                go_at_call 36
                (refine (B1.out _ HW6.out.drew HA6.out).mono ?_; rintro e w7 ⟨hb7, ⟨jv, rfl, hl7⟩, hA7⟩; obtain ⟨ja, jc, rfl⟩ := hl7.shape; have hsz7 : w5.heap.size + 1 ≤ w7.heap.size := (by have h := hb7.size; simp at h; omega); have HS7 := Lib.hid (show RowN w7 w5.heap.size kk (.slice x kk.kids.length d) ∧ RowX w7 g p ∧ SomeAt w7 W0.heap.size be b o ks from ⟨(hb7.block w5.heap.size (by simp) (by omega)).trans HM6.out, (hb7.block g (by simp; omega) (by omega)).trans HP6.out, _, _, hA7⟩); have HS8 := Lib.hid (show RowN (w7.alloc (.cells #[.int .i64 n.kind, .int .i64 n.form, .string n.text, .int .i64 n.line, .int .i64 n.col, .slice xa n.kids.length c, .int .i64 kk.kind, .int .i64 kk.form, .string kk.text, .int .i64 kk.line, .int .i64 kk.col, .slice x kk.kids.length d, .int .i64 Q.1.kind, .int .i64 Q.1.form, .string Q.1.text, .int .i64 Q.1.line, .int .i64 Q.1.col, .slice ja Q.1.kids.length jc] 32)) w5.heap.size kk (.slice x kk.kids.length d) ∧ RowX (w7.alloc (.cells #[.int .i64 n.kind, .int .i64 n.form, .string n.text, .int .i64 n.line, .int .i64 n.col, .slice xa n.kids.length c, .int .i64 kk.kind, .int .i64 kk.form, .string kk.text, .int .i64 kk.line, .int .i64 kk.col, .slice x kk.kids.length d, .int .i64 Q.1.kind, .int .i64 Q.1.form, .string Q.1.text, .int .i64 Q.1.line, .int .i64 Q.1.col, .slice ja Q.1.kids.length jc] 32)) g p ∧ SomeAt (w7.alloc (.cells #[.int .i64 n.kind, .int .i64 n.form, .string n.text, .int .i64 n.line, .int .i64 n.col, .slice xa n.kids.length c, .int .i64 kk.kind, .int .i64 kk.form, .string kk.text, .int .i64 kk.line, .int .i64 kk.col, .slice x kk.kids.length d, .int .i64 Q.1.kind, .int .i64 Q.1.form, .string Q.1.text, .int .i64 Q.1.line, .int .i64 Q.1.col, .slice ja Q.1.kids.length jc] 32)) W0.heap.size be b o ks from ⟨HS7.out.1.alloc _, HS7.out.2.1.alloc _, HS7.out.2.2.alloc _⟩); have HN7 := Lib.hid (show RowN w7 (w.heap.size + 1) n (.slice xa n.kids.length c) from (hb7.block (w.heap.size + 1) (by simp; omega) (by omega)).trans HN6.out); obtain ⟨e0, e1, e2, e3, e4, e5⟩ := HN7.out.cells; have z3 := fun o => (HN7.out.alloc o).frozen; have y0 := fun o => (HN7.out.alloc o).cells.1; have y1 := fun o => (HN7.out.alloc o).cells.2.1; have y2 := fun o => (HN7.out.alloc o).cells.2.2.1; have y3 := fun o => (HN7.out.alloc o).cells.2.2.2.1; have y4 := fun o => (HN7.out.alloc o).cells.2.2.2.2.1; have y5 := fun o => (HN7.out.alloc o).cells.2.2.2.2.2; unfold nodeV)
                try go_wp2_with fail
                refine hK.out _ _ HS7.out (fun hHeld => ?_)
                clear hK K
                (try simp only [Act.put, List.setIfInBounds_toArray, List.set_cons_zero, List.set_cons_succ])
                refine wpAnyH_ready (rs := [8]) (by kernel_rfl) (by simp) ?_
                refine AllReadyH.cons rfl (fun K hK => ?_) AllReadyH.nil
                go_simp
                refine hK.out _ _ HS8.out (fun hHeld => ?_)
                clear hK K
                (try simp only [Act.put, List.setIfInBounds_toArray, List.set_cons_zero, List.set_cons_succ])
                refine wpAnyH_take (i := 9) (v := ?_) rfl (by kernel_rfl) (by kernel_rfl) (by kernel_rfl) (fun _ _ _ h => h) (Or.inl ⟨by rfl, ?_⟩) (by assumption) ?_
                rotate_left
                · (intro w hSw; (try dsimp only at hSw); go_simp; try with_reducible rfl)
                (try simp only [Act.put, List.setIfInBounds_toArray, List.set_cons_zero, List.set_cons_succ])
                refine wpAnyH_ready (rs := [10]) (by kernel_rfl) (by simp) ?_
                refine AllReadyH.cons rfl (fun K hK => ?_) AllReadyH.nil
                go_simp
                refine hK.out _ _ ⟨HS8.out.1.keep (other6 _ _ _ _ _ _ _ _ _ hne1), HS8.out.2.1.keep (other6 _ _ _ _ _ _ _ _ _ hne2), HS8.out.2.2.keep (other6 _ _ _ _ _ _ _ _ _ hne3)⟩ (fun hHeld => ?_)
                clear hK K
                (try simp only [Act.put, List.setIfInBounds_toArray, List.set_cons_zero, List.set_cons_succ])
                refine wpAnyH_done (by kernel_rfl) ?_ _
                refine NoPanic.normal ?_
                have hW7 := hb7.toBelow HW6.out.drew
                have hm7 : LiesP (fun g => ((g < W0.heap.size ∧ g ≠ X) ∨ B ≤ g) ∧ g ≠ w.heap.size + 1 ∧ g ≠ w.heap.size + 2) w7 Q.1 (.slice ja Q.1.kids.length jc) := hl7.mono (fun j _ hP => by have h : (j < W0.heap.size ∧ j ≠ X) ∨ (w5.alloc (.cells #[.int .i64 kk.kind, .int .i64 kk.form, .string kk.text, .int .i64 kk.line, .int .i64 kk.col, .slice x kk.kids.length d] 32)).drew.heap.size ≤ j := hP; simp at h; omega)
                have hk7 : LiesP (fun g => ((g < W0.heap.size ∧ g ≠ X) ∨ B ≤ g) ∧ g ≠ w.heap.size + 1 ∧ g ≠ w.heap.size + 2) w7 kk (.slice x kk.kids.length d) := (HLK.out.keep (fun j _ hP => (hW7.block j hP.1).trans (HW4.out.block j hP.1).symm)).mono (fun j _ hP => by have h : j < W0.heap.size ∧ j ≠ X := hP; omega)
                have hn7 : LiesP (fun g => ((g < W0.heap.size ∧ g ≠ X) ∨ B ≤ g) ∧ g ≠ w.heap.size + 1 ∧ g ≠ w.heap.size + 2) w7 n (.slice xa n.kids.length c) := HL6.out.keep (fun j hj hP => hb7.block j hj (by have h : ((j < W0.heap.size ∧ j ≠ X) ∨ B ≤ j) ∧ j ≠ w.heap.size + 1 ∧ j ≠ w.heap.size + 2 := hP; omega))
                have h3 := three_lies 32 20 hn7 hk7 hm7 ⟨.inr (by omega), by omega, by omega⟩
                obtain ⟨wN, hwN, hR9, ho9, hz9, ho1, ho2, ho3⟩ := store_node (HN7.out.alloc (.cells #[.int .i64 n.kind, .int .i64 n.form, .string n.text, .int .i64 n.line, .int .i64 n.col, .slice xa n.kids.length c, .int .i64 kk.kind, .int .i64 kk.form, .string kk.text, .int .i64 kk.line, .int .i64 kk.col, .slice x kk.kids.length d, .int .i64 Q.1.kind, .int .i64 Q.1.form, .string Q.1.text, .int .i64 Q.1.line, .int .i64 Q.1.col, .slice ja Q.1.kids.length jc] 32)) 20 0 0 0 ⟨#[]⟩ (.slice (some ⟨w7.heap.size, 0, none⟩) 3 3)
                have HGo := Lib.hid (show GoRel W0 X be b o ks env y B w F R (ks.length - Q.2.1) wN from ⟨_, _, _, _, f, rfl, ((((HBU6.out.drewN 1).trans hb7).alloc (.cells #[.int .i64 n.kind, .int .i64 n.form, .string n.text, .int .i64 n.line, .int .i64 n.col, .slice xa n.kids.length c, .int .i64 kk.kind, .int .i64 kk.form, .string kk.text, .int .i64 kk.line, .int .i64 kk.col, .slice x kk.kids.length d, .int .i64 Q.1.kind, .int .i64 Q.1.form, .string Q.1.text, .int .i64 Q.1.line, .int .i64 Q.1.col, .slice ja Q.1.kids.length jc] 32)).fresh (g := w.heap.size + 1) (by omega) ho9 hz9 ho1 ho2 ho3), by rw [hz9]; simp; omega,
                  ((show RowX w7 w.heap.size y from (hb7.block w.heap.size (by simp; omega) (by omega)).trans HX6.out).alloc (.cells #[.int .i64 n.kind, .int .i64 n.form, .string n.text, .int .i64 n.line, .int .i64 n.col, .slice xa n.kids.length c, .int .i64 kk.kind, .int .i64 kk.form, .string kk.text, .int .i64 kk.line, .int .i64 kk.col, .slice x kk.kids.length d, .int .i64 Q.1.kind, .int .i64 Q.1.form, .string Q.1.text, .int .i64 Q.1.line, .int .i64 Q.1.col, .slice ja Q.1.kids.length jc] 32)).keep (ho9 _ (by omega)), hR9 (nodeOf 20 [n, kk, Q.1]) rfl rfl rfl rfl rfl,
                  ((show RowN w7 (w.heap.size + 2) zeroT (.slice none 0 0) from (hb7.block (w.heap.size + 2) (by simp; omega) (by omega)).trans HZ6.out).alloc (.cells #[.int .i64 n.kind, .int .i64 n.form, .string n.text, .int .i64 n.line, .int .i64 n.col, .slice xa n.kids.length c, .int .i64 kk.kind, .int .i64 kk.form, .string kk.text, .int .i64 kk.line, .int .i64 kk.col, .slice x kk.kids.length d, .int .i64 Q.1.kind, .int .i64 Q.1.form, .string Q.1.text, .int .i64 Q.1.line, .int .i64 Q.1.col, .slice ja Q.1.kids.length jc] 32)).keep (ho9 _ (by omega)),
                  h3.keep (fun j _ hP => ho9 j (by have h : ((j < W0.heap.size ∧ j ≠ X) ∨ B ≤ j) ∧ j ≠ w.heap.size + 1 ∧ j ≠ w.heap.size + 2 := hP; omega)), (hA7.alloc (.cells #[.int .i64 n.kind, .int .i64 n.form, .string n.text, .int .i64 n.line, .int .i64 n.col, .slice xa n.kids.length c, .int .i64 kk.kind, .int .i64 kk.form, .string kk.text, .int .i64 kk.line, .int .i64 kk.col, .slice x kk.kids.length d, .int .i64 Q.1.kind, .int .i64 Q.1.form, .string Q.1.text, .int .i64 Q.1.line, .int .i64 Q.1.col, .slice ja Q.1.kids.length jc] 32)).keep (ho9 _ (by omega)), HF.out.2.1, HF.out.2.2, by have := HF.out.1; omega, by omega, HR.out.symm⟩)
                rw [hwN]
                have hq1 := HF.out.1
                have hgk := HGK.out
                have hms : ks.length - Q.2.1 < gk := by omega
                clear h3 hn7 hk7 hm7 hwN hR9 ho9 hz9 ho1 ho2 ho3 hl7 hA7 hb7 d0 d1 d2 d3 d4 d5 e0 e1 e2 e3 e4 e5 y0 y1 y2 y3 y4 y5 z3 rn0 rn1 rn2 rn3 rn4 rn5 rx0 rx1 rx2 rv3 hgk
                go_wp2_with fail
                go_roundg (ks.length - Q.2.1)
                case measure => exact hms
                case rel => exact HGo.out
              · go_simp
                go_at_call 36
                (refine (B1.out _ HW6.out.drew HA6.out).mono ?_; rintro e w7 ⟨hb7, ⟨jv, rfl, hl7⟩, hA7⟩; obtain ⟨ja, jc, rfl⟩ := hl7.shape; have hsz7 : w5.heap.size + 1 ≤ w7.heap.size := (by have h := hb7.size; simp at h; omega); have HS7 := Lib.hid (show RowN w7 w5.heap.size kk (.slice x kk.kids.length d) ∧ RowX w7 g p ∧ SomeAt w7 W0.heap.size be b o ks from ⟨(hb7.block w5.heap.size (by simp) (by omega)).trans HM6.out, (hb7.block g (by simp; omega) (by omega)).trans HP6.out, _, _, hA7⟩); have HS8 := Lib.hid (show RowN (w7.alloc (.cells #[.int .i64 n.kind, .int .i64 n.form, .string n.text, .int .i64 n.line, .int .i64 n.col, .slice xa n.kids.length c, .int .i64 kk.kind, .int .i64 kk.form, .string kk.text, .int .i64 kk.line, .int .i64 kk.col, .slice x kk.kids.length d, .int .i64 Q.1.kind, .int .i64 Q.1.form, .string Q.1.text, .int .i64 Q.1.line, .int .i64 Q.1.col, .slice ja Q.1.kids.length jc] 32)) w5.heap.size kk (.slice x kk.kids.length d) ∧ RowX (w7.alloc (.cells #[.int .i64 n.kind, .int .i64 n.form, .string n.text, .int .i64 n.line, .int .i64 n.col, .slice xa n.kids.length c, .int .i64 kk.kind, .int .i64 kk.form, .string kk.text, .int .i64 kk.line, .int .i64 kk.col, .slice x kk.kids.length d, .int .i64 Q.1.kind, .int .i64 Q.1.form, .string Q.1.text, .int .i64 Q.1.line, .int .i64 Q.1.col, .slice ja Q.1.kids.length jc] 32)) g p ∧ SomeAt (w7.alloc (.cells #[.int .i64 n.kind, .int .i64 n.form, .string n.text, .int .i64 n.line, .int .i64 n.col, .slice xa n.kids.length c, .int .i64 kk.kind, .int .i64 kk.form, .string kk.text, .int .i64 kk.line, .int .i64 kk.col, .slice x kk.kids.length d, .int .i64 Q.1.kind, .int .i64 Q.1.form, .string Q.1.text, .int .i64 Q.1.line, .int .i64 Q.1.col, .slice ja Q.1.kids.length jc] 32)) W0.heap.size be b o ks from ⟨HS7.out.1.alloc _, HS7.out.2.1.alloc _, HS7.out.2.2.alloc _⟩); have HN7 := Lib.hid (show RowN w7 (w.heap.size + 1) n (.slice xa n.kids.length c) from (hb7.block (w.heap.size + 1) (by simp; omega) (by omega)).trans HN6.out); obtain ⟨e0, e1, e2, e3, e4, e5⟩ := HN7.out.cells; have z3 := fun o => (HN7.out.alloc o).frozen; have y0 := fun o => (HN7.out.alloc o).cells.1; have y1 := fun o => (HN7.out.alloc o).cells.2.1; have y2 := fun o => (HN7.out.alloc o).cells.2.2.1; have y3 := fun o => (HN7.out.alloc o).cells.2.2.2.1; have y4 := fun o => (HN7.out.alloc o).cells.2.2.2.2.1; have y5 := fun o => (HN7.out.alloc o).cells.2.2.2.2.2; unfold nodeV)
                try go_wp2_with fail
                refine hK.out _ _ HS7.out (fun hHeld => ?_)
                clear hK K
                (try simp only [Act.put, List.setIfInBounds_toArray, List.set_cons_zero, List.set_cons_succ])
                refine wpAnyH_ready (rs := [0]) (by kernel_rfl) (by simp) ?_
                refine AllReadyH.cons rfl (fun K hK => ?_) AllReadyH.nil
                go_simp
                refine hK.out _ _ HS7.out (fun hHeld => ?_)
                clear hK K
                (try simp only [Act.put, List.setIfInBounds_toArray, List.set_cons_zero, List.set_cons_succ])
                refine wpAnyH_ready (rs := [8]) (by kernel_rfl) (by simp) ?_
                refine AllReadyH.cons rfl (fun K hK => ?_) AllReadyH.nil
                go_simp
                refine hK.out _ _ HS8.out (fun hHeld => ?_)
                clear hK K
                (try simp only [Act.put, List.setIfInBounds_toArray, List.set_cons_zero, List.set_cons_succ])
                refine wpAnyH_take (i := 9) (v := ?_) rfl (by kernel_rfl) (by kernel_rfl) (by kernel_rfl) (fun _ _ _ h => h) (Or.inl ⟨by rfl, ?_⟩) (by assumption) ?_
                rotate_left
                · (intro w hSw; (try dsimp only at hSw); go_simp; try with_reducible rfl)
                (try simp only [Act.put, List.setIfInBounds_toArray, List.set_cons_zero, List.set_cons_succ])
                refine wpAnyH_ready (rs := [10]) (by kernel_rfl) (by simp) ?_
                refine AllReadyH.cons rfl (fun K hK => ?_) AllReadyH.nil
                go_simp
                refine hK.out _ _ ⟨HS8.out.1.keep (other6 _ _ _ _ _ _ _ _ _ hne1), HS8.out.2.1.keep (other6 _ _ _ _ _ _ _ _ _ hne2), HS8.out.2.2.keep (other6 _ _ _ _ _ _ _ _ _ hne3)⟩ (fun hHeld => ?_)
                clear hK K
                (try simp only [Act.put, List.setIfInBounds_toArray, List.set_cons_zero, List.set_cons_succ])
                refine wpAnyH_done (by kernel_rfl) ?_ _
                refine NoPanic.normal ?_
                have hW7 := hb7.toBelow HW6.out.drew
                have hm7 : LiesP (fun g => ((g < W0.heap.size ∧ g ≠ X) ∨ B ≤ g) ∧ g ≠ w.heap.size + 1 ∧ g ≠ w.heap.size + 2) w7 Q.1 (.slice ja Q.1.kids.length jc) := hl7.mono (fun j _ hP => by have h : (j < W0.heap.size ∧ j ≠ X) ∨ (w5.alloc (.cells #[.int .i64 kk.kind, .int .i64 kk.form, .string kk.text, .int .i64 kk.line, .int .i64 kk.col, .slice x kk.kids.length d] 32)).drew.heap.size ≤ j := hP; simp at h; omega)
                have hk7 : LiesP (fun g => ((g < W0.heap.size ∧ g ≠ X) ∨ B ≤ g) ∧ g ≠ w.heap.size + 1 ∧ g ≠ w.heap.size + 2) w7 kk (.slice x kk.kids.length d) := (HLK.out.keep (fun j _ hP => (hW7.block j hP.1).trans (HW4.out.block j hP.1).symm)).mono (fun j _ hP => by have h : j < W0.heap.size ∧ j ≠ X := hP; omega)
                have hn7 : LiesP (fun g => ((g < W0.heap.size ∧ g ≠ X) ∨ B ≤ g) ∧ g ≠ w.heap.size + 1 ∧ g ≠ w.heap.size + 2) w7 n (.slice xa n.kids.length c) := HL6.out.keep (fun j hj hP => hb7.block j hj (by have h : ((j < W0.heap.size ∧ j ≠ X) ∨ B ≤ j) ∧ j ≠ w.heap.size + 1 ∧ j ≠ w.heap.size + 2 := hP; omega))
                have h3 := three_lies 32 20 hn7 hk7 hm7 ⟨.inr (by omega), by omega, by omega⟩
                obtain ⟨wN, hwN, hR9, ho9, hz9, ho1, ho2, ho3⟩ := store_node (HN7.out.alloc (.cells #[.int .i64 n.kind, .int .i64 n.form, .string n.text, .int .i64 n.line, .int .i64 n.col, .slice xa n.kids.length c, .int .i64 kk.kind, .int .i64 kk.form, .string kk.text, .int .i64 kk.line, .int .i64 kk.col, .slice x kk.kids.length d, .int .i64 Q.1.kind, .int .i64 Q.1.form, .string Q.1.text, .int .i64 Q.1.line, .int .i64 Q.1.col, .slice ja Q.1.kids.length jc] 32)) 20 0 0 0 ⟨#[]⟩ (.slice (some ⟨w7.heap.size, 0, none⟩) 3 3)
                have HGo := Lib.hid (show GoRel W0 X be b o ks env y B w F R (ks.length - Q.2.1) wN from ⟨_, _, _, _, f, rfl, ((((HBU6.out.drewN 1).trans hb7).alloc (.cells #[.int .i64 n.kind, .int .i64 n.form, .string n.text, .int .i64 n.line, .int .i64 n.col, .slice xa n.kids.length c, .int .i64 kk.kind, .int .i64 kk.form, .string kk.text, .int .i64 kk.line, .int .i64 kk.col, .slice x kk.kids.length d, .int .i64 Q.1.kind, .int .i64 Q.1.form, .string Q.1.text, .int .i64 Q.1.line, .int .i64 Q.1.col, .slice ja Q.1.kids.length jc] 32)).fresh (g := w.heap.size + 1) (by omega) ho9 hz9 ho1 ho2 ho3), by rw [hz9]; simp; omega,
                  ((show RowX w7 w.heap.size y from (hb7.block w.heap.size (by simp; omega) (by omega)).trans HX6.out).alloc (.cells #[.int .i64 n.kind, .int .i64 n.form, .string n.text, .int .i64 n.line, .int .i64 n.col, .slice xa n.kids.length c, .int .i64 kk.kind, .int .i64 kk.form, .string kk.text, .int .i64 kk.line, .int .i64 kk.col, .slice x kk.kids.length d, .int .i64 Q.1.kind, .int .i64 Q.1.form, .string Q.1.text, .int .i64 Q.1.line, .int .i64 Q.1.col, .slice ja Q.1.kids.length jc] 32)).keep (ho9 _ (by omega)), hR9 (nodeOf 20 [n, kk, Q.1]) rfl rfl rfl rfl rfl,
                  ((show RowN w7 (w.heap.size + 2) zeroT (.slice none 0 0) from (hb7.block (w.heap.size + 2) (by simp; omega) (by omega)).trans HZ6.out).alloc (.cells #[.int .i64 n.kind, .int .i64 n.form, .string n.text, .int .i64 n.line, .int .i64 n.col, .slice xa n.kids.length c, .int .i64 kk.kind, .int .i64 kk.form, .string kk.text, .int .i64 kk.line, .int .i64 kk.col, .slice x kk.kids.length d, .int .i64 Q.1.kind, .int .i64 Q.1.form, .string Q.1.text, .int .i64 Q.1.line, .int .i64 Q.1.col, .slice ja Q.1.kids.length jc] 32)).keep (ho9 _ (by omega)),
                  h3.keep (fun j _ hP => ho9 j (by have h : ((j < W0.heap.size ∧ j ≠ X) ∨ B ≤ j) ∧ j ≠ w.heap.size + 1 ∧ j ≠ w.heap.size + 2 := hP; omega)), (hA7.alloc (.cells #[.int .i64 n.kind, .int .i64 n.form, .string n.text, .int .i64 n.line, .int .i64 n.col, .slice xa n.kids.length c, .int .i64 kk.kind, .int .i64 kk.form, .string kk.text, .int .i64 kk.line, .int .i64 kk.col, .slice x kk.kids.length d, .int .i64 Q.1.kind, .int .i64 Q.1.form, .string Q.1.text, .int .i64 Q.1.line, .int .i64 Q.1.col, .slice ja Q.1.kids.length jc] 32)).keep (ho9 _ (by omega)), HF.out.2.1, HF.out.2.2, by have := HF.out.1; omega, by omega, HR.out.symm⟩)
                rw [hwN]
                have hq1 := HF.out.1
                have hgk := HGK.out
                have hms : ks.length - Q.2.1 < gk := by omega
                clear h3 hn7 hk7 hm7 hwN hR9 ho9 hz9 ho1 ho2 ho3 hl7 hA7 hb7 d0 d1 d2 d3 d4 d5 e0 e1 e2 e3 e4 e5 y0 y1 y2 y3 y4 y5 z3 rn0 rn1 rn2 rn3 rn4 rn5 rx0 rx1 rx2 rv3 hgk
                go_wp2_with fail
                go_roundg (ks.length - Q.2.1)
                case measure => exact hms
                case rel => exact HGo.out
      · have hl0 : ks.length - k = 0 := by omega
        rw [hl0] at hRV
        have v1 := hRV.c1
        have v2 := hRV.c2
        rw [pGo_e _ _ _ _ _ _ (by omega)] at val
        have HV := Lib.hid val
        clear val hRV hl0
        have hN9 := HN.out
        obtain ⟨d0, d1, d2, d3, d4, d5⟩ := hN9.cells
        have HZ9 := Lib.hid HZ.out
        obtain ⟨e0, e1, e2, e3, e4, e5⟩ := HZ9.out.cells
        have z9 := HZ9.out.frozen
        clear hN9
        go_wp2_with fail
        refine bodyPost_ret (results_cell_row rfl _ _ (w.heap.size + 2) 32 _ (0, 0) _ rfl (HZ9.out.set n (.slice xa n.kids.length c)) Tryd.underlying32 rfl (by kernel_rfl)) rfl ?_
        exact go_exit (by omega) HBU.out HL.out HA.out HV.out.symm
end Go.Proofs.YtikkdkacflkifaaDoor
