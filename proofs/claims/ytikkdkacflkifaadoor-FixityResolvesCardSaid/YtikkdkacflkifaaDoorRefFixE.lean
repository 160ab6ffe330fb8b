/- DERIVED. The walk of the document's first, given what first and then do further on. -/
import Derived.Test.YtikkdkacflkifaaDoorRefFixD
import Derived.Test.YtikkdkacflkifaaDoorFixG
import Derived.Test.YtikkdkacflkifaaDoorFixP
set_option linter.unusedSimpArgs false
set_option linter.unusedVariables false
namespace Go.Proofs.YtikkdkacflkifaaDoor
open Go.RowKit

theorem pBegin_op (env : List Fx) (ks : List Tr) (f : Nat) : (∀ (x y : Fx) (k : Nat), x.side = y.side → x.prec = y.prec → pBegin env ks f x k = pBegin env ks f y k) ∧
    (∀ (x y : Fx) (n : Tr) (k : Nat) (w : Bool), x.side = y.side → x.prec = y.prec → pGo env ks f x n k w = pGo env ks f y n k w) := by
  induction f with
  | zero => exact ⟨fun x y k _ _ => by rw [pBegin, pBegin], fun x y n k w _ _ => by rw [pGo, pGo]⟩
  | succ f ih =>
    refine ⟨fun x y k h1 h2 => ?_, fun x y n k w h1 h2 => ?_⟩
    · rw [pBegin, pBegin]
      cases ks[k]? with
      | none => rfl
      | some n => dsimp only; rw [ih.2 x y n _ _ h1 h2, ih.2 x y _ _ _ h1 h2, h2]
    · rw [pGo, pGo]
      cases ks[k]? with
      | none => rfl
      | some z => dsimp only; rw [ih.2 x y _ _ _ h1 h2, h1, h2]

/-- A part: a tree, what is left, and whether operators go together. -/
def partV (t : Tr) (kv lv : Value) (ok : Bool) : Value := .agg #[.int .i64 t.kind, .int .i64 t.form, .string t.text, .int .i64 t.line, .int .i64 t.col, kv, lv, .bool ok]
def RowP (w : World) (g : Nat) (t : Tr) (kv lv : Value) (ok : Bool) : Prop := w.heap[g]? = some (.cells #[.int .i64 t.kind, .int .i64 t.form, .string t.text, .int .i64 t.line, .int .i64 t.col, kv, lv, .bool ok] 68 (0, 0))
theorem RowP.lt {w : World} {g : Nat} {t : Tr} {kv lv : Value} {ok : Bool} (h : RowP w g t kv lv ok) : g < w.heap.size := (Array.getElem?_eq_some_iff.1 h).1
theorem RowP.cells {w : World} {g : Nat} {t : Tr} {kv lv : Value} {ok : Bool} (h : RowP w g t kv lv ok) :
    w.cell? ⟨g, 0, none⟩ = some (.int .i64 t.kind) ∧ w.cell? ⟨g, 1, none⟩ = some (.int .i64 t.form) ∧ w.cell? ⟨g, 2, none⟩ = some (.string t.text) ∧ w.cell? ⟨g, 3, none⟩ = some (.int .i64 t.line) ∧ w.cell? ⟨g, 4, none⟩ = some (.int .i64 t.col) ∧ w.cell? ⟨g, 5, none⟩ = some kv ∧ w.cell? ⟨g, 6, none⟩ = some lv ∧ w.cell? ⟨g, 7, none⟩ = some (.bool ok) :=
  ⟨cell_of_row _ _ _ _ _ _ h, cell_of_row _ _ _ _ _ _ h, cell_of_row _ _ _ _ _ _ h, cell_of_row _ _ _ _ _ _ h, cell_of_row _ _ _ _ _ _ h, cell_of_row _ _ _ _ _ _ h, cell_of_row _ _ _ _ _ _ h, cell_of_row _ _ _ _ _ _ h⟩
theorem RowP.frozen {w : World} {g : Nat} {t : Tr} {kv lv : Value} {ok : Bool} (h : RowP w g t kv lv ok) (j : Nat) : w.frozen? ⟨g, j, none⟩ = false := frozen_of_row _ _ _ _ _ h
theorem RowP.keep {w w' : World} {g : Nat} {t : Tr} {kv lv : Value} {ok : Bool} (h : RowP w g t kv lv ok) (hb : w'.heap[g]? = w.heap[g]?) : RowP w' g t kv lv ok := hb.trans h
theorem RowP.below {w w' : World} {g : Nat} {t : Tr} {kv lv : Value} {ok : Bool} (h : RowP w g t kv lv ok) (hb : Below w.heap.size w w') : RowP w' g t kv lv ok := h.keep (hb.block g h.lt)
theorem RowP.alloc {w : World} {g : Nat} {t : Tr} {kv lv : Value} {ok : Bool} (h : RowP w g t kv lv ok) (o : Obj) : RowP (w.alloc o) g t kv lv ok := (Below.heap_alloc w o g h.lt).trans h
theorem rowP_new (w : World) (t : Tr) (kv lv : Value) (ok : Bool) (n : Nat) (hn : n = w.heap.size) : RowP (w.alloc (.cells #[.int .i64 t.kind, .int .i64 t.form, .string t.text, .int .i64 t.line, .int .i64 t.col, kv, lv, .bool ok] 68)) n t kv lv ok := by
  subst hn; exact heap_alloc_new _ _
def set8 (w : World) (g : Nat) (v0 v1 v2 v3 v4 v5 v6 v7 : Value) : World :=
  (((((((w.setCell ⟨g, 0, none⟩ v0).setCell ⟨g, 1, none⟩ v1).setCell ⟨g, 2, none⟩ v2).setCell ⟨g, 3, none⟩ v3).setCell ⟨g, 4, none⟩ v4).setCell ⟨g, 5, none⟩ v5).setCell ⟨g, 6, none⟩ v6).setCell ⟨g, 7, none⟩ v7
theorem other8 (w : World) (g : Nat) (v0 v1 v2 v3 v4 v5 v6 v7 : Value) (j : Nat) (hj : j ≠ g) : ((((((((w.setCell ⟨g, 0, none⟩ v0).setCell ⟨g, 1, none⟩ v1).setCell ⟨g, 2, none⟩ v2).setCell ⟨g, 3, none⟩ v3).setCell ⟨g, 4, none⟩ v4).setCell ⟨g, 5, none⟩ v5).setCell ⟨g, 6, none⟩ v6).setCell ⟨g, 7, none⟩ v7).heap[j]? = w.heap[j]? := by
  rw [Below.heap_setCell _ _ _ _ hj, Below.heap_setCell _ _ _ _ hj, Below.heap_setCell _ _ _ _ hj, Below.heap_setCell _ _ _ _ hj, Below.heap_setCell _ _ _ _ hj, Below.heap_setCell _ _ _ _ hj, Below.heap_setCell _ _ _ _ hj, Below.heap_setCell _ _ _ _ hj]
theorem row8_set {w : World} {g : Nat} {a0 a1 a2 a3 a4 a5 a6 a7 : Value} {ty : TypeId} (h : w.heap[g]? = some (.cells #[a0, a1, a2, a3, a4, a5, a6, a7] ty (0, 0))) (v0 v1 v2 v3 v4 v5 v6 v7 : Value) : (set8 w g v0 v1 v2 v3 v4 v5 v6 v7).heap[g]? = some (.cells #[v0, v1, v2, v3, v4, v5, v6, v7] ty (0, 0)) := by
  have h0 : (w.setCell ⟨g, 0, none⟩ v0).heap[g]? = some (.cells #[v0, a1, a2, a3, a4, a5, a6, a7] ty (0, 0)) := heap_setCell_same _ _ 0 _ _ v0 h
  have h1 : ((w.setCell ⟨g, 0, none⟩ v0).setCell ⟨g, 1, none⟩ v1).heap[g]? = some (.cells #[v0, v1, a2, a3, a4, a5, a6, a7] ty (0, 0)) := heap_setCell_same _ _ 1 _ _ v1 h0
  have h2 : (((w.setCell ⟨g, 0, none⟩ v0).setCell ⟨g, 1, none⟩ v1).setCell ⟨g, 2, none⟩ v2).heap[g]? = some (.cells #[v0, v1, v2, a3, a4, a5, a6, a7] ty (0, 0)) := heap_setCell_same _ _ 2 _ _ v2 h1
  have h3 : ((((w.setCell ⟨g, 0, none⟩ v0).setCell ⟨g, 1, none⟩ v1).setCell ⟨g, 2, none⟩ v2).setCell ⟨g, 3, none⟩ v3).heap[g]? = some (.cells #[v0, v1, v2, v3, a4, a5, a6, a7] ty (0, 0)) := heap_setCell_same _ _ 3 _ _ v3 h2
  have h4 : (((((w.setCell ⟨g, 0, none⟩ v0).setCell ⟨g, 1, none⟩ v1).setCell ⟨g, 2, none⟩ v2).setCell ⟨g, 3, none⟩ v3).setCell ⟨g, 4, none⟩ v4).heap[g]? = some (.cells #[v0, v1, v2, v3, v4, a5, a6, a7] ty (0, 0)) := heap_setCell_same _ _ 4 _ _ v4 h3
  have h5 : ((((((w.setCell ⟨g, 0, none⟩ v0).setCell ⟨g, 1, none⟩ v1).setCell ⟨g, 2, none⟩ v2).setCell ⟨g, 3, none⟩ v3).setCell ⟨g, 4, none⟩ v4).setCell ⟨g, 5, none⟩ v5).heap[g]? = some (.cells #[v0, v1, v2, v3, v4, v5, a6, a7] ty (0, 0)) := heap_setCell_same _ _ 5 _ _ v5 h4
  have h6 : (((((((w.setCell ⟨g, 0, none⟩ v0).setCell ⟨g, 1, none⟩ v1).setCell ⟨g, 2, none⟩ v2).setCell ⟨g, 3, none⟩ v3).setCell ⟨g, 4, none⟩ v4).setCell ⟨g, 5, none⟩ v5).setCell ⟨g, 6, none⟩ v6).heap[g]? = some (.cells #[v0, v1, v2, v3, v4, v5, v6, a7] ty (0, 0)) := heap_setCell_same _ _ 6 _ _ v6 h5
  have h7 : ((((((((w.setCell ⟨g, 0, none⟩ v0).setCell ⟨g, 1, none⟩ v1).setCell ⟨g, 2, none⟩ v2).setCell ⟨g, 3, none⟩ v3).setCell ⟨g, 4, none⟩ v4).setCell ⟨g, 5, none⟩ v5).setCell ⟨g, 6, none⟩ v6).setCell ⟨g, 7, none⟩ v7).heap[g]? = some (.cells #[v0, v1, v2, v3, v4, v5, v6, v7] ty (0, 0)) := heap_setCell_same _ _ 7 _ _ v7 h6
  exact h7
theorem part_set {w : World} {g : Nat} {t : Tr} {kv lv : Value} {ok : Bool} (h : RowP w g t kv lv ok) (v0 v1 v2 v3 v4 v5 v6 v7 : Value) : (set8 w g v0 v1 v2 v3 v4 v5 v6 v7).heap[g]? = some (.cells #[v0, v1, v2, v3, v4, v5, v6, v7] 68 (0, 0)) := row8_set h ..
theorem set8_below (w : World) (g : Nat) (v0 v1 v2 v3 v4 v5 v6 v7 : Value) : Below 0 w (set8 w g v0 v1 v2 v3 v4 v5 v6 v7) :=
  ((((((((Below.refl 0 w).setCell (p := ⟨g, 0, none⟩) (Nat.zero_le _) v0).setCell (p := ⟨g, 1, none⟩) (Nat.zero_le _) v1).setCell (p := ⟨g, 2, none⟩) (Nat.zero_le _) v2).setCell (p := ⟨g, 3, none⟩) (Nat.zero_le _) v3).setCell (p := ⟨g, 4, none⟩) (Nat.zero_le _) v4).setCell (p := ⟨g, 5, none⟩) (Nat.zero_le _) v5).setCell (p := ⟨g, 6, none⟩) (Nat.zero_le _) v6).setCell (p := ⟨g, 7, none⟩) (Nat.zero_le _) v7
/-- The store of a whole part into a block that holds one. -/
theorem store_part {w : World} {g : Nat} {t : Tr} {kv lv : Value} {ok : Bool} (h : RowP w g t kv lv ok) (v0 v1 v2 v3 v4 v5 v6 v7 : Value) :
    ∃ wN, ((((((((w.setCell ⟨g, 0, none⟩ v0).setCell ⟨g, 1, none⟩ v1).setCell ⟨g, 2, none⟩ v2).setCell ⟨g, 3, none⟩ v3).setCell ⟨g, 4, none⟩ v4).setCell ⟨g, 5, none⟩ v5).setCell ⟨g, 6, none⟩ v6).setCell ⟨g, 7, none⟩ v7) = wN ∧
      wN.heap[g]? = some (.cells #[v0, v1, v2, v3, v4, v5, v6, v7] 68 (0, 0)) ∧ (∀ j, j ≠ g → wN.heap[j]? = w.heap[j]?) ∧ wN.heap.size = w.heap.size ∧ wN.os = w.os ∧ wN.tape = w.tape ∧ wN.output = w.output :=
  have hb := set8_below w g v0 v1 v2 v3 v4 v5 v6 v7
  ⟨set8 w g v0 v1 v2 v3 v4 v5 v6 v7, rfl, part_set h .., fun j hj => other8 _ _ _ _ _ _ _ _ _ _ j hj, by simp [set8], hb.os, hb.tape, hb.output⟩
/-- What lies behind all calls. -/
structure RGround (W0 : World) (b o : Nat) (ks : List Tr) (K : Nat → Value) (env : List Fx) (ea : Option Addr) (eb eo : Nat) : Prop where
  kid : ∀ i (h : i < ks.length), Cells6 W0 b (o + i * 6) ks[i] (K i) ∧ Lies W0 ks[i] (K i)
  ea : 0 < env.length → ea = some ⟨eb, eo, none⟩
  env : Fixes W0 eb eo env
  text : ∀ i (h : i < ks.length), (ks[i]).mid.text.size ≤ 1152921504606846976
/-- What a call leaves behind. -/
def PartPost (W0 : World) (b o : Nat) (ks : List Tr) (B : Nat) (Q : Tr × Nat × Bool) (w : World) (e : Ending) (w' : World) : Prop :=
  Below w.heap.size w w' ∧ ∃ (T : Tr) (x : Option Addr) (c : Nat) (y : Option Addr) (m d : Nat), e = .returned (partV T (.slice x T.kids.length c) (.slice y m d) (!Q.2.2)) ∧
    (Q.2.2 = false → T = Q.1 ∧ LiesP (fun g => g < W0.heap.size ∨ B ≤ g) w' T (.slice x T.kids.length c) ∧ RestAt b o ks Q.2.1 (.slice y m d))
def FirstDoes (W0 : World) (b o : Nat) (ks : List Tr) (env : List Fx) (ev : Value) (f : Nat) : Prop :=
  ∀ (x : Fx) (k : Nat) (sv : Value) (w : World), k < ks.length → rowOk true (ks.drop k) = true → 2 * (ks.length - k) ≤ f → Below W0.heap.size W0 w → RestAt b o ks k sv →
    Calls Tryd.prog 39 #[ev, fxV x, sv] w (PartPost W0 b o ks w.heap.size (pBegin env ks f x k) w)
def ThenDoes (W0 : World) (b o : Nat) (ks : List Tr) (env : List Fx) (ev : Value) (f : Nat) : Prop :=
  ∀ (x : Fx) (n : Tr) (nv : Value) (k : Nat) (sv : Value) (B : Nat) (w : World), k ≤ ks.length → rowOk false (ks.drop k) = true → 2 * (ks.length - k) ≤ f → Below W0.heap.size W0 w → W0.heap.size ≤ B → B ≤ w.heap.size →
    LiesP (fun g => g < W0.heap.size ∨ B ≤ g) w n nv → RestAt b o ks k sv →
    Calls Tryd.prog 53 #[ev, fxV x, nodeV n nv, sv] w (PartPost W0 b o ks B (pGo env ks f x n k false) w)

set_option maxRecDepth 20000 in
set_option maxHeartbeats 8000000 in
theorem first_step (W0 : World) (b o : Nat) (ks : List Tr) (K : Nat → Value) (env : List Fx) (ea : Option Addr) (ec eb eo : Nat) (f : Nat) (hG : RGround W0 b o ks K env ea eb eo)
    (hFi : FirstDoes W0 b o ks env (.slice ea env.length ec) f) (hTh : ThenDoes W0 b o ks env (.slice ea env.length ec) f) : FirstDoes W0 b o ks env (.slice ea env.length ec) (f + 1) := by
  intro y k sv w hk hr hf hW hRest
  have hps := pBegin_s env ks f k y hk
  obtain ⟨R, hR⟩ : ∃ R, pBegin env ks (f + 1) y k = R := ⟨_, rfl⟩
  rw [hR] at hps ⊢
  rw [rowOk_at ks k true hk] at hr
  obtain ⟨x, c, hc, hl, hbl⟩ := kid_at (t := nodeOf 0 ks) hG.kid hW hk
  obtain ⟨x', c', hc', hl', _⟩ := kid_at (t := nodeOf 0 ks) hG.kid (Below.refl _ _) hk
  have hmk : (nodeOf 0 ks).kids[k] = ks[k] := rfl
  rw [hmk] at hc hl hc' hl'
  have hcc := hc'.c5
  have hcc2 := hc.c5
  rw [(hW.cell (p := ⟨b, o + k * 6 + 5, none⟩) hbl)] at hcc2
  rw [hcc2] at hcc
  simp only [Option.some.injEq, Value.slice.injEq, true_and] at hcc
  obtain ⟨rfl, rfl⟩ := hcc
  have hlow := hl'.low
  clear hc' hl' hcc2 hmk
  obtain ⟨sa, cap, rfl, hsa, hcap, hcm⟩ := hRest
  have hsa := hsa hk
  subst hsa
  obtain ⟨m, hm⟩ : ∃ m, ks.length - k = m + 1 := ⟨ks.length - k - 1, by omega⟩
  rw [hm] at hcap ⊢
  have HM := Lib.hid hm
  have HTH := Lib.hid hTh
  have HFI := Lib.hid hFi
  have HPS := Lib.hid hps
  have HRW := Lib.hid hr
  have hst := hW.size
  have hbw : b < w.heap.size := by omega
  have HW := Lib.hid hW
  unfold maxLen at hcm
  have HC := Lib.hid hc
  have HLow := Lib.hid hlow
  clear hps hr hl hlow hTh hFi hR hm hW
  generalize hn : ks[k] = n at *
  clear hn
  have c0 := hc.c0; have c1 := hc.c1; have c2 := hc.c2; have c3 := hc.c3; have c4 := hc.c4; have c5 := hc.c5
  clear hc
  have HB2 := Lib.hid (show Below w.heap.size w ((w.alloc (.cells #[.string y.op, .int .i64 y.side, .int .i64 y.prec] 25)).alloc (.cells #[.int .i64 0, .int .i64 0, .string ⟨#[]⟩, .int .i64 0, .int .i64 0, .slice none 0 0, .slice none 0 0, .bool false] 68)) from ((Below.refl w.heap.size w).alloc (Nat.le_refl _) _).alloc (by simp) _)
  have HW2 := Lib.hid (show Below W0.heap.size W0 ((w.alloc (.cells #[.string y.op, .int .i64 y.side, .int .i64 y.prec] 25)).alloc (.cells #[.int .i64 0, .int .i64 0, .string ⟨#[]⟩, .int .i64 0, .int .i64 0, .slice none 0 0, .slice none 0 0, .bool false] 68)).drew from (HW.out.trans (HB2.out.mono hst)).drew)
  have HX2 := Lib.hid (show RowX ((w.alloc (.cells #[.string y.op, .int .i64 y.side, .int .i64 y.prec] 25)).alloc (.cells #[.int .i64 0, .int .i64 0, .string ⟨#[]⟩, .int .i64 0, .int .i64 0, .slice none 0 0, .slice none 0 0, .bool false] 68)).drew w.heap.size y from (rowX_new w y).alloc _)
  have HP0 := Lib.hid (show RowP ((w.alloc (.cells #[.string y.op, .int .i64 y.side, .int .i64 y.prec] 25)).alloc (.cells #[.int .i64 0, .int .i64 0, .string ⟨#[]⟩, .int .i64 0, .int .i64 0, .slice none 0 0, .slice none 0 0, .bool false] 68)).drew (w.heap.size + 1) zeroT (.slice none 0 0) (.slice none 0 0) false from rowP_new (w.alloc (.cells #[.string y.op, .int .i64 y.side, .int .i64 y.prec] 25)) zeroT (.slice none 0 0) (.slice none 0 0) false (w.heap.size + 1) (by simp))
  have HC2 := Lib.hid (show Cells6 ((w.alloc (.cells #[.string y.op, .int .i64 y.side, .int .i64 y.prec] 25)).alloc (.cells #[.int .i64 0, .int .i64 0, .string ⟨#[]⟩, .int .i64 0, .int .i64 0, .slice none 0 0, .slice none 0 0, .bool false] 68)).drew b (o + k * 6) n (.slice x n.kids.length c) from HC.out.below HB2.out.drew)
  have HS0 := Lib.hid (show RowX ((w.alloc (.cells #[.string y.op, .int .i64 y.side, .int .i64 y.prec] 25)).alloc (.cells #[.int .i64 0, .int .i64 0, .string ⟨#[]⟩, .int .i64 0, .int .i64 0, .slice none 0 0, .slice none 0 0, .bool false] 68)).drew w.heap.size y ∧ Cells6 ((w.alloc (.cells #[.string y.op, .int .i64 y.side, .int .i64 y.prec] 25)).alloc (.cells #[.int .i64 0, .int .i64 0, .string ⟨#[]⟩, .int .i64 0, .int .i64 0, .slice none 0 0, .slice none 0 0, .bool false] 68)).drew b (o + k * 6) n (.slice x n.kids.length c) from ⟨HX2.out, HC2.out⟩)
  have HL2 := Lib.hid (show LiesP (fun g => g < W0.heap.size ∨ ((w.alloc (.cells #[.string y.op, .int .i64 y.side, .int .i64 y.prec] 25)).alloc (.cells #[.int .i64 0, .int .i64 0, .string ⟨#[]⟩, .int .i64 0, .int .i64 0, .slice none 0 0, .slice none 0 0, .bool false] 68)).drew.heap.size ≤ g) ((w.alloc (.cells #[.string y.op, .int .i64 y.side, .int .i64 y.prec] 25)).alloc (.cells #[.int .i64 0, .int .i64 0, .string ⟨#[]⟩, .int .i64 0, .int .i64 0, .slice none 0 0, .slice none 0 0, .bool false] 68)).drew n (.slice x n.kids.length c) from (HLow.out.keep (fun j _ hP => HW2.out.block j hP)).mono (fun j _ hP => .inl hP))
  have hne1 : w.heap.size ≠ w.heap.size + 1 := by omega
  have hne2 : b ≠ w.heap.size + 1 := by omega
  unfold fxV
  by_cases h19 : n.kind = 19
  · have t1 : (n.kind != 19) = false := by simp; exact h19
    have H19 := Lib.hid h19
    clear h19
    have hro : rowOk true (ks.drop (k + 1)) = true := by have h := HRW.out; rw [rowOk_m _ _ H19.out] at h; exact h
    have hk1 : k + 1 < ks.length := by
      by_cases hh : k + 1 < ks.length
      · exact hh
      · rw [List.drop_eq_nil_of_le (by omega)] at hro; simp [rowOk] at hro
    have hc1 : 1 < cap := by have := HM.out; omega
    have hc2 : (1 : Int) ≤ (cap : Int) := by omega
    by_cases h6 : 6 ≤ y.prec
    · have HP := Lib.hid (show R = (n, k + 1, true) by rw [HPS.out, if_pos H19.out, if_pos h6])
      have t2 : decide (6 ≤ y.prec) = true := by simp; exact h6
      clear h6 hro
      go_enter Tryd.func39, Tryd.ntmps39
      go_wp2_with fail
      refine bodyPost_ret (results_cell_row rfl _ _ (w.heap.size + 1) 68 _ (0, 0) _ rfl (show ((w.alloc (.cells #[.string y.op, .int .i64 y.side, .int .i64 y.prec] 25)).alloc (.cells #[.int .i64 0, .int .i64 0, .string ⟨#[]⟩, .int .i64 0, .int .i64 0, .slice none 0 0, .slice none 0 0, .bool false] 68)).heap[w.heap.size + 1]? = some (.cells #[.int .i64 0, .int .i64 0, .string ⟨#[]⟩, .int .i64 0, .int .i64 0, .slice none 0 0, .slice none 0 0, .bool false] 68 (0, 0)) from HP0.out) Tryd.underlying68 rfl (by kernel_rfl)) rfl ?_
      exact ⟨HB2.out, zeroT, none, 0, none, 0, 0, by rw [HP.out]; rfl, fun h => by rw [HP.out] at h; cases h⟩
    · have t2 : decide (6 ≤ y.prec) = false := by simp; omega
      obtain ⟨⟨N, kq, q⟩, hQ⟩ : ∃ Q, pBegin env ks f ⟨⟨#[]⟩, 1, 6⟩ (k + 1) = Q := ⟨_, rfl⟩
      have hfin := (p_fine env ks f).1 ⟨⟨#[]⟩, 1, 6⟩ (k + 1) (by omega) hro
      rw [hQ] at hfin
      have HF := Lib.hid hfin
      have HP := Lib.hid (show R = pGo env ks f y (nodeOf 21 [n, N]) kq q by rw [HPS.out, if_pos H19.out, if_neg h6, hQ])
      have F1 := HFI.out ⟨⟨#[45]⟩, 1, 6⟩ (k + 1) (.slice (some ⟨b, o + k * 6 + 6, none⟩) m (cap - 1)) ((w.alloc (.cells #[.string y.op, .int .i64 y.side, .int .i64 y.prec] 25)).alloc (.cells #[.int .i64 0, .int .i64 0, .string ⟨#[]⟩, .int .i64 0, .int .i64 0, .slice none 0 0, .slice none 0 0, .bool false] 68)) hk1 hro (by omega) (HW.out.trans (HB2.out.mono hst)) ⟨some ⟨b, o + k * 6 + 6, none⟩, cap - 1, by rw [show ks.length - (k + 1) = m from by have := HM.out; omega], fun _ => by rw [show o + (k + 1) * 6 = o + k * 6 + 6 from by omega], by have := HM.out; omega, by unfold maxLen; omega⟩
      rw [(pBegin_op env ks f).1 ⟨⟨#[45]⟩, 1, 6⟩ ⟨⟨#[]⟩, 1, 6⟩ (k + 1) rfl rfl, hQ] at F1
      have F1 := Lib.hid F1
      clear hQ hro hfin h6
      go_enter Tryd.func39, Tryd.ntmps39
      go_wp2_with fail
      refine F1.out.mono ?_
      rintro e w3 ⟨hb3, T, x3, c3, y3, m3, d3, rfl, hq3⟩
      have HB3 := Lib.hid (Below.then HB2.out hb3)
      have HP3 := Lib.hid (show RowP w3 (w.heap.size + 1) zeroT (.slice none 0 0) (.slice none 0 0) false from (hb3.block (w.heap.size + 1) (by simp)).trans HP0.out)
      have HX3 := Lib.hid (show RowX w3 w.heap.size y from (hb3.block w.heap.size (by simp; omega)).trans HX2.out)
      have HC3 := Lib.hid (show Cells6 w3 b (o + k * 6) n (.slice x n.kids.length c) from HC.out.below HB3.out)
      have hs3 : w.heap.size + 2 ≤ w3.heap.size := by have h := hb3.size; simp at h; omega
      have hs31 : w.heap.size + 1 < w3.heap.size := by omega
      have hs30 : w.heap.size < w3.heap.size := by omega
      have hs3b : b < w3.heap.size := by omega
      obtain ⟨e0, e1, e2, e3, e4, e5, e6, e7⟩ := HP3.out.cells
      have z := HP3.out.frozen
      have HQ3 := Lib.hid hq3
      clear hb3 hq3
      unfold partV
      cases q with
      | true =>
        have HR := Lib.hid (show R = (nodeOf 21 [n, N], kq, true) by rw [HP.out, pGo_w])
        go_wp2_with fail
        obtain ⟨wN, hwN, hN9, ho9, hz9, ho1, ho2, ho3⟩ := store_part HP3.out (.int .i64 T.kind) (.int .i64 T.form) (.string T.text) (.int .i64 T.line) (.int .i64 T.col) (.slice x3 T.kids.length c3) (.slice y3 m3 d3) (.bool false)
        rw [hwN]
        have hN8 := (Below.heap_alloc wN (.cells #[.int .i64 T.kind, .int .i64 T.form, .string T.text, .int .i64 T.line, .int .i64 T.col, .slice x3 T.kids.length c3, .slice y3 m3 d3, .bool false] 68) (w.heap.size + 1) (by rw [hz9]; omega)).trans hN9
        refine bodyPost_ret (results_cell_row rfl _ _ (w.heap.size + 1) 68 _ (0, 0) _ rfl hN8 Tryd.underlying68 rfl (by kernel_rfl)) rfl ?_
        exact ⟨(below_fresh HB3.out (g := w.heap.size + 1) (by omega) ho9 hz9 ho1 ho2 ho3).alloc (by rw [hz9]; omega) _, T, x3, c3, y3, m3, d3, by rw [HR.out]; rfl, fun h => by rw [HR.out] at h; cases h⟩
      | false =>
        obtain ⟨hT, hlT, hrT⟩ := HQ3.out rfl
        simp only at hT hlT hrT
        have hT := hT.symm
        subst hT
        have hW3 := HW.out.trans (HB3.out.mono hst)
        have HB4 := Lib.hid (show Below w.heap.size w (w3.alloc (.cells #[.int .i64 N.kind, .int .i64 N.form, .string N.text, .int .i64 N.line, .int .i64 N.col, .slice x3 N.kids.length c3, .slice y3 m3 d3, .bool true] 68)) from HB3.out.alloc (by omega) _)
        have HB5 := Lib.hid (show Below w.heap.size w ((w3.alloc (.cells #[.int .i64 N.kind, .int .i64 N.form, .string N.text, .int .i64 N.line, .int .i64 N.col, .slice x3 N.kids.length c3, .slice y3 m3 d3, .bool true] 68)).alloc (.cells #[.int .i64 n.kind, .int .i64 n.form, .string n.text, .int .i64 n.line, .int .i64 n.col, .slice x n.kids.length c, .int .i64 N.kind, .int .i64 N.form, .string N.text, .int .i64 N.line, .int .i64 N.col, .slice x3 N.kids.length c3] 32)).drew from (HB4.out.alloc (by simp; omega) _).drew)
        have HW5 := Lib.hid (show Below W0.heap.size W0 ((w3.alloc (.cells #[.int .i64 N.kind, .int .i64 N.form, .string N.text, .int .i64 N.line, .int .i64 N.col, .slice x3 N.kids.length c3, .slice y3 m3 d3, .bool true] 68)).alloc (.cells #[.int .i64 n.kind, .int .i64 n.form, .string n.text, .int .i64 n.line, .int .i64 n.col, .slice x n.kids.length c, .int .i64 N.kind, .int .i64 N.form, .string N.text, .int .i64 N.line, .int .i64 N.col, .slice x3 N.kids.length c3] 32)).drew from HW.out.trans (HB5.out.mono hst))
        have hn4 : LiesP (fun g => g < W0.heap.size ∨ w.heap.size + 2 ≤ g) (w3.alloc (.cells #[.int .i64 N.kind, .int .i64 N.form, .string N.text, .int .i64 N.line, .int .i64 N.col, .slice x3 N.kids.length c3, .slice y3 m3 d3, .bool true] 68)) n (.slice x n.kids.length c) := ((HLow.out.keep (fun j _ hP => hW3.block j hP)).mono (fun j _ hP => .inl hP)).keep (fun j hj _ => Below.heap_alloc w3 _ j hj)
        have hN4 : LiesP (fun g => g < W0.heap.size ∨ w.heap.size + 2 ≤ g) (w3.alloc (.cells #[.int .i64 N.kind, .int .i64 N.form, .string N.text, .int .i64 N.line, .int .i64 N.col, .slice x3 N.kids.length c3, .slice y3 m3 d3, .bool true] 68)) N (.slice x3 N.kids.length c3) := (hlT.mono (fun j _ hP => by have h : j < W0.heap.size ∨ ((w.alloc (.cells #[.string y.op, .int .i64 y.side, .int .i64 y.prec] 25)).alloc (.cells #[.int .i64 0, .int .i64 0, .string ⟨#[]⟩, .int .i64 0, .int .i64 0, .slice none 0 0, .slice none 0 0, .bool false] 68)).heap.size ≤ j := hP; simp at h; omega)).keep (fun j hj _ => Below.heap_alloc w3 _ j hj)
        have h2 := two_lies 32 21 hn4 hN4 (.inr (by simp; omega))
        have HL5 := Lib.hid (show LiesP (fun g => g < W0.heap.size ∨ w.heap.size + 2 ≤ g) ((w3.alloc (.cells #[.int .i64 N.kind, .int .i64 N.form, .string N.text, .int .i64 N.line, .int .i64 N.col, .slice x3 N.kids.length c3, .slice y3 m3 d3, .bool true] 68)).alloc (.cells #[.int .i64 n.kind, .int .i64 n.form, .string n.text, .int .i64 n.line, .int .i64 n.col, .slice x n.kids.length c, .int .i64 N.kind, .int .i64 N.form, .string N.text, .int .i64 N.line, .int .i64 N.col, .slice x3 N.kids.length c3] 32)).drew (nodeOf 21 [n, N]) (.slice (some ⟨w3.heap.size + 1, 0, none⟩) 2 2) from by
          have h := h2.keep (w' := ((w3.alloc (.cells #[.int .i64 N.kind, .int .i64 N.form, .string N.text, .int .i64 N.line, .int .i64 N.col, .slice x3 N.kids.length c3, .slice y3 m3 d3, .bool true] 68)).alloc (.cells #[.int .i64 n.kind, .int .i64 n.form, .string n.text, .int .i64 n.line, .int .i64 n.col, .slice x n.kids.length c, .int .i64 N.kind, .int .i64 N.form, .string N.text, .int .i64 N.line, .int .i64 N.col, .slice x3 N.kids.length c3] 32)).drew) (fun j _ _ => rfl)
          rw [show (w3.alloc (.cells #[.int .i64 N.kind, .int .i64 N.form, .string N.text, .int .i64 N.line, .int .i64 N.col, .slice x3 N.kids.length c3, .slice y3 m3 d3, .bool true] 68)).heap.size = w3.heap.size + 1 from by simp] at h
          exact h)
        have HX4 := Lib.hid (show RowX (w3.alloc (.cells #[.int .i64 N.kind, .int .i64 N.form, .string N.text, .int .i64 N.line, .int .i64 N.col, .slice x3 N.kids.length c3, .slice y3 m3 d3, .bool true] 68)).drew w.heap.size y from HX3.out.alloc _)
        have HC4 := Lib.hid (show Cells6 (w3.alloc (.cells #[.int .i64 N.kind, .int .i64 N.form, .string N.text, .int .i64 N.line, .int .i64 N.col, .slice x3 N.kids.length c3, .slice y3 m3 d3, .bool true] 68)).drew b (o + k * 6) n (.slice x n.kids.length c) from (HC3.out.alloc _).below (Below.refl _ _).drew)
        have HQ4 := Lib.hid (show RowP (w3.alloc (.cells #[.int .i64 N.kind, .int .i64 N.form, .string N.text, .int .i64 N.line, .int .i64 N.col, .slice x3 N.kids.length c3, .slice y3 m3 d3, .bool true] 68)).drew w3.heap.size N (.slice x3 N.kids.length c3) (.slice y3 m3 d3) true from rowP_new w3 N _ _ true _ rfl)
        have HS0 := Lib.hid (show RowX (w3.alloc (.cells #[.int .i64 N.kind, .int .i64 N.form, .string N.text, .int .i64 N.line, .int .i64 N.col, .slice x3 N.kids.length c3, .slice y3 m3 d3, .bool true] 68)).drew w.heap.size y ∧ Cells6 (w3.alloc (.cells #[.int .i64 N.kind, .int .i64 N.form, .string N.text, .int .i64 N.line, .int .i64 N.col, .slice x3 N.kids.length c3, .slice y3 m3 d3, .bool true] 68)).drew b (o + k * 6) n (.slice x n.kids.length c) ∧ RowP (w3.alloc (.cells #[.int .i64 N.kind, .int .i64 N.form, .string N.text, .int .i64 N.line, .int .i64 N.col, .slice x3 N.kids.length c3, .slice y3 m3 d3, .bool true] 68)).drew w3.heap.size N (.slice x3 N.kids.length c3) (.slice y3 m3 d3) true from ⟨HX4.out, HC4.out, HQ4.out⟩)
        have HSA := Lib.hid (show RowX ((w3.alloc (.cells #[.int .i64 N.kind, .int .i64 N.form, .string N.text, .int .i64 N.line, .int .i64 N.col, .slice x3 N.kids.length c3, .slice y3 m3 d3, .bool true] 68)).alloc (.cells #[.int .i64 n.kind, .int .i64 n.form, .string n.text, .int .i64 n.line, .int .i64 n.col, .slice x n.kids.length c, .int .i64 N.kind, .int .i64 N.form, .string N.text, .int .i64 N.line, .int .i64 N.col, .slice x3 N.kids.length c3] 32)).drew w.heap.size y ∧ Cells6 ((w3.alloc (.cells #[.int .i64 N.kind, .int .i64 N.form, .string N.text, .int .i64 N.line, .int .i64 N.col, .slice x3 N.kids.length c3, .slice y3 m3 d3, .bool true] 68)).alloc (.cells #[.int .i64 n.kind, .int .i64 n.form, .string n.text, .int .i64 n.line, .int .i64 n.col, .slice x n.kids.length c, .int .i64 N.kind, .int .i64 N.form, .string N.text, .int .i64 N.line, .int .i64 N.col, .slice x3 N.kids.length c3] 32)).drew b (o + k * 6) n (.slice x n.kids.length c) ∧ RowP ((w3.alloc (.cells #[.int .i64 N.kind, .int .i64 N.form, .string N.text, .int .i64 N.line, .int .i64 N.col, .slice x3 N.kids.length c3, .slice y3 m3 d3, .bool true] 68)).alloc (.cells #[.int .i64 n.kind, .int .i64 n.form, .string n.text, .int .i64 n.line, .int .i64 n.col, .slice x n.kids.length c, .int .i64 N.kind, .int .i64 N.form, .string N.text, .int .i64 N.line, .int .i64 N.col, .slice x3 N.kids.length c3] 32)).drew w3.heap.size N (.slice x3 N.kids.length c3) (.slice y3 m3 d3) true from ⟨HX4.out.alloc _, ((HC3.out.alloc _).alloc _).below (Below.refl _ _).drew, HQ4.out.alloc _⟩)
        have HP5 := Lib.hid (show RowP ((w3.alloc (.cells #[.int .i64 N.kind, .int .i64 N.form, .string N.text, .int .i64 N.line, .int .i64 N.col, .slice x3 N.kids.length c3, .slice y3 m3 d3, .bool true] 68)).alloc (.cells #[.int .i64 n.kind, .int .i64 n.form, .string n.text, .int .i64 n.line, .int .i64 n.col, .slice x n.kids.length c, .int .i64 N.kind, .int .i64 N.form, .string N.text, .int .i64 N.line, .int .i64 N.col, .slice x3 N.kids.length c3] 32)).drew (w.heap.size + 1) zeroT (.slice none 0 0) (.slice none 0 0) false from (HP3.out.alloc _).alloc _)
        have hne3 : w3.heap.size ≠ w.heap.size + 1 := by omega
        have H2 := Lib.hid (HTH.out y (nodeOf 21 [n, N]) (.slice (some ⟨w3.heap.size + 1, 0, none⟩) 2 2) kq (.slice y3 m3 d3) (w.heap.size + 2) ((w3.alloc (.cells #[.int .i64 N.kind, .int .i64 N.form, .string N.text, .int .i64 N.line, .int .i64 N.col, .slice x3 N.kids.length c3, .slice y3 m3 d3, .bool true] 68)).alloc (.cells #[.int .i64 n.kind, .int .i64 n.form, .string n.text, .int .i64 n.line, .int .i64 n.col, .slice x n.kids.length c, .int .i64 N.kind, .int .i64 N.form, .string N.text, .int .i64 N.line, .int .i64 N.col, .slice x3 N.kids.length c3] 32)).drew HF.out.2.1 (HF.out.2.2.resolve_left (by simp)) (by have := HF.out.1; simp only at this; omega) HW5.out (by omega) (by simp; omega) HL5.out hrT)
        rw [← HP.out] at H2
        have rx0 := fun w' (h : RowX w' w.heap.size y) => h.cells.1
        have rx1 := fun w' (h : RowX w' w.heap.size y) => h.cells.2.1
        have rx2 := fun w' (h : RowX w' w.heap.size y) => h.cells.2.2
        have u0 := fun w' (h : Cells6 w' b (o + k * 6) n (.slice x n.kids.length c)) => h.c0
        have u1 := fun w' (h : Cells6 w' b (o + k * 6) n (.slice x n.kids.length c)) => h.c1
        have u2 := fun w' (h : Cells6 w' b (o + k * 6) n (.slice x n.kids.length c)) => h.c2
        have u3 := fun w' (h : Cells6 w' b (o + k * 6) n (.slice x n.kids.length c)) => h.c3
        have u4 := fun w' (h : Cells6 w' b (o + k * 6) n (.slice x n.kids.length c)) => h.c4
        have u5 := fun w' (h : Cells6 w' b (o + k * 6) n (.slice x n.kids.length c)) => h.c5
        have rp0 := fun w' (h : RowP w' w3.heap.size N (.slice x3 N.kids.length c3) (.slice y3 m3 d3) true) => h.cells.1
        have rp1 := fun w' (h : RowP w' w3.heap.size N (.slice x3 N.kids.length c3) (.slice y3 m3 d3) true) => h.cells.2.1
        have rp2 := fun w' (h : RowP w' w3.heap.size N (.slice x3 N.kids.length c3) (.slice y3 m3 d3) true) => h.cells.2.2.1
        have rp3 := fun w' (h : RowP w' w3.heap.size N (.slice x3 N.kids.length c3) (.slice y3 m3 d3) true) => h.cells.2.2.2.1
        have rp4 := fun w' (h : RowP w' w3.heap.size N (.slice x3 N.kids.length c3) (.slice y3 m3 d3) true) => h.cells.2.2.2.2.1
        have rp5 := fun w' (h : RowP w' w3.heap.size N (.slice x3 N.kids.length c3) (.slice y3 m3 d3) true) => h.cells.2.2.2.2.2.1
        have rp6 := fun w' (h : RowP w' w3.heap.size N (.slice x3 N.kids.length c3) (.slice y3 m3 d3) true) => h.cells.2.2.2.2.2.2.1
        clear h2 hn4 hN4 hlT hrT hW3 e0 e1 e2 e3 e4 e5 e6 e7 z
        go_wp2_with fail
        go_region_held3 (fun w' => RowX w' w.heap.size y ∧ Cells6 w' b (o + k * 6) n (.slice x n.kids.length c) ∧ RowP w' w3.heap.size N (.slice x3 N.kids.length c3) (.slice y3 m3 d3) true)
          (first
            | with_reducible exact HS3.out
            | with_reducible exact HS0.out
            | with_reducible exact HSA.out
            | exact ⟨HS3.out.1.keep (other8 _ _ _ _ _ _ _ _ _ _ _ hne1), HS3.out.2.1.same (other8 _ _ _ _ _ _ _ _ _ _ _ hne2), HS3.out.2.2.keep (other8 _ _ _ _ _ _ _ _ _ _ _ hne3)⟩)
          (first
            | (go_at_call 53; refine H2.out.mono ?_; rintro e w6 ⟨hb6, T, x6, c6, y6, m6, d6, rfl, hq6⟩; have HS3 := Lib.hid (show RowX w6 w.heap.size y ∧ Cells6 w6 b (o + k * 6) n (.slice x n.kids.length c) ∧ RowP w6 w3.heap.size N (.slice x3 N.kids.length c3) (.slice y3 m3 d3) true from ⟨HSA.out.1.below hb6, HSA.out.2.1.below hb6, HSA.out.2.2.below hb6⟩); have HP6 := Lib.hid (HP5.out.below hb6); obtain ⟨e0, e1, e2, e3, e4, e5, e6, e7⟩ := HP6.out.cells; have z := HP6.out.frozen; have HB6 := Lib.hid hb6; have HQ6 := Lib.hid hq6; clear hb6 hq6; unfold partV))
        go_wp2_with fail
        obtain ⟨wN, hwN, hN9, ho9, hz9, ho1, ho2, ho3⟩ := store_part HP6.out (.int .i64 T.kind) (.int .i64 T.form) (.string T.text) (.int .i64 T.line) (.int .i64 T.col) (.slice x6 T.kids.length c6) (.slice y6 m6 d6) (.bool (!R.2.2))
        rw [hwN]
        refine bodyPost_ret (results_cell_row rfl _ _ (w.heap.size + 1) 68 _ (0, 0) _ rfl hN9 Tryd.underlying68 rfl (by kernel_rfl)) rfl ?_
        exact ⟨below_fresh (Below.then HB5.out HB6.out) (g := w.heap.size + 1) (by omega) ho9 hz9 ho1 ho2 ho3, T, x6, c6, y6, m6, d6, rfl, fun h => ⟨(HQ6.out h).1, ((HQ6.out h).2.1.keep (fun j _ hP => ho9 j (by have h : j < W0.heap.size ∨ w.heap.size + 2 ≤ j := hP; omega))).mono (fun j _ hP => by have h : j < W0.heap.size ∨ w.heap.size + 2 ≤ j := hP; omega), (HQ6.out h).2.2⟩⟩
  · have t1 : (n.kind != 19) = true := by rw [bne_iff_ne]; exact h19
    have HP := Lib.hid (show R = pGo env ks f y n (k + 1) false by rw [HPS.out, if_neg h19])
    have HRO := Lib.hid (show rowOk false (ks.drop (k + 1)) = true by
      have h := HRW.out
      by_cases h18 : n.kind = 18
      · rw [rowOk_o _ _ h18] at h; cases h
      · rw [rowOk_n _ _ h19 h18] at h; exact h)
    clear h19
    have rx0 := fun w' (h : RowX w' w.heap.size y) => h.cells.1
    have rx1 := fun w' (h : RowX w' w.heap.size y) => h.cells.2.1
    have rx2 := fun w' (h : RowX w' w.heap.size y) => h.cells.2.2
    have u0 := fun w' (h : Cells6 w' b (o + k * 6) n (.slice x n.kids.length c)) => h.c0
    have u1 := fun w' (h : Cells6 w' b (o + k * 6) n (.slice x n.kids.length c)) => h.c1
    have u2 := fun w' (h : Cells6 w' b (o + k * 6) n (.slice x n.kids.length c)) => h.c2
    have u3 := fun w' (h : Cells6 w' b (o + k * 6) n (.slice x n.kids.length c)) => h.c3
    have u4 := fun w' (h : Cells6 w' b (o + k * 6) n (.slice x n.kids.length c)) => h.c4
    have u5 := fun w' (h : Cells6 w' b (o + k * 6) n (.slice x n.kids.length c)) => h.c5
    by_cases hc1 : cap = 1
    · subst hc1
      obtain rfl : m = 0 := by omega
      go_enter Tryd.func39, Tryd.ntmps39
      go_wp2_with fail
      have H2 := Lib.hid (HTH.out y n (.slice x n.kids.length c) (k + 1) (.slice (some ⟨b, o + k * 6, none⟩) 0 0) ((w.alloc (.cells #[.string y.op, .int .i64 y.side, .int .i64 y.prec] 25)).alloc (.cells #[.int .i64 0, .int .i64 0, .string ⟨#[]⟩, .int .i64 0, .int .i64 0, .slice none 0 0, .slice none 0 0, .bool false] 68)).drew.heap.size ((w.alloc (.cells #[.string y.op, .int .i64 y.side, .int .i64 y.prec] 25)).alloc (.cells #[.int .i64 0, .int .i64 0, .string ⟨#[]⟩, .int .i64 0, .int .i64 0, .slice none 0 0, .slice none 0 0, .bool false] 68)).drew (by omega) HRO.out (by omega) HW2.out (by have h := HW2.out.size; exact h) (Nat.le_refl _) HL2.out ⟨some ⟨b, o + k * 6, none⟩, 0, by rw [show ks.length - (k + 1) = 0 from by have := HM.out; omega], fun h => by have := HM.out; omega, by have := HM.out; omega, Nat.zero_le _⟩)
      rw [← HP.out] at H2
      go_region_held3 (fun w' => RowX w' w.heap.size y ∧ Cells6 w' b (o + k * 6) n (.slice x n.kids.length c))
        (first
          | with_reducible exact HS3.out
          | with_reducible exact HS0.out
          | exact ⟨HS3.out.1.keep (other8 _ _ _ _ _ _ _ _ _ _ _ hne1), HS3.out.2.same (other8 _ _ _ _ _ _ _ _ _ _ _ hne2)⟩)
        (first
          | (go_at_call 53; refine H2.out.mono ?_; rintro e w3 ⟨hb3, T, x3, c3, y3, m3, d3, rfl, hq3⟩; have HS3 := Lib.hid (show RowX w3 w.heap.size y ∧ Cells6 w3 b (o + k * 6) n (.slice x n.kids.length c) from ⟨HS0.out.1.below hb3, HS0.out.2.below hb3⟩); have HP3 := Lib.hid (HP0.out.below hb3); obtain ⟨e0, e1, e2, e3, e4, e5, e6, e7⟩ := HP3.out.cells; have z := HP3.out.frozen; have HB3 := Lib.hid hb3; have HQ3 := Lib.hid hq3; clear hb3 hq3; unfold partV))
      go_wp2_with fail
      obtain ⟨wN, hwN, hN9, ho9, hz9, ho1, ho2, ho3⟩ := store_part HP3.out (.int .i64 T.kind) (.int .i64 T.form) (.string T.text) (.int .i64 T.line) (.int .i64 T.col) (.slice x3 T.kids.length c3) (.slice y3 m3 d3) (.bool (!R.2.2))
      rw [hwN]
      refine bodyPost_ret (results_cell_row rfl _ _ (w.heap.size + 1) 68 _ (0, 0) _ rfl hN9 Tryd.underlying68 rfl (by kernel_rfl)) rfl ?_
      exact ⟨below_fresh (Below.then HB2.out.drew HB3.out) (g := w.heap.size + 1) (by omega) ho9 hz9 ho1 ho2 ho3, T, x3, c3, y3, m3, d3, rfl, fun h => ⟨(HQ3.out h).1, ((HQ3.out h).2.1.keep (fun j _ hP => ho9 j (by have h : j < W0.heap.size ∨ ((w.alloc (.cells #[.string y.op, .int .i64 y.side, .int .i64 y.prec] 25)).alloc (.cells #[.int .i64 0, .int .i64 0, .string ⟨#[]⟩, .int .i64 0, .int .i64 0, .slice none 0 0, .slice none 0 0, .bool false] 68)).drew.heap.size ≤ j := hP; simp at h; omega))).mono (fun j _ hP => by have h : j < W0.heap.size ∨ ((w.alloc (.cells #[.string y.op, .int .i64 y.side, .int .i64 y.prec] 25)).alloc (.cells #[.int .i64 0, .int .i64 0, .string ⟨#[]⟩, .int .i64 0, .int .i64 0, .slice none 0 0, .slice none 0 0, .bool false] 68)).drew.heap.size ≤ j := hP; simp at h; omega), (HQ3.out h).2.2⟩⟩
    · have hc1 : 1 < cap := by omega
      have hc2 : (1 : Int) ≤ (cap : Int) := by omega
      have hc3 : (1 : Int) ≤ (m : Int) + 1 := by omega
      have hc4 : ¬ cap = 1 := by omega
      have hc5 : (m : Int) + 1 ≤ cap := by omega
      go_enter Tryd.func39, Tryd.ntmps39
      go_wp2_with fail
      have H2 := Lib.hid (HTH.out y n (.slice x n.kids.length c) (k + 1) (.slice (some ⟨b, o + k * 6 + 6, none⟩) m (cap - 1)) ((w.alloc (.cells #[.string y.op, .int .i64 y.side, .int .i64 y.prec] 25)).alloc (.cells #[.int .i64 0, .int .i64 0, .string ⟨#[]⟩, .int .i64 0, .int .i64 0, .slice none 0 0, .slice none 0 0, .bool false] 68)).drew.heap.size ((w.alloc (.cells #[.string y.op, .int .i64 y.side, .int .i64 y.prec] 25)).alloc (.cells #[.int .i64 0, .int .i64 0, .string ⟨#[]⟩, .int .i64 0, .int .i64 0, .slice none 0 0, .slice none 0 0, .bool false] 68)).drew (by omega) HRO.out (by omega) HW2.out (by have h := HW2.out.size; exact h) (Nat.le_refl _) HL2.out ⟨some ⟨b, o + k * 6 + 6, none⟩, cap - 1, by rw [show ks.length - (k + 1) = m from by have := HM.out; omega], fun _ => by rw [show o + (k + 1) * 6 = o + k * 6 + 6 from by omega], by have := HM.out; omega, by unfold maxLen; omega⟩)
      rw [← HP.out] at H2
      go_region_held3 (fun w' => RowX w' w.heap.size y ∧ Cells6 w' b (o + k * 6) n (.slice x n.kids.length c))
        (first
          | with_reducible exact HS3.out
          | with_reducible exact HS0.out
          | exact ⟨HS3.out.1.keep (other8 _ _ _ _ _ _ _ _ _ _ _ hne1), HS3.out.2.same (other8 _ _ _ _ _ _ _ _ _ _ _ hne2)⟩)
        (first
          | (go_at_call 53; refine H2.out.mono ?_; rintro e w3 ⟨hb3, T, x3, c3, y3, m3, d3, rfl, hq3⟩; have HS3 := Lib.hid (show RowX w3 w.heap.size y ∧ Cells6 w3 b (o + k * 6) n (.slice x n.kids.length c) from ⟨HS0.out.1.below hb3, HS0.out.2.below hb3⟩); have HP3 := Lib.hid (HP0.out.below hb3); obtain ⟨e0, e1, e2, e3, e4, e5, e6, e7⟩ := HP3.out.cells; have z := HP3.out.frozen; have HB3 := Lib.hid hb3; have HQ3 := Lib.hid hq3; clear hb3 hq3; unfold partV))
      go_wp2_with fail
      obtain ⟨wN, hwN, hN9, ho9, hz9, ho1, ho2, ho3⟩ := store_part HP3.out (.int .i64 T.kind) (.int .i64 T.form) (.string T.text) (.int .i64 T.line) (.int .i64 T.col) (.slice x3 T.kids.length c3) (.slice y3 m3 d3) (.bool (!R.2.2))
      rw [hwN]
      refine bodyPost_ret (results_cell_row rfl _ _ (w.heap.size + 1) 68 _ (0, 0) _ rfl hN9 Tryd.underlying68 rfl (by kernel_rfl)) rfl ?_
      exact ⟨below_fresh (Below.then HB2.out.drew HB3.out) (g := w.heap.size + 1) (by omega) ho9 hz9 ho1 ho2 ho3, T, x3, c3, y3, m3, d3, rfl, fun h => ⟨(HQ3.out h).1, ((HQ3.out h).2.1.keep (fun j _ hP => ho9 j (by have h : j < W0.heap.size ∨ ((w.alloc (.cells #[.string y.op, .int .i64 y.side, .int .i64 y.prec] 25)).alloc (.cells #[.int .i64 0, .int .i64 0, .string ⟨#[]⟩, .int .i64 0, .int .i64 0, .slice none 0 0, .slice none 0 0, .bool false] 68)).drew.heap.size ≤ j := hP; simp at h; omega))).mono (fun j _ hP => by have h : j < W0.heap.size ∨ ((w.alloc (.cells #[.string y.op, .int .i64 y.side, .int .i64 y.prec] 25)).alloc (.cells #[.int .i64 0, .int .i64 0, .string ⟨#[]⟩, .int .i64 0, .int .i64 0, .slice none 0 0, .slice none 0 0, .bool false] 68)).drew.heap.size ≤ j := hP; simp at h; omega), (HQ3.out h).2.2⟩⟩

#print axioms first_step
end Go.Proofs.YtikkdkacflkifaaDoor
