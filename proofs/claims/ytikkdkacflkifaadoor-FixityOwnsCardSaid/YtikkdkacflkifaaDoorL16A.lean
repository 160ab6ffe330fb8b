/- DERIVED. The walks of leaf and oper, of layer 16's law; rows of five. DERIVED. PLAIN: what layer 16's awake resolves. DERIVED. The walk of layer 16's awake. -/
import Derived.Test.YtikkdkacflkifaaDoorFixH
import Derived.Deep.DeepCutAuto
set_option linter.unusedSimpArgs false
set_option linter.unusedVariables false
namespace Go.Proofs.YtikkdkacflkifaaDoor
open Go.RowKit

def leafT (k : Int) (s : ByteArray) : Tr := .mk 1 k s 0 0 []
def operT (s : ByteArray) : Tr := .mk 18 0 ⟨#[]⟩ 0 0 [leafT 5 s]
set_option maxHeartbeats 1000000 in
theorem leaf_any (k : Int) (s : ByteArray) (w : World) : Calls Tryd.prog 22 #[.int .i64 k, .string s] w fun e w' => e = .returned (nodeV (leafT k s) (.slice none 0 0)) ∧ Below w.heap.size w w' := by
  have HR := Lib.hid (rowN_new w (leafT k s) (.slice none 0 0))
  have HB := Lib.hid ((Below.refl w.heap.size w).alloc (Nat.le_refl _) (.cells #[.int .i64 1, .int .i64 k, .string s, .int .i64 0, .int .i64 0, .slice none 0 0] 32))
  go_enter Tryd.func22, Tryd.ntmps22
  go_wp2_with fail
  refine bodyPost_ret (results_cell_row rfl _ _ w.heap.size 32 _ (0, 0) _ rfl HR.out Tryd.underlying32 rfl (by kernel_rfl)) rfl ?_
  exact ⟨rfl, HB.out⟩
/-- What oper answers. -/
def OperPost (s : ByteArray) (w : World) (e : Ending) (w' : World) : Prop := ∃ x c, e = .returned (nodeV (operT s) (.slice x 1 c)) ∧ Lies w' (operT s) (.slice x 1 c) ∧ Below w.heap.size w w'
theorem one_lies {P : Nat → Prop} {w : World} {n : Tr} {x : Option Addr} {c : Nat} (ty : TypeId) (k : Int) (hn : LiesP P w n (.slice x n.kids.length c)) (hP : P w.heap.size) :
    LiesP P (w.alloc (.cells #[.int .i64 n.kind, .int .i64 n.form, .string n.text, .int .i64 n.line, .int .i64 n.col, .slice x n.kids.length c] ty)) (nodeOf k [n]) (.slice (some ⟨w.heap.size, 0, none⟩) 1 1) := by
  have hnew := heap_alloc_new w (.cells #[.int .i64 n.kind, .int .i64 n.form, .string n.text, .int .i64 n.line, .int .i64 n.col, .slice x n.kids.length c] ty)
  have hkeep := fun j (hj : j < w.heap.size) (_ : P j) => Below.heap_alloc w (.cells #[.int .i64 n.kind, .int .i64 n.form, .string n.text, .int .i64 n.line, .int .i64 n.col, .slice x n.kids.length c] ty) j hj
  refine .mk k 0 ⟨#[]⟩ 0 0 [n] (some ⟨w.heap.size, 0, none⟩) 1 w.heap.size 0 (fun i => .slice x n.kids.length c) ⟨Nat.le_refl _, by decide +kernel⟩ (fun _ => ⟨rfl, hP⟩) (fun i h => ?_) (fun i h => ?_)
  · match i, h with
    | 0, _ => exact ⟨cell_of_row _ _ _ _ _ _ hnew, cell_of_row _ _ _ _ _ _ hnew, cell_of_row _ _ _ _ _ _ hnew, cell_of_row _ _ _ _ _ _ hnew, cell_of_row _ _ _ _ _ _ hnew, cell_of_row _ _ _ _ _ _ hnew⟩
  · match i, h with
    | 0, _ => exact hn.keep hkeep
set_option maxHeartbeats 1000000 in
theorem oper_any (s : ByteArray) (w : World) : Calls Tryd.prog 23 #[.string s] w (OperPost s w) := by
  have HZ := Lib.hid (rowN_new w zeroT (.slice none 0 0))
  have HB := Lib.hid ((Below.refl w.heap.size w).alloc (Nat.le_refl _) (.cells #[.int .i64 0, .int .i64 0, .string ⟨#[]⟩, .int .i64 0, .int .i64 0, .slice none 0 0] 32))
  go_enter Tryd.func23, Tryd.ntmps23
  go_wp2_with fail
  refine (leaf_any 5 s _).mono ?_
  rintro e w1 ⟨rfl, hb1⟩
  have HZ1 := Lib.hid (show RowN w1 w.heap.size zeroT (.slice none 0 0) from HZ.out.keep (hb1.block w.heap.size (by simp)))
  have HB1 := Lib.hid (Below.then HB.out hb1)
  have hlt : w.heap.size < w1.heap.size := HZ1.out.lt
  obtain ⟨e0, e1, e2, e3, e4, e5⟩ := HZ1.out.cells
  have z := HZ1.out.frozen
  clear hb1
  unfold nodeV
  go_wp2_with fail
  obtain ⟨wN, hwN, hR9, ho9, hz9, ho1, ho2, ho3⟩ := store_node HZ1.out 18 0 0 0 ⟨#[]⟩ (.slice (some ⟨w1.heap.size, 0, none⟩) 1 1)
  rw [hwN]
  have HN9 := (hR9 (operT s) rfl rfl rfl rfl rfl).alloc (.cells #[.int .i64 (leafT 5 s).kind, .int .i64 (leafT 5 s).form, .string (leafT 5 s).text, .int .i64 (leafT 5 s).line, .int .i64 (leafT 5 s).col, .slice none 0 0] 32)
  have hB9 := (below_fresh HB1.out (g := w.heap.size) (Nat.le_refl _) ho9 hz9 ho1 ho2 ho3).alloc (by rw [hz9]; omega) (.cells #[.int .i64 (leafT 5 s).kind, .int .i64 (leafT 5 s).form, .string (leafT 5 s).text, .int .i64 (leafT 5 s).line, .int .i64 (leafT 5 s).col, .slice none 0 0] 32)
  have hL9 : Lies (wN.alloc (.cells #[.int .i64 (leafT 5 s).kind, .int .i64 (leafT 5 s).form, .string (leafT 5 s).text, .int .i64 (leafT 5 s).line, .int .i64 (leafT 5 s).col, .slice none 0 0] 32)) (operT s) (.slice (some ⟨w1.heap.size, 0, none⟩) 1 1) := by
    have h := (one_lies (P := fun _ => True) 32 18 (show LiesP (fun _ => True) wN (leafT 5 s) (.slice none (leafT 5 s).kids.length 0) from LiesP.leaf 1 5 s 0 0) trivial).lies
    rw [hz9] at h
    exact h
  refine bodyPost_ret (results_cell_row rfl _ _ w.heap.size 32 _ (0, 0) _ rfl HN9 Tryd.underlying32 rfl (by kernel_rfl)) rfl ?_
  exact ⟨some ⟨w1.heap.size, 0, none⟩, 1, rfl, hL9, hB9⟩
theorem five_lies {w : World} {n1 n2 n3 n4 n5 : Tr} {x1 x2 x3 x4 x5 : Option Addr} {c1 c2 c3 c4 c5 : Nat} (ty : TypeId) (k : Int) (h1 : Lies w n1 (.slice x1 n1.kids.length c1)) (h2 : Lies w n2 (.slice x2 n2.kids.length c2)) (h3 : Lies w n3 (.slice x3 n3.kids.length c3)) (h4 : Lies w n4 (.slice x4 n4.kids.length c4)) (h5 : Lies w n5 (.slice x5 n5.kids.length c5)) :
    Lies (w.alloc (.cells #[.int .i64 n1.kind, .int .i64 n1.form, .string n1.text, .int .i64 n1.line, .int .i64 n1.col, .slice x1 n1.kids.length c1, .int .i64 n2.kind, .int .i64 n2.form, .string n2.text, .int .i64 n2.line, .int .i64 n2.col, .slice x2 n2.kids.length c2, .int .i64 n3.kind, .int .i64 n3.form, .string n3.text, .int .i64 n3.line, .int .i64 n3.col, .slice x3 n3.kids.length c3, .int .i64 n4.kind, .int .i64 n4.form, .string n4.text, .int .i64 n4.line, .int .i64 n4.col, .slice x4 n4.kids.length c4, .int .i64 n5.kind, .int .i64 n5.form, .string n5.text, .int .i64 n5.line, .int .i64 n5.col, .slice x5 n5.kids.length c5] ty)) (nodeOf k [n1, n2, n3, n4, n5]) (.slice (some ⟨w.heap.size, 0, none⟩) 5 5) := by
  have hnew := heap_alloc_new w (.cells #[.int .i64 n1.kind, .int .i64 n1.form, .string n1.text, .int .i64 n1.line, .int .i64 n1.col, .slice x1 n1.kids.length c1, .int .i64 n2.kind, .int .i64 n2.form, .string n2.text, .int .i64 n2.line, .int .i64 n2.col, .slice x2 n2.kids.length c2, .int .i64 n3.kind, .int .i64 n3.form, .string n3.text, .int .i64 n3.line, .int .i64 n3.col, .slice x3 n3.kids.length c3, .int .i64 n4.kind, .int .i64 n4.form, .string n4.text, .int .i64 n4.line, .int .i64 n4.col, .slice x4 n4.kids.length c4, .int .i64 n5.kind, .int .i64 n5.form, .string n5.text, .int .i64 n5.line, .int .i64 n5.col, .slice x5 n5.kids.length c5] ty)
  have hkeep := (Below.refl w.heap.size w).alloc (Nat.le_refl _) (.cells #[.int .i64 n1.kind, .int .i64 n1.form, .string n1.text, .int .i64 n1.line, .int .i64 n1.col, .slice x1 n1.kids.length c1, .int .i64 n2.kind, .int .i64 n2.form, .string n2.text, .int .i64 n2.line, .int .i64 n2.col, .slice x2 n2.kids.length c2, .int .i64 n3.kind, .int .i64 n3.form, .string n3.text, .int .i64 n3.line, .int .i64 n3.col, .slice x3 n3.kids.length c3, .int .i64 n4.kind, .int .i64 n4.form, .string n4.text, .int .i64 n4.line, .int .i64 n4.col, .slice x4 n4.kids.length c4, .int .i64 n5.kind, .int .i64 n5.form, .string n5.text, .int .i64 n5.line, .int .i64 n5.col, .slice x5 n5.kids.length c5] ty)
  refine Lies.mk k 0 ⟨#[]⟩ 0 0 [n1, n2, n3, n4, n5] (some ⟨w.heap.size, 0, none⟩) 5 w.heap.size 0 (fun i => if i = 0 then .slice x1 n1.kids.length c1 else if i = 1 then .slice x2 n2.kids.length c2 else if i = 2 then .slice x3 n3.kids.length c3 else if i = 3 then .slice x4 n4.kids.length c4 else .slice x5 n5.kids.length c5) ⟨Nat.le_refl _, by decide +kernel⟩ (fun _ => rfl) (fun i h => ?_) (fun i h => ?_)
  · match i, h with
    | 0, _ => exact ⟨cell_of_row _ _ _ _ _ _ hnew, cell_of_row _ _ _ _ _ _ hnew, cell_of_row _ _ _ _ _ _ hnew, cell_of_row _ _ _ _ _ _ hnew, cell_of_row _ _ _ _ _ _ hnew, cell_of_row _ _ _ _ _ _ hnew⟩
    | 1, _ => exact ⟨cell_of_row _ _ _ _ _ _ hnew, cell_of_row _ _ _ _ _ _ hnew, cell_of_row _ _ _ _ _ _ hnew, cell_of_row _ _ _ _ _ _ hnew, cell_of_row _ _ _ _ _ _ hnew, cell_of_row _ _ _ _ _ _ hnew⟩
    | 2, _ => exact ⟨cell_of_row _ _ _ _ _ _ hnew, cell_of_row _ _ _ _ _ _ hnew, cell_of_row _ _ _ _ _ _ hnew, cell_of_row _ _ _ _ _ _ hnew, cell_of_row _ _ _ _ _ _ hnew, cell_of_row _ _ _ _ _ _ hnew⟩
    | 3, _ => exact ⟨cell_of_row _ _ _ _ _ _ hnew, cell_of_row _ _ _ _ _ _ hnew, cell_of_row _ _ _ _ _ _ hnew, cell_of_row _ _ _ _ _ _ hnew, cell_of_row _ _ _ _ _ _ hnew, cell_of_row _ _ _ _ _ _ hnew⟩
    | 4, _ => exact ⟨cell_of_row _ _ _ _ _ _ hnew, cell_of_row _ _ _ _ _ _ hnew, cell_of_row _ _ _ _ _ _ hnew, cell_of_row _ _ _ _ _ _ hnew, cell_of_row _ _ _ _ _ _ hnew, cell_of_row _ _ _ _ _ _ hnew⟩
  · match i, h with
    | 0, _ => exact h1.keep hkeep
    | 1, _ => exact h2.keep hkeep
    | 2, _ => exact h3.keep hkeep
    | 3, _ => exact h4.keep hkeep
    | 4, _ => exact h5.keep hkeep
end Go.Proofs.YtikkdkacflkifaaDoor

namespace Go.Proofs.YtikkdkacflkifaaDoor
open Go.RowKit

def xT : Tr := leafT 1 ⟨#[120]⟩
def A1 : Tr := nodeOf 17 [xT, operT ⟨#[43]⟩, xT, operT ⟨#[42]⟩, xT]
def A2 : Tr := nodeOf 17 [xT, operT ⟨#[61, 61]⟩, xT, operT ⟨#[61, 61]⟩, xT]
theorem a1_val : resolveX [] A1 = (nodeOf 20 [xT, operT ⟨#[43]⟩, nodeOf 20 [xT, operT ⟨#[42]⟩, xT]], 0) := by kernel_rfl
theorem a2_val : resolveX [] A2 = (zeroT, 160) := by kernel_rfl
end Go.Proofs.YtikkdkacflkifaaDoor

namespace Go.Proofs.YtikkdkacflkifaaDoor
open Go.RowKit

/-- A block that holds xT is not one that holds an empty node. -/
theorem b0_ne {w : World} {b0 g : Nat} (h : RowN w b0 xT (.slice none 0 0)) (hz : RowN w g zeroT (.slice none 0 0)) : b0 ≠ g := by
  rintro rfl
  have h1 := h.cells.1
  rw [hz.cells.1] at h1
  cases h1
theorem fixes_nil (w : World) : Fixes w 0 0 [] := ⟨by simp, fun i h => by simp at h⟩
def ResPost (R : Tr × Int) (W : World) (e : Ending) (w' : World) : Prop := ∃ N x c, e = .returned (.tuple #[nodeV N (.slice x N.kids.length c), .int .i64 R.2]) ∧ N = R.1 ∧ Lies w' N (.slice x N.kids.length c) ∧ Below W.heap.size W w'
theorem res_any {T : Tr} {R : Tr × Int} (hT : resolveX [] T = R) (ht : ∀ (i : Nat) (h : i < T.kids.length), (T.kids[i]).mid.text.size ≤ 1152921504606846976) {W0 W : World} {kv : Value} (hTab : Tabs16 W0) (hb : Below W0.heap.size W0 W) (hl : Lies W T kv) :
    Calls Tryd.prog 18 #[.slice none 0 0, nodeV T kv] W (ResPost R W) := by
  refine (resolve_any [] T none 0 0 0 kv W ht (fun h => by simp at h) (fixes_nil W) hl (hTab.below hb)).mono ?_
  rintro e w' ⟨kv', rfl, hl', hb'⟩
  rw [hT] at hl' ⊢
  obtain ⟨x, c, rfl⟩ := hl'.shape
  exact ⟨R.1, x, c, rfl, rfl, hl', hb'⟩
theorem A1_res {W0 W : World} {g : Nat} (hTab : Tabs16 W0) (hb : Below W0.heap.size W0 W) (hl : Lies W A1 (.slice (some ⟨g, 0, none⟩) 5 5)) :
    Calls Tryd.prog 18 #[.slice none 0 0, .agg #[.int .i64 17, .int .i64 0, .string ⟨#[]⟩, .int .i64 0, .int .i64 0, .slice (some ⟨g, 0, none⟩) 5 5]] W (ResPost (nodeOf 20 [xT, operT ⟨#[43]⟩, nodeOf 20 [xT, operT ⟨#[42]⟩, xT]], 0) W) :=
  res_any a1_val (by decide +kernel) hTab hb hl
theorem A2_res {W0 W : World} {g : Nat} (hTab : Tabs16 W0) (hb : Below W0.heap.size W0 W) (hl : Lies W A2 (.slice (some ⟨g, 0, none⟩) 5 5)) :
    Calls Tryd.prog 18 #[.slice none 0 0, .agg #[.int .i64 17, .int .i64 0, .string ⟨#[]⟩, .int .i64 0, .int .i64 0, .slice (some ⟨g, 0, none⟩) 5 5]] W (ResPost (zeroT, 160) W) :=
  res_any a2_val (by decide +kernel) hTab hb hl
/-- What the first row is resolved to, in a variable. -/
def CutA (base : World) (s2 s3 : Value) (wx : World) : Prop := ∃ (g b o c : Nat) (N : Tr), s2 = .pointer (some ⟨g, 0, none⟩) ∧ s3 = .int .i64 0 ∧ N.kind = 20 ∧ N.kids.length = 3 ∧ RowN wx g N (.slice (some ⟨b, o, none⟩) N.kids.length c) ∧ wx.cell? ⟨b, o + 12, none⟩ = some (.int .i64 20) ∧ Below base.heap.size base wx
def CutB (base : World) (s5 : Value) (wx : World) : Prop := s5 = .int .i64 160 ∧ Below base.heap.size base wx

theorem three_kids {w : World} {N : Tr} {x : Option Addr} {c : Nat} (h : Lies w N (.slice x N.kids.length c)) (h3 : N.kids.length = 3) (h2 : ∀ h : 2 < N.kids.length, (N.kids[2]).kind = 20) :
    ∃ b o, x = some ⟨b, o, none⟩ ∧ w.cell? ⟨b, o + 12, none⟩ = some (.int .i64 20) := by
  obtain ⟨xa, cap, b, o, K, he, hx, hk⟩ := h.kidsOf
  simp only [Value.slice.injEq, true_and] at he
  obtain ⟨rfl, rfl⟩ := he
  have h1 := (hk 2 (by omega)).1.c0
  rw [h2 (by omega)] at h1
  exact ⟨b, o, hx (by omega), h1⟩
theorem cutA_new {base w5 : World} {N : Tr} {x5 : Option Addr} {c5 : Nat} (hN : N = nodeOf 20 [xT, operT ⟨#[43]⟩, nodeOf 20 [xT, operT ⟨#[42]⟩, xT]]) (hl : Lies w5 N (.slice x5 N.kids.length c5)) (hB : Below base.heap.size base w5) :
    CutA base (.pointer (some ⟨w5.heap.size, 0, none⟩)) (.int .i64 0) (w5.alloc (.cells #[.int .i64 N.kind, .int .i64 N.form, .string N.text, .int .i64 N.line, .int .i64 N.col, .slice x5 N.kids.length c5] 32)) := by
  have hk : N.kind = 20 := by rw [hN]; rfl
  have h3 : N.kids.length = 3 := by rw [hN]; rfl
  obtain ⟨b, o, rfl, hc⟩ := three_kids hl h3 (fun h => by subst hN; rfl)
  have hr := rowN_new w5 N (.slice (some ⟨b, o, none⟩) N.kids.length c5)
  exact ⟨w5.heap.size, b, o, c5, N, rfl, rfl, hk, h3, hr, (((Below.refl w5.heap.size w5).alloc (Nat.le_refl _) _).cell (p := ⟨b, o + 12, none⟩) (lt_of_cell hc)).trans hc, hB.alloc hB.size _⟩
theorem far_ne {w : World} {b o g : Nat} {v : Value} (hZ : RowN w g zeroT (.slice none 0 0)) (hc : w.cell? ⟨b, o + 12, none⟩ = some v) : b ≠ g := by
  intro e
  subst e
  have h := cell_of_row' w b (o + 12) _ _ _ hZ
  rw [h] at hc
  have h6 : ∀ (a0 a1 a2 a3 a4 a5 : Value), (#[a0, a1, a2, a3, a4, a5] : Array Value)[o + 12]? = none := fun _ _ _ _ _ _ => Array.getElem?_eq_none (by simp)
  rw [h6] at hc
  cases hc
theorem set6_cell {w : World} {b o g : Nat} {v : Value} (N : Tr) (kv : Value) (hne : b ≠ g) (hc : w.cell? ⟨b, o, none⟩ = some v) : (set6 w g N kv).cell? ⟨b, o, none⟩ = some v := by
  have e := set6_other w g N kv b hne
  generalize set6 w g N kv = X at *
  exact (World.cell?_of_block (w := w) e).trans hc
theorem cutA_set {base w5 : World} {N : Tr} {x5 : Option Addr} {c5 g : Nat} (hZ : RowN w5 g zeroT (.slice none 0 0)) (hN : N = nodeOf 20 [xT, operT ⟨#[43]⟩, nodeOf 20 [xT, operT ⟨#[42]⟩, xT]]) (hl : Lies w5 N (.slice x5 N.kids.length c5)) (hB : Below base.heap.size base w5) (hg : base.heap.size ≤ g) :
    CutA base (.pointer (some ⟨g, 0, none⟩)) (.int .i64 0) (set6 w5 g N (.slice x5 N.kids.length c5)) := by
  have hk : N.kind = 20 := by rw [hN]; rfl
  have h3 : N.kids.length = 3 := by rw [hN]; rfl
  obtain ⟨b, o, rfl, hc⟩ := three_kids hl h3 (fun h => by subst hN; rfl)
  have hne := far_ne hZ hc
  have hr := hZ.set N (.slice (some ⟨b, o, none⟩) N.kids.length c5)
  have h9 := set6_cell N (.slice (some ⟨b, o, none⟩) N.kids.length c5) hne hc
  have hB9 := set6_below hB g hg N (.slice (some ⟨b, o, none⟩) N.kids.length c5)
  clear hN hl
  generalize set6 w5 g N (.slice (some ⟨b, o, none⟩) N.kids.length c5) = X at *
  exact ⟨g, b, o, c5, N, rfl, rfl, hk, h3, hr, h9, hB9⟩
theorem cutB_new {base w5 : World} {N : Tr} {x5 : Option Addr} {c5 : Nat} {T : Tr} (_hN : N = T) (_hl : Lies w5 N (.slice x5 N.kids.length c5)) (hB : Below base.heap.size base w5) (o : Obj) :
    CutB base (.int .i64 160) (w5.alloc o) := ⟨rfl, hB.alloc hB.size _⟩
theorem cutB_set {base w5 : World} {N : Tr} {x5 : Option Addr} {c5 g : Nat} {T : Tr} (_hZ : RowN w5 g zeroT (.slice none 0 0)) (_hN : N = T) (_hl : Lies w5 N (.slice x5 N.kids.length c5)) (hB : Below base.heap.size base w5) (hg : base.heap.size ≤ g) :
    CutB base (.int .i64 160) (set6 w5 g N (.slice x5 N.kids.length c5)) := ⟨rfl, set6_below hB g hg _ _⟩
end Go.Proofs.YtikkdkacflkifaaDoor

