/- DERIVED. The walk of layer 16's awake. -/
import Derived.Test.YtikkdkacflkifaaDoorL16T
import Derived.Deep.DeepCutAuto
set_option linter.unusedSimpArgs false
set_option linter.unusedVariables false
namespace Go.Proofs.YtikkdkacflkifaaDoor
open Go.RowKit

/-- A block that holds xT is not one that holds an empty node. -/
theorem b0_ne {w : World} {b0 g : Nat} (h : RowN w b0 xT (.slice none 0 0)) (hz : RowN w g zeroT (.slice none 0 0)) : b0 ≠ g := by
  rintro rfl
  have h1 := h.cells.1
  rw [hz.cells.1] at h1
  cases h1
theorem fixes_nil (w : World) : Fixes w 0 0 [] := ⟨by simp, fun i h => by simp at h⟩
def ResPost (R : Tr × Int) (W : World) (e : Ending) (w' : World) : Prop := ∃ N x c, e = .returned (.tuple #[nodeV N (.slice x N.kids.length c), .int .i64 R.2]) ∧ N = R.1 ∧ Lies w' N (.slice x N.kids.length c) ∧ Below W.heap.size W w'
theorem res_any {T : Tr} {R : Tr × Int} (hT : resolveX [] T = R) (ht : ∀ (i : Nat) (h : i < T.kids.length), (T.kids[i]).mid.text.size ≤ 1152921504606846976) {W0 W : World} {kv : Value} (hTab : Tabs16 W0) (hb : Below W0.heap.size W0 W) (hl : Lies W T kv) :
    Calls Tryd.prog 18 #[.slice none 0 0, nodeV T kv] W (ResPost R W) := by
  refine (resolve_any [] T none 0 0 0 kv W ht (fun h => by simp at h) (fixes_nil W) hl (hTab.below hb)).mono ?_
  rintro e w' ⟨kv', rfl, hl', hb'⟩
  rw [hT] at hl' ⊢
  obtain ⟨x, c, rfl⟩ := hl'.shape
  exact ⟨R.1, x, c, rfl, rfl, hl', hb'⟩
theorem A1_res {W0 W : World} {g : Nat} (hTab : Tabs16 W0) (hb : Below W0.heap.size W0 W) (hl : Lies W A1 (.slice (some ⟨g, 0, none⟩) 5 5)) :
    Calls Tryd.prog 18 #[.slice none 0 0, .agg #[.int .i64 17, .int .i64 0, .string ⟨#[]⟩, .int .i64 0, .int .i64 0, .slice (some ⟨g, 0, none⟩) 5 5]] W (ResPost (nodeOf 20 [xT, operT ⟨#[43]⟩, nodeOf 20 [xT, operT ⟨#[42]⟩, xT]], 0) W) :=
  res_any a1_val (by decide +kernel) hTab hb hl
theorem A2_res {W0 W : World} {g : Nat} (hTab : Tabs16 W0) (hb : Below W0.heap.size W0 W) (hl : Lies W A2 (.slice (some ⟨g, 0, none⟩) 5 5)) :
    Calls Tryd.prog 18 #[.slice none 0 0, .agg #[.int .i64 17, .int .i64 0, .string ⟨#[]⟩, .int .i64 0, .int .i64 0, .slice (some ⟨g, 0, none⟩) 5 5]] W (ResPost (zeroT, 160) W) :=
  res_any a2_val (by decide +kernel) hTab hb hl
/-- What the first row is resolved to, in a variable. -/
def CutA (base : World) (s2 s3 : Value) (wx : World) : Prop := ∃ (g b o c : Nat) (N : Tr), s2 = .pointer (some ⟨g, 0, none⟩) ∧ s3 = .int .i64 0 ∧ N.kind = 20 ∧ N.kids.length = 3 ∧ RowN wx g N (.slice (some ⟨b, o, none⟩) N.kids.length c) ∧ wx.cell? ⟨b, o + 12, none⟩ = some (.int .i64 20) ∧ Below base.heap.size base wx
def CutB (base : World) (s5 : Value) (wx : World) : Prop := s5 = .int .i64 160 ∧ Below base.heap.size base wx

theorem three_kids {w : World} {N : Tr} {x : Option Addr} {c : Nat} (h : Lies w N (.slice x N.kids.length c)) (h3 : N.kids.length = 3) (h2 : ∀ h : 2 < N.kids.length, (N.kids[2]).kind = 20) :
    ∃ b o, x = some ⟨b, o, none⟩ ∧ w.cell? ⟨b, o + 12, none⟩ = some (.int .i64 20) := by
  obtain ⟨xa, cap, b, o, K, he, hx, hk⟩ := h.kidsOf
  simp only [Value.slice.injEq, true_and] at he
  obtain ⟨rfl, rfl⟩ := he
  have h1 := (hk 2 (by omega)).1.c0
  rw [h2 (by omega)] at h1
  exact ⟨b, o, hx (by omega), h1⟩
theorem cutA_new {base w5 : World} {N : Tr} {x5 : Option Addr} {c5 : Nat} (hN : N = nodeOf 20 [xT, operT ⟨#[43]⟩, nodeOf 20 [xT, operT ⟨#[42]⟩, xT]]) (hl : Lies w5 N (.slice x5 N.kids.length c5)) (hB : Below base.heap.size base w5) :
    CutA base (.pointer (some ⟨w5.heap.size, 0, none⟩)) (.int .i64 0) (w5.alloc (.cells #[.int .i64 N.kind, .int .i64 N.form, .string N.text, .int .i64 N.line, .int .i64 N.col, .slice x5 N.kids.length c5] 32)) := by
  have hk : N.kind = 20 := by rw [hN]; rfl
  have h3 : N.kids.length = 3 := by rw [hN]; rfl
  obtain ⟨b, o, rfl, hc⟩ := three_kids hl h3 (fun h => by subst hN; rfl)
  have hr := rowN_new w5 N (.slice (some ⟨b, o, none⟩) N.kids.length c5)
  exact ⟨w5.heap.size, b, o, c5, N, rfl, rfl, hk, h3, hr, (((Below.refl w5.heap.size w5).alloc (Nat.le_refl _) _).cell (p := ⟨b, o + 12, none⟩) (lt_of_cell hc)).trans hc, hB.alloc hB.size _⟩
theorem far_ne {w : World} {b o g : Nat} {v : Value} (hZ : RowN w g zeroT (.slice none 0 0)) (hc : w.cell? ⟨b, o + 12, none⟩ = some v) : b ≠ g := by
  intro e
  subst e
  have h := cell_of_row' w b (o + 12) _ _ _ hZ
  rw [h] at hc
  have h6 : ∀ (a0 a1 a2 a3 a4 a5 : Value), (#[a0, a1, a2, a3, a4, a5] : Array Value)[o + 12]? = none := fun _ _ _ _ _ _ => Array.getElem?_eq_none (by simp)
  rw [h6] at hc
  cases hc
theorem set6_cell {w : World} {b o g : Nat} {v : Value} (N : Tr) (kv : Value) (hne : b ≠ g) (hc : w.cell? ⟨b, o, none⟩ = some v) : (set6 w g N kv).cell? ⟨b, o, none⟩ = some v := by
  have e := set6_other w g N kv b hne
  generalize set6 w g N kv = X at *
  exact (World.cell?_of_block (w := w) e).trans hc
theorem cutA_set {base w5 : World} {N : Tr} {x5 : Option Addr} {c5 g : Nat} (hZ : RowN w5 g zeroT (.slice none 0 0)) (hN : N = nodeOf 20 [xT, operT ⟨#[43]⟩, nodeOf 20 [xT, operT ⟨#[42]⟩, xT]]) (hl : Lies w5 N (.slice x5 N.kids.length c5)) (hB : Below base.heap.size base w5) (hg : base.heap.size ≤ g) :
    CutA base (.pointer (some ⟨g, 0, none⟩)) (.int .i64 0) (set6 w5 g N (.slice x5 N.kids.length c5)) := by
  have hk : N.kind = 20 := by rw [hN]; rfl
  have h3 : N.kids.length = 3 := by rw [hN]; rfl
  obtain ⟨b, o, rfl, hc⟩ := three_kids hl h3 (fun h => by subst hN; rfl)
  have hne := far_ne hZ hc
  have hr := hZ.set N (.slice (some ⟨b, o, none⟩) N.kids.length c5)
  have h9 := set6_cell N (.slice (some ⟨b, o, none⟩) N.kids.length c5) hne hc
  have hB9 := set6_below hB g hg N (.slice (some ⟨b, o, none⟩) N.kids.length c5)
  clear hN hl
  generalize set6 w5 g N (.slice (some ⟨b, o, none⟩) N.kids.length c5) = X at *
  exact ⟨g, b, o, c5, N, rfl, rfl, hk, h3, hr, h9, hB9⟩
theorem cutB_new {base w5 : World} {N : Tr} {x5 : Option Addr} {c5 : Nat} {T : Tr} (_hN : N = T) (_hl : Lies w5 N (.slice x5 N.kids.length c5)) (hB : Below base.heap.size base w5) (o : Obj) :
    CutB base (.int .i64 160) (w5.alloc o) := ⟨rfl, hB.alloc hB.size _⟩
theorem cutB_set {base w5 : World} {N : Tr} {x5 : Option Addr} {c5 g : Nat} {T : Tr} (_hZ : RowN w5 g zeroT (.slice none 0 0)) (_hN : N = T) (_hl : Lies w5 N (.slice x5 N.kids.length c5)) (hB : Below base.heap.size base w5) (hg : base.heap.size ≤ g) :
    CutB base (.int .i64 160) (set6 w5 g N (.slice x5 N.kids.length c5)) := ⟨rfl, set6_below hB g hg _ _⟩
end Go.Proofs.YtikkdkacflkifaaDoor
