/- DERIVED. The reader of literals, in memory. -/
import Derived.Test.YtmgnpgbganjgfaaDoorQuoteP
import Derived.Test.YtmgnpgbganjgfaaDoorBase
import Derived.ProofKit
set_option linter.unusedSimpArgs false
set_option linter.unusedVariables false
namespace Go.Proofs.YtmgnpgbganjgfaaDoor
open Go.RowKit

def intC (c : Int) : Value := .int .i64 c
def pairC (g : Nat × Nat) : List Value := [.int .i64 g.1, .int .i64 g.2]
/-- The cells of the reader. -/
def rdC (s : ByteArray) (k : Int) (text : Bool) (vo vg : Value) : Array Value := #[.string s, .int .i64 k, .bool text, vo, vg]
/-- A reader that the call has made: at which byte it is, what it has read. -/
def Rd (W0 : World) (b : Nat) (s : ByteArray) (k : Int) (text : Bool) (out : List Int) (gaps : List (Nat × Nat)) (vo vg : Value) (w : World) : Prop :=
  w.heap[b]? = some (.cells (rdC s k text vo vg) 41 (0, 0)) ∧ W0.heap.size ≤ b ∧ Below W0.heap.size W0 w ∧
    w.ownsRow W0.heap.size 3 1 vo out.length (out.map intC) ∧ w.ownsRow W0.heap.size 57 2 vg gaps.length (gaps.flatMap pairC)
theorem Rd.lt {W0 : World} {b : Nat} {s : ByteArray} {k : Int} {text : Bool} {out : List Int} {gaps : List (Nat × Nat)} {vo vg : Value} {w : World} (h : Rd W0 b s k text out gaps vo vg w) : b < w.heap.size := (Array.getElem?_eq_some_iff.1 h.1).1
theorem rd_cells {b : Nat} {s : ByteArray} {k : Int} {text : Bool} {vo vg : Value} {w : World} (h : w.heap[b]? = some (.cells (rdC s k text vo vg) 41 (0, 0))) :
    w.cell? ⟨b, 0, none⟩ = some (.string s) ∧ w.cell? ⟨b, 1, none⟩ = some (.int .i64 k) ∧ w.cell? ⟨b, 2, none⟩ = some (.bool text) ∧ w.cell? ⟨b, 3, none⟩ = some vo ∧ w.cell? ⟨b, 4, none⟩ = some vg ∧
      ∀ j, w.frozen? ⟨b, j, none⟩ = false :=
  ⟨cell_of_row _ _ _ _ _ _ h, cell_of_row _ _ _ _ _ _ h, cell_of_row _ _ _ _ _ _ h, cell_of_row _ _ _ _ _ _ h, cell_of_row _ _ _ _ _ _ h, fun j => frozen_of_row _ _ _ _ _ h⟩
theorem Rd.cells {W0 : World} {b : Nat} {s : ByteArray} {k : Int} {text : Bool} {out : List Int} {gaps : List (Nat × Nat)} {vo vg : Value} {w : World} (h : Rd W0 b s k text out gaps vo vg w) :
    w.cell? ⟨b, 0, none⟩ = some (.string s) ∧ w.cell? ⟨b, 1, none⟩ = some (.int .i64 k) ∧ w.cell? ⟨b, 2, none⟩ = some (.bool text) ∧ w.cell? ⟨b, 3, none⟩ = some vo ∧ w.cell? ⟨b, 4, none⟩ = some vg ∧
      ∀ j, w.frozen? ⟨b, j, none⟩ = false := rd_cells h.1
theorem Rd.drew {W0 : World} {b : Nat} {s : ByteArray} {k : Int} {text : Bool} {out : List Int} {gaps : List (Nat × Nat)} {vo vg : Value} {w : World} (h : Rd W0 b s k text out gaps vo vg w) (n : Nat) : Rd W0 b s k text out gaps vo vg (w.drewN n) :=
  ⟨h.1, h.2.1, below_drewN h.2.2.1 n, h.2.2.2.1, h.2.2.2.2⟩
/-- A row of the call's own in another world, in which its block is as it was. -/
theorem row_keep {w w' : World} {B e size n : Nat} {v : Value} {xs : List Value} (h : w.ownsRow B e size v n xs) (hk : ∀ (g : Nat) (cur : Array Value), w.heap[g]? = some (.cells cur e (0, 0)) → w'.heap[g]? = w.heap[g]?) : w'.ownsRow B e size v n xs := by
  obtain ⟨hl, ⟨a, c⟩ | ⟨g, cap, cur, hv, hg, hgg, r⟩⟩ := h
  · exact ⟨hl, .inl ⟨a, c⟩⟩
  · exact ⟨hl, .inr ⟨g, cap, cur, hv, hg, (hk g cur hgg).trans hgg, r⟩⟩
/-- Behind a call that has left all older blocks as they were. -/
theorem Rd.keep {W0 : World} {b : Nat} {s : ByteArray} {k : Int} {text : Bool} {out : List Int} {gaps : List (Nat × Nat)} {vo vg : Value} {w w' : World} (h : Rd W0 b s k text out gaps vo vg w) (hb : Below w.heap.size w w') : Rd W0 b s k text out gaps vo vg w' := by
  refine ⟨(hb.block b h.lt).trans h.1, h.2.1, h.2.2.1.trans (hb.mono h.2.2.1.size), row_keep h.2.2.2.1 fun g cur hg => ?_, row_keep h.2.2.2.2 fun g cur hg => ?_⟩
  · exact hb.block g (Array.getElem?_eq_some_iff.1 hg).1
  · exact hb.block g (Array.getElem?_eq_some_iff.1 hg).1
theorem rd_types : (41 : Nat) ≠ 3 ∧ (41 : Nat) ≠ 57 ∧ (3 : Nat) ≠ 57 := by decide
theorem rd_other {w : World} {b g : Nat} {c cur : Array Value} {t e : TypeId} (h : w.heap[b]? = some (.cells c t (0, 0))) (hg : w.heap[g]? = some (.cells cur e (0, 0))) (hte : t ≠ e) : g ≠ b := by
  rintro rfl
  rw [h] at hg
  injection hg with hg
  injection hg with _ hg
  exact hte hg
/-- One of its fields is written. -/
theorem Rd.put {W0 : World} {b : Nat} {s : ByteArray} {k k' : Int} {text text' : Bool} {out : List Int} {gaps : List (Nat × Nat)} {vo vg : Value} {w : World} (h : Rd W0 b s k text out gaps vo vg w) (j : Nat) (v : Value)
    (he : (rdC s k text vo vg).setIfInBounds j v = rdC s k' text' vo vg) : Rd W0 b s k' text' out gaps vo vg (w.setCell ⟨b, j, none⟩ v) := by
  refine ⟨?_, h.2.1, h.2.2.1.setCell (p := ⟨b, j, none⟩) h.2.1 v, row_keep h.2.2.2.1 fun g cur hg => ?_, row_keep h.2.2.2.2 fun g cur hg => ?_⟩
  · rw [heap_setCell_same _ _ j _ _ _ h.1, he]
  · exact Below.heap_setCell w ⟨b, j, none⟩ _ g (rd_other h.1 hg rd_types.1)
  · exact Below.heap_setCell w ⟨b, j, none⟩ _ g (rd_other h.1 hg rd_types.2.1)
theorem Rd.go {W0 : World} {b : Nat} {s : ByteArray} {k : Int} {text : Bool} {out : List Int} {gaps : List (Nat × Nat)} {vo vg : Value} {w : World} (h : Rd W0 b s k text out gaps vo vg w) (k' : Int) : Rd W0 b s k' text out gaps vo vg (w.setCell ⟨b, 1, none⟩ (.int .i64 k')) := h.put 1 _ rfl
theorem Rd.kind {W0 : World} {b : Nat} {s : ByteArray} {k : Int} {text : Bool} {out : List Int} {gaps : List (Nat × Nat)} {vo vg : Value} {w : World} (h : Rd W0 b s k text out gaps vo vg w) (t' : Bool) : Rd W0 b s k t' out gaps vo vg (w.setCell ⟨b, 2, none⟩ (.bool t')) := h.put 2 _ rfl
theorem row_lt {w : World} {B e size n : Nat} {v : Value} {xs : List Value} (h : w.ownsRow B e size v n xs) : ∀ k, v.ownBlock = some k → B ≤ k ∧ k < w.heap.size := by
  intro k hk
  obtain ⟨_, ⟨rfl, _⟩ | ⟨g, cap, cur, rfl, hg, hgg, _⟩⟩ := h
  · cases hk
  · injection hk with hk
    subst hk
    exact ⟨hg, (Array.getElem?_eq_some_iff.1 hgg).1⟩
theorem row_shape {w : World} {B e size n : Nat} {v : Value} {xs : List Value} (h : w.ownsRow B e size v n xs) : ∃ a n c, v = .slice a n c := by
  obtain ⟨_, ⟨rfl, _⟩ | ⟨g, cap, cur, rfl, _⟩⟩ := h
  · exact ⟨_, _, _, rfl⟩
  · exact ⟨_, _, _, rfl⟩
theorem row_type {w : World} {B e size n b : Nat} {v : Value} {xs : List Value} {c : Array Value} {t : TypeId} (h : w.ownsRow B e size v n xs) (hb : w.heap[b]? = some (.cells c t (0, 0))) (hte : t ≠ e) : some b ≠ v.ownBlock := by
  intro hk
  obtain ⟨_, ⟨rfl, _⟩ | ⟨g, cap, cur, rfl, hg, hgg, _⟩⟩ := h
  · cases hk
  · injection hk with hk
    exact rd_other hb hgg hte hk.symm
/-- Behind an append to what has been read. -/
theorem Rd.outs {W0 : World} {b : Nat} {s : ByteArray} {k : Int} {text : Bool} {out : List Int} {gaps : List (Nat × Nat)} {vo vg v' : Value} {w w' : World} (h : Rd W0 b s k text out gaps vo vg w) (o : Obj) (c : Int)
    (hown : w'.ownsRow W0.heap.size 3 1 v' (out.length + 1) (out.map intC ++ [intC c])) (hg : (w.alloc o).grownBy w' vo.ownBlock) :
    w'.heap[b]? = some (.cells (rdC s k text vo vg) 41 (0, 0)) ∧ Rd W0 b s k text (out ++ [c]) gaps v' vg (w'.setCell ⟨b, 3, none⟩ v') := by
  have hlt := h.lt
  have hsz := h.2.2.1.size
  have hal : ∀ g, g < w.heap.size → (w.alloc o).heap[g]? = w.heap[g]? := fun g hg => Below.heap_alloc w o g hg
  have hbk : w'.heap[b]? = some (.cells (rdC s k text vo vg) 41 (0, 0)) := by
    rw [hg.block b (by simp; omega) (row_type h.2.2.2.1 h.1 rd_types.1), hal b hlt, h.1]
  refine ⟨hbk, ?_, h.2.1, ?_, ?_, ?_⟩
  · rw [heap_setCell_same _ _ 3 _ _ _ hbk]; rfl
  · exact (((h.2.2.1.alloc hsz o).grown hg (by simp; omega) (fun k hk => (row_lt h.2.2.2.1 k hk).1))).setCell (p := ⟨b, 3, none⟩) h.2.1 v'
  · rw [List.length_append, List.map_append]
    exact row_keep hown fun g cur hg => Below.heap_setCell w' ⟨b, 3, none⟩ _ g (rd_other hbk hg rd_types.1)
  · refine row_keep h.2.2.2.2 fun g cur hgc => ?_
    have hgl := (Array.getElem?_eq_some_iff.1 hgc).1
    rw [Below.heap_setCell w' ⟨b, 3, none⟩ _ g (rd_other h.1 hgc rd_types.2.1), hg.block g (by simp; omega) (row_type h.2.2.2.1 hgc (fun e => rd_types.2.2 e.symm)), hal g hgl]
/-- Behind an append to the gaps. -/
theorem Rd.gapd {W0 : World} {b : Nat} {s : ByteArray} {k : Int} {text : Bool} {out : List Int} {gaps : List (Nat × Nat)} {vo vg v' : Value} {w w' : World} (h : Rd W0 b s k text out gaps vo vg w) (o : Obj) (c : Nat × Nat)
    (hown : w'.ownsRow W0.heap.size 57 2 v' (gaps.length + 1) (gaps.flatMap pairC ++ pairC c)) (hg : (w.alloc o).grownBy w' vg.ownBlock) :
    w'.heap[b]? = some (.cells (rdC s k text vo vg) 41 (0, 0)) ∧ Rd W0 b s k text out (gaps ++ [c]) vo v' (w'.setCell ⟨b, 4, none⟩ v') := by
  have hlt := h.lt
  have hsz := h.2.2.1.size
  have hal : ∀ g, g < w.heap.size → (w.alloc o).heap[g]? = w.heap[g]? := fun g hg => Below.heap_alloc w o g hg
  have hbk : w'.heap[b]? = some (.cells (rdC s k text vo vg) 41 (0, 0)) := by
    rw [hg.block b (by simp; omega) (row_type h.2.2.2.2 h.1 rd_types.2.1), hal b hlt, h.1]
  refine ⟨hbk, ?_, h.2.1, ?_, ?_, ?_⟩
  · rw [heap_setCell_same _ _ 4 _ _ _ hbk]; rfl
  · exact (((h.2.2.1.alloc hsz o).grown hg (by simp; omega) (fun k hk => (row_lt h.2.2.2.2 k hk).1))).setCell (p := ⟨b, 4, none⟩) h.2.1 v'
  · refine row_keep h.2.2.2.1 fun g cur hgc => ?_
    have hgl := (Array.getElem?_eq_some_iff.1 hgc).1
    rw [Below.heap_setCell w' ⟨b, 4, none⟩ _ g (rd_other h.1 hgc rd_types.1), hg.block g (by simp; omega) (row_type h.2.2.2.2 hgc rd_types.2.2), hal g hgl]
  · rw [List.length_append, List.flatMap_append]
    simp only [List.flatMap_cons, List.flatMap_nil, List.append_nil]
    exact row_keep hown fun g cur hg => Below.heap_setCell w' ⟨b, 4, none⟩ _ g (rd_other hbk hg rd_types.2.1)
end Go.Proofs.YtmgnpgbganjgfaaDoor
