/- DERIVED. Fixities: plain, and rows of them in memory. -/
import Derived.Test.YtikkdkacflkifaaDoorBase
import Derived.Lib.Strings
import Derived.Lib.FieldsLaws
import Derived.Deep.AppendLies
set_option linter.unusedSimpArgs false
set_option linter.unusedVariables false
namespace Go.Proofs.YtikkdkacflkifaaDoor
open Go.RowKit

structure Fx where
  op : ByteArray
  side : Int
  prec : Int
def fxCells (x : Fx) : List Value := [.string x.op, .int .i64 x.side, .int .i64 x.prec]
def fxV (x : Fx) : Value := .agg #[.string x.op, .int .i64 x.side, .int .i64 x.prec]
/-- May a fixity be? -/
def Fx.ok (x : Fx) : Bool := decide (0 ≤ x.prec) && (decide (x.prec ≤ 9) && (decide (1 ≤ x.side) && decide (x.side ≤ 3)))
/-- The ranks: side, precedence, names with blanks between. -/
def ranksL : List (Int × Int × ByteArray) :=
  [(2, 9, ⟨#[46]⟩), (1, 9, ⟨#[33, 33]⟩), (2, 8, ⟨#[94, 32, 94, 94, 32, 42, 42]⟩), (1, 7, ⟨#[42, 32, 47, 32, 113, 117, 111, 116, 32, 114, 101, 109, 32, 100, 105, 118, 32, 109, 111, 100]⟩),
   (1, 6, ⟨#[43, 32, 45]⟩), (2, 5, ⟨#[58, 32, 43, 43]⟩), (3, 4, ⟨#[61, 61, 32, 47, 61, 32, 60, 32, 60, 61, 32, 62, 61, 32, 62, 32, 101, 108, 101, 109, 32, 110, 111, 116, 69, 108, 101, 109]⟩), (2, 3, ⟨#[38, 38]⟩),
   (2, 2, ⟨#[124, 124]⟩), (1, 1, ⟨#[62, 62, 32, 62, 62, 61]⟩), (2, 1, ⟨#[61, 60, 60]⟩), (2, 0, ⟨#[36, 32, 36, 33, 32, 115, 101, 113]⟩)]
def rankF (r : Int × Int × ByteArray) : List Fx := (Lib.fields r.2.2.data.toList).map fun l => ⟨⟨l.toArray⟩, r.1, r.2.1⟩
/-- What is known without being told. -/
def knownL : List Fx := ranksL.flatMap rankF
theorem known_len : knownL.length = 31 := by decide +kernel

/-- One fixity, from an address on. -/
structure FixAt (w : World) (b o : Nat) (x : Fx) : Prop where
  c0 : w.cell? ⟨b, o, none⟩ = some (.string x.op)
  c1 : w.cell? ⟨b, o + 1, none⟩ = some (.int .i64 x.side)
  c2 : w.cell? ⟨b, o + 2, none⟩ = some (.int .i64 x.prec)
theorem FixAt.below {w w' : World} {b o : Nat} {x : Fx} (h : FixAt w b o x) (hb : Below w.heap.size w w') : FixAt w' b o x := by
  have hl : b < w.heap.size := lt_of_cell h.c0
  exact ⟨(hb.cell (by exact hl)).trans h.c0, (hb.cell (by exact hl)).trans h.c1, (hb.cell (by exact hl)).trans h.c2⟩
theorem FixAt.lt {w : World} {b o : Nat} {x : Fx} (h : FixAt w b o x) : b < w.heap.size := lt_of_cell h.c0
theorem fixAt_new (w : World) (x : Fx) (n : Nat) (hn : n = w.heap.size) : FixAt (w.alloc (.cells #[.string x.op, .int .i64 x.side, .int .i64 x.prec] 25)) n 0 x := by
  subst hn
  exact ⟨World.cell?_alloc_new _ _ _ _, World.cell?_alloc_new _ _ _ _, World.cell?_alloc_new _ _ _ _⟩
/-- A slice of fixities. -/
structure Fixes (w : World) (b o : Nat) (l : List Fx) : Prop where
  len : l.length ≤ 9223372036854775807
  at_ : ∀ i (h : i < l.length), FixAt w b (o + i * 3) l[i]
theorem Fixes.below {w w' : World} {b o : Nat} {l : List Fx} (h : Fixes w b o l) (hb : Below w.heap.size w w') : Fixes w' b o l := ⟨h.len, fun i hi => (h.at_ i hi).below hb⟩

/-- A row of fixities that the call has made. -/
def OwnsX (w : World) (B : Nat) (v : Value) (l : List Fx) : Prop := w.ownsRow B 25 3 v l.length (l.flatMap fxCells)
theorem OwnsX.alloc {w : World} {B : Nat} {v : Value} {l : List Fx} (h : OwnsX w B v l) (o : Obj) : OwnsX (w.alloc o) B v l := World.ownsRow.alloc h o
theorem fxs_len (l : List Fx) : (l.flatMap fxCells).length = l.length * 3 := by
  induction l with
  | nil => rfl
  | cons x r ih => rw [List.flatMap_cons, List.length_append, ih]; simp [fxCells]; omega
theorem OwnsX.more {w : World} {B n : Nat} {v : Value} {l m : List Fx} (h : w.ownsRow B 25 3 v n (l.flatMap fxCells ++ m.flatMap fxCells)) (hn : n = l.length + m.length) : OwnsX w B v (l ++ m) := by
  subst hn
  unfold OwnsX
  rw [List.length_append, List.flatMap_append]; exact h
theorem OwnsX.shape {w : World} {B : Nat} {v : Value} {l : List Fx} (h : OwnsX w B v l) : ∃ a c, v = .slice a l.length c := by
  rcases h.2 with ⟨rfl, h0⟩ | ⟨g, cap, cur, rfl, _⟩
  · exact ⟨none, 0, by rw [h0]⟩
  · exact ⟨_, _, rfl⟩
theorem OwnsX.below {w w' : World} {B : Nat} {v : Value} {l : List Fx} (h : OwnsX w B v l) (hb : Below w.heap.size w w') : OwnsX w' B v l := by
  obtain ⟨e, ⟨a, b⟩ | ⟨g, cap, cur, a, b, c, d⟩⟩ := h
  · exact ⟨e, .inl ⟨a, b⟩⟩
  · exact ⟨e, .inr ⟨g, cap, cur, a, b, (hb.block g (Array.getElem?_eq_some_iff.1 c).1).trans c, d⟩⟩
theorem OwnsX.base {w : World} {B B' : Nat} {v : Value} {l : List Fx} (h : OwnsX w B v l) (hB : B' ≤ B) : OwnsX w B' v l := by
  obtain ⟨e, ⟨a, b⟩ | ⟨g, cap, cur, a, b, c, d⟩⟩ := h
  · exact ⟨e, .inl ⟨a, b⟩⟩
  · exact ⟨e, .inr ⟨g, cap, cur, a, by omega, c, d⟩⟩
/-- Such a row, as a slice. -/
theorem OwnsX.fixes {w : World} {B : Nat} {v : Value} {l : List Fx} (h : OwnsX w B v l) :
    ∃ (xa : Option Addr) (cap b o : Nat), v = .slice xa l.length cap ∧ (0 < l.length → xa = some ⟨b, o, none⟩) ∧ Fixes w b o l := by
  rcases h.2 with ⟨rfl, h0⟩ | ⟨g, cap, cur, rfl, hg, hgg, hnc, hcm, _⟩
  · refine ⟨none, 0, 0, 0, by rw [h0], by omega, by omega, fun i hi => by omega⟩
  · refine ⟨_, cap, g, 0, rfl, fun _ => rfl, by unfold maxLen at hcm; omega, fun i hi => ?_⟩
    have key : ∀ (l : List Fx) (i : Nat) (hi : i < l.length) (j : Nat), j < 3 → (l.flatMap fxCells)[i * 3 + j]? = (fxCells l[i])[j]? := by
      intro l
      induction l with
      | nil => intro i hi; simp at hi
      | cons x r ih =>
        intro i hi j hj
        rw [List.flatMap_cons]
        cases i with
        | zero => rw [List.getElem?_append_left (by simp [fxCells]; omega)]; simp
        | succ i =>
          rw [List.getElem?_append_right (by simp [fxCells]; omega)]
          have := ih i (by simpa using hi) j hj
          rw [show (i + 1) * 3 + j - (fxCells x).length = i * 3 + j from by simp [fxCells]; omega, this]
          simp
    have hc : ∀ j u, j < 3 → (fxCells l[i])[j]? = some u → w.cell? ⟨g, 0 + i * 3 + j, none⟩ = some u := fun j u hj hu => by
      have h2 := World.ownsRow.cellAt h (i * 3 + j) (by omega)
      rw [show 0 + i * 3 + j = i * 3 + j from by omega, h2, key l i hi j hj, hu]
    exact ⟨hc 0 _ (by omega) rfl, hc 1 _ (by omega) rfl, hc 2 _ (by omega) rfl⟩
theorem fix_info : ∃ i z, Tryd.prog.info? 25 = some i ∧ i.zero = some z ∧ i.size = 3 ∧ i.bytes = 32 ∧ z.cells.size = 3 := by
  have h : (Tryd.prog.info? 25).map (fun i => (i.zero.map (·.cells.size), i.size, i.bytes)) = some (some 3, 3, 32) := by kernel_rfl
  cases e : Tryd.prog.info? 25 with
  | none => rw [e] at h; cases h
  | some i =>
    rw [e] at h
    simp only [Option.map_some, Option.some.injEq, Prod.mk.injEq] at h
    cases hz : i.zero with
    | none => rw [hz] at h; simp at h
    | some z =>
      rw [hz] at h
      exact ⟨i, z, rfl, hz, h.2.1, h.2.2, by simpa using h.1⟩
theorem new_fix (w : World) (x : Fx) (n : Nat) (hn : n = w.heap.size) : ∀ j u, ([x].flatMap fxCells)[j]? = some u → (w.alloc (.cells #[.string x.op, .int .i64 x.side, .int .i64 x.prec] 25)).cell? ((⟨n, 0, none⟩ : Addr).add j) = some u := by
  subst hn
  intro j u hj
  exact World.news_of_block (heap_alloc_new w (.cells #[.string x.op, .int .i64 x.side, .int .i64 x.prec] 25 (0, 0))) j u (by simpa [fxCells] using hj)
theorem fix_one (l : List Fx) : ∀ u ∈ l.flatMap fxCells, u.oneCell' = true := by
  intro u hu
  rw [List.mem_flatMap] at hu
  obtain ⟨x, _, hx⟩ := hu
  simp [fxCells] at hx
  rcases hx with rfl | rfl | rfl <;> rfl
end Go.Proofs.YtikkdkacflkifaaDoor
