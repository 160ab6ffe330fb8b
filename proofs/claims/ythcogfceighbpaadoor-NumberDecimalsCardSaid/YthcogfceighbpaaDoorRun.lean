/- DERIVED. The walks of Run and Check: glyph's and the reference's. -/
import Derived.Test.YthcogfceighbpaaDoorNext
import Derived.Test.YthcogfceighbpaaDoorSpan
import Derived.Test.YthcogfceighbpaaDoorGlyph
import Derived.Lib.OthersKept
set_option linter.unusedSimpArgs false
set_option linter.unusedVariables false
namespace Go.Proofs.YthcogfceighbpaaDoor
open Go.RowKit

/-- The iterator of a range over a text, laid when the world was w; what lay below is as it was. -/
def Iter (w : World) (s : ByteArray) (pos : Nat) (wr : World) : Prop := wr.heap[w.heap.size]? = some (.stringIter s pos) ∧ Below w.heap.size w wr
theorem Iter.start (w : World) (s : ByteArray) : Iter w s 0 (w.iter s 0) := ⟨World.iter_heap _ _ _, (Below.refl _ _).alloc (Nat.le_refl _) _⟩
theorem Iter.next {w : World} {s : ByteArray} {pos : Nat} {wr : World} (h : Iter w s pos wr) (pos' : Nat) : Iter w s pos' (wr.iterAt w.heap.size s pos') :=
  ⟨Lib.iterAt_heap _ _ _ _ _ h.1, Lib.below_iterAt h.2 (Nat.le_refl _) _ _⟩
theorem Iter.lt {w : World} {s : ByteArray} {pos : Nat} {wr : World} (h : Iter w s pos wr) : w.heap.size < wr.heap.size := (Array.getElem?_eq_some_iff.1 h.1).1
/-- A call that leaves alone what was there keeps the iterator. -/
theorem Iter.keep {w : World} {s : ByteArray} {pos : Nat} {wr w1 : World} (h : Iter w s pos wr) (hb : Below wr.heap.size wr w1) : Iter w s pos w1 :=
  ⟨(hb.block _ h.lt).trans h.1, h.2.trans (hb.mono h.2.size)⟩
theorem iterPos_at {w : World} {s : ByteArray} {pos : Nat} {wr : World} (h : Iter w s pos wr) : wr.iterPos w.heap.size = pos := by
  simp [World.iterPos, h.1]

theorem cut_data (s : ByteArray) (i : Nat) : (s.extract i s.size).data.toList = s.data.toList.drop i := by
  rw [Lib.extract_data, List.take_of_length_le (by rw [List.length_drop, ← Lib.size_eq]; exact Nat.le_refl _)]
theorem cut_size (s : ByteArray) (i : Nat) (h : i ≤ s.size) : (s.extract i s.size).size = s.size - i := by simp

end Go.Proofs.YthcogfceighbpaaDoor
