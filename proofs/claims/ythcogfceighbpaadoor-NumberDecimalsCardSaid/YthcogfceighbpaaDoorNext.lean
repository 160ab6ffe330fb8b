/- DERIVED. The walks of Next: glyph's and the reference's. -/
import Derived.Test.YthcogfceighbpaaDoorShelf
import Derived.Test.YthcogfceighbpaaDoorDec
import Derived.Test.YthcogfceighbpaaDoorBase
set_option linter.unusedSimpArgs false
set_option linter.unusedVariables false
namespace Go.Proofs.YthcogfceighbpaaDoor
open Go.RowKit

/-- The two tables of unicode/utf8 hold what their text lays. -/
def Tabs (w : World) : Prop := Lib.Utf8Tabs 2 3 w
theorem Tabs.below {w w' : World} (h : Tabs w) (hb : Below w.heap.size w w') : Tabs w' :=
  ⟨fun c hc => by rw [hb.cell (p := ⟨2, c, none⟩) (lt_of_cell (h.1 c hc))]; exact h.1 c hc,
   fun i hi => ⟨by rw [hb.cell (p := ⟨3, 2 * i, none⟩) (lt_of_cell (h.2 i hi).1)]; exact (h.2 i hi).1,
     by rw [hb.cell (p := ⟨3, 2 * i + 1, none⟩) (lt_of_cell (h.2 i hi).2)]; exact (h.2 i hi).2⟩⟩
/-- What the library's decoder hands back, of a text that is cut at a byte. -/
theorem decodeGo_cut (s : ByteArray) (i : Nat) (h : i < s.size) : Lib.decodeGo (s.extract i s.size) = dec (s.data.toList.drop i) := by
  unfold Lib.decodeGo
  rw [if_neg (by simp; omega), decode_eq, Lib.extract_data, List.drop_zero, List.take_of_length_le (by rw [List.length_drop, ← Lib.size_eq]; exact Nat.le_refl _)]



theorem wrap64_u8 (x : UInt8) : wrap64 (x.toNat : Int) = x.toNat := by have := x.toNat_lt; unfold wrap64; omega


/-- How far the loop over the bytes that go on has come. -/
def InRef (l : List UInt8) (i : Int) (n : Nat) (c0 : Int) (k : Nat) (c : Int) : Prop :=
  1 ≤ k ∧ k ≤ n ∧ 0 ≤ c ∧ ((k = 1 ∧ c ≤ 31) ∨ (k = 2 ∧ c ≤ 2047) ∨ (k = 3 ∧ c ≤ 131071) ∨ (k = 4 ∧ c ≤ 8388607)) ∧ conts l i (n - 1) 1 c0 = conts l i (n - k) k c

theorem conts_stop {l : List UInt8} {i : Int} {n k : Nat} {c0 c : Int} (h : InRef l i n c0 k c) (hk : k < n) (hd : byteAt l (i + k) < 128 ∨ byteAt l (i + k) > 191) : conts l i (n - 1) 1 c0 = none := by
  obtain ⟨_, _, _, _, h⟩ := h
  rw [h, show n - k = (n - k - 1) + 1 from by omega]
  simp only [conts]
  rw [if_pos hd]
theorem conts_on {l : List UInt8} {i : Int} {n k : Nat} {c0 c : Int} (h : InRef l i n c0 k c) (hn : n ≤ 4) (hk : k < n) (h1 : 128 ≤ byteAt l (i + k)) (h2 : byteAt l (i + k) ≤ 191) : InRef l i n c0 (k + 1) (c * 64 + byteAt l (i + k) - 128) := by
  obtain ⟨a1, a2, a3, a4, h⟩ := h
  refine ⟨by omega, by omega, by omega, by omega, ?_⟩
  rw [h, show n - k = (n - (k + 1)) + 1 from by omega]
  simp only [conts]
  rw [if_neg (by omega)]
theorem conts_done {l : List UInt8} {i : Int} {n k : Nat} {c0 c : Int} (h : InRef l i n c0 k c) (hk : ¬ k < n) : conts l i (n - 1) 1 c0 = some c := by
  obtain ⟨_, a2, _, _, h⟩ := h
  rw [h, show n - k = 0 from by omega]
  rfl

end Go.Proofs.YthcogfceighbpaaDoor
