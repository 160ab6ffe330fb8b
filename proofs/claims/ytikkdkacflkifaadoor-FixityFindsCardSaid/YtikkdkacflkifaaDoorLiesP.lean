/- DERIVED. Trees in memory, in blocks of a kind. -/
import Derived.Test.YtikkdkacflkifaaDoorTree
set_option linter.unusedSimpArgs false
set_option linter.unusedVariables false
namespace Go.Proofs.YtikkdkacflkifaaDoor
open Go.RowKit

/-- The slice kv holds a tree's kids, in blocks of a kind. -/
inductive LiesP (P : Nat → Prop) (w : World) : Tr → Value → Prop
  | mk (kd fm : Int) (tx : ByteArray) (ln cl : Int) (ks : List Tr) (xa : Option Addr) (cap b o : Nat) (K : Nat → Value)
    (hlen : ks.length ≤ cap ∧ cap ≤ maxLen)
    (hxa : 0 < ks.length → xa = some ⟨b, o, none⟩ ∧ P b)
    (hc : ∀ i (h : i < ks.length), Cells6 w b (o + i * 6) ks[i] (K i))
    (hk : ∀ i (h : i < ks.length), LiesP P w ks[i] (K i)) :
    LiesP P w (.mk kd fm tx ln cl ks) (.slice xa ks.length cap)
theorem LiesP.lies {P : Nat → Prop} {w : World} {t : Tr} {kv : Value} (h : LiesP P w t kv) : Lies w t kv := by
  induction h with
  | mk kd fm tx ln cl ks xa cap b o K hlen hxa hc hk ih => exact .mk kd fm tx ln cl ks xa cap b o K hlen (fun h => (hxa h).1) hc ih
theorem LiesP.mono {P Q : Nat → Prop} {w : World} {t : Tr} {kv : Value} (h : LiesP P w t kv) (hq : ∀ k, k < w.heap.size → P k → Q k) : LiesP Q w t kv := by
  induction h with
  | mk kd fm tx ln cl ks xa cap b o K hlen hxa hc hk ih => exact .mk kd fm tx ln cl ks xa cap b o K hlen (fun h => ⟨(hxa h).1, hq _ (lt_of_cell (hc 0 h).c0) (hxa h).2⟩) hc ih
theorem Cells6.same {w w' : World} {b o : Nat} {t : Tr} {kv : Value} (h : Cells6 w b o t kv) (hb : w'.heap[b]? = w.heap[b]?) : Cells6 w' b o t kv :=
  ⟨(World.cell?_of_block (w := w) hb).trans h.c0, (World.cell?_of_block (w := w) hb).trans h.c1, (World.cell?_of_block (w := w) hb).trans h.c2, (World.cell?_of_block (w := w) hb).trans h.c3, (World.cell?_of_block (w := w) hb).trans h.c4, (World.cell?_of_block (w := w) hb).trans h.c5⟩
theorem LiesP.keep {P : Nat → Prop} {w w' : World} {t : Tr} {kv : Value} (h : LiesP P w t kv) (hw : ∀ k, k < w.heap.size → P k → w'.heap[k]? = w.heap[k]?) : LiesP P w' t kv := by
  induction h with
  | mk kd fm tx ln cl ks xa cap b o K hlen hxa hc hk ih =>
    exact .mk kd fm tx ln cl ks xa cap b o K hlen hxa (fun i h => (hc i h).same (hw b (lt_of_cell (hc i h).c0) (hxa (by omega)).2)) ih
theorem LiesP.shape {P : Nat → Prop} {w : World} {t : Tr} {kv : Value} (h : LiesP P w t kv) : ∃ xa cap, kv = .slice xa t.kids.length cap := h.lies.shape
theorem LiesP.leaf {P : Nat → Prop} {w : World} (kd fm : Int) (tx : ByteArray) (ln cl : Int) : LiesP P w (.mk kd fm tx ln cl []) (.slice none 0 0) :=
  .mk kd fm tx ln cl [] none 0 0 0 (fun _ => .nilIface) ⟨Nat.le_refl _, Nat.zero_le _⟩ (fun h => by simp at h) (fun i h => by simp at h) (fun i h => by simp at h)

end Go.Proofs.YtikkdkacflkifaaDoor
