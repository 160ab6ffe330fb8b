/- DERIVED. PLAIN: a row, resolved. -/
import Derived.Test.YtikkdkacflkifaaDoorFixP
import Derived.Test.YtikkdkacflkifaaDoorRowN
set_option linter.unusedSimpArgs false
set_option linter.unusedVariables false
namespace Go.Proofs.YtikkdkacflkifaaDoor
open Go.RowKit

/-- A row, resolved. -/
def resolveX (env : List Fx) (t : Tr) : Tr × Int :=
  if t.kind = 17 then
    if rowOk true t.kids = true then
      if (pBegin env t.kids (2 * t.kids.length) ⟨⟨#[]⟩, 3, -1⟩ 0).2.2 = true then (zeroT, 160) else ((pBegin env t.kids (2 * t.kids.length) ⟨⟨#[]⟩, 3, -1⟩ 0).1, 0)
    else (zeroT, 120)
  else (t, 0)
def ResolvePost (R : Tr × Int) (w : World) (e : Ending) (w' : World) : Prop :=
  ∃ kv, e = .returned (.tuple #[nodeV R.1 kv, .int .i64 R.2]) ∧ Lies w' R.1 kv ∧ Below w.heap.size w w'
theorem below_fresh {B : Nat} {w w1 w2 : World} {g : Nat} (h : Below B w w1) (hg : B ≤ g) (ho : ∀ j, j ≠ g → w2.heap[j]? = w1.heap[j]?) (hs : w2.heap.size = w1.heap.size) (h1 : w2.os = w1.os) (h2 : w2.tape = w1.tape) (h3 : w2.output = w1.output) : Below B w w2 :=
  ⟨h1.trans h.os, h2.trans h.tape, h3.trans h.output, by rw [hs]; exact h.size, fun k hk => (ho k (by omega)).trans (h.block k hk)⟩
end Go.Proofs.YtikkdkacflkifaaDoor
