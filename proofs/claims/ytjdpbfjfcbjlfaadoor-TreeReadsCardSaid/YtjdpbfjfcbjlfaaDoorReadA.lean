/- DERIVED. The reader's state; the walks of take and number. -/
import Derived.Test.YtjdpbfjfcbjlfaaDoorShowA
import Derived.Deep.AppendLies
set_option linter.unusedSimpArgs false
set_option linter.unusedVariables false
namespace Go.Proofs.YtjdpbfjfcbjlfaaDoor
open Go.RowKit

/-- All but one block is as it was. -/
structure But (b : Nat) (w w' : World) : Prop where
  os : w'.os = w.os
  tape : w'.tape = w.tape
  output : w'.output = w.output
  size : w.heap.size ≤ w'.heap.size
  block : ∀ k, k < w.heap.size → k ≠ b → w'.heap[k]? = w.heap[k]?
theorem But.refl (b : Nat) (w : World) : But b w w := ⟨rfl, rfl, rfl, Nat.le_refl _, fun _ _ _ => rfl⟩
theorem But.trans {b : Nat} {w1 w2 w3 : World} (h : But b w1 w2) (k : But b w2 w3) : But b w1 w3 :=
  ⟨k.os.trans h.os, k.tape.trans h.tape, k.output.trans h.output, Nat.le_trans h.size k.size, fun i hi hb => (k.block i (Nat.lt_of_lt_of_le hi h.size) hb).trans (h.block i hi hb)⟩
theorem But.of {b : Nat} {w w' : World} (h : Below w.heap.size w w') : But b w w' := ⟨h.os, h.tape, h.output, h.size, fun k hk _ => h.block k hk⟩
theorem But.alloc {b : Nat} {w w' : World} (h : But b w w') (o : Obj) : But b w (w'.alloc o) := h.trans (.of ((Below.refl _ _).alloc (Nat.le_refl _) _))
theorem But.set {b : Nat} {w w' : World} (h : But b w w') (j : Nat) (v : Value) : But b w (w'.setCell ⟨b, j, none⟩ v) :=
  h.trans ⟨rfl, rfl, rfl, by simp, fun k _ hk => Below.heap_setCell w' ⟨b, j, none⟩ v k hk⟩
theorem But.below {B b : Nat} {w w' : World} (h : But b w w') (hb : B ≤ b) (hB : B ≤ w.heap.size) : Below B w w' := ⟨h.os, h.tape, h.output, h.size, fun k hk => h.block k (by omega) (by omega)⟩
/-- A draw. -/
theorem But.drewN {b : Nat} {w w' : World} (h : But b w w') (n : Nat) : But b w (w'.drewN n) := ⟨h.os, h.tape, h.output, h.size, h.block⟩

/-- The reader: its text, and where it stands. -/
def RD (w : World) (b : Nat) (s : ByteArray) (i : Nat) : Prop := w.heap[b]? = some (.cells #[.string s, .int .i64 i] 52 (0, 0))
theorem RD.lt {w : World} {b i : Nat} {s : ByteArray} (h : RD w b s i) : b < w.heap.size := (Array.getElem?_eq_some_iff.1 h).1
theorem RD.c0 {w : World} {b i : Nat} {s : ByteArray} (h : RD w b s i) : w.cell? ⟨b, 0, none⟩ = some (.string s) := cell_of_row _ _ _ _ _ _ h
theorem RD.c1 {w : World} {b i : Nat} {s : ByteArray} (h : RD w b s i) : w.cell? ⟨b, 1, none⟩ = some (.int .i64 i) := cell_of_row _ _ _ _ _ _ h
theorem RD.f1 {w : World} {b i : Nat} {s : ByteArray} (h : RD w b s i) : w.frozen? ⟨b, 1, none⟩ = false := frozen_of_row _ _ _ _ _ h
theorem RD.set {w : World} {b i : Nat} {s : ByteArray} (h : RD w b s i) (j : Nat) (x : Int) (hx : x = j) : RD (w.setCell ⟨b, 1, none⟩ (.int .i64 x)) b s j := by
  subst hx; exact heap_setCell_same _ _ 1 _ _ (.int .i64 (j : Int)) h
theorem RD.below {w w' : World} {b i : Nat} {s : ByteArray} (h : RD w b s i) (hb : Below w.heap.size w w') : RD w' b s i := (hb.block b h.lt).trans h
theorem RD.alloc {w : World} {b i : Nat} {s : ByteArray} (h : RD w b s i) (o : Obj) : RD (w.alloc o) b s i := (Below.heap_alloc w o b h.lt).trans h
theorem RD.drewN {w : World} {b i : Nat} {s : ByteArray} (h : RD w b s i) (n : Nat) : RD (w.drewN n) b s i := h

/-- Does a byte stand at a place? -/
def stands (s : ByteArray) (i : Nat) (c : UInt8) : Bool := s.data.toList[i]? == some c
theorem stands_in {s : ByteArray} {i : Nat} {c : UInt8} (h : stands s i c = true) : i < s.size := by
  unfold stands at h
  rw [beq_iff_eq] at h
  rw [Lib.size_eq]; exact (List.getElem?_eq_some_iff.1 h).1
theorem stands_at {s : ByteArray} {i : Nat} (hi : i < s.size) (c : UInt8) : stands s i c = (s[i] == c) := by
  unfold stands
  rw [List.getElem?_eq_getElem (by rw [← Lib.size_eq]; exact hi)]
  rfl

set_option maxHeartbeats 1000000 in
theorem take_any (b i : Nat) (s : ByteArray) (x : Int) (c : UInt8) (hx : x = c.toNat) (w : World) (hs : s.size ≤ 1152921504606846976) (h : RD w b s i) (hi : i ≤ s.size) :
    Calls Tryd.prog 40 #[.pointer (some ⟨b, 0, none⟩), .int .u8 x] w fun e w' => e = .returned (.bool (stands s i c)) ∧ But b w w' ∧ RD w' b s (if stands s i c = true then i + 1 else i) := by
  subst hx
  have c0 := h.c0
  have c1 := h.c1
  have f1 := h.f1
  have HR := Lib.hid h
  clear h
  by_cases hin : i < s.size
  · by_cases hc : s[i] = c
    · have hst : stands s i c = true := by rw [stands_at hin]; simp [hc]
      rw [if_pos hst, hst]
      have t1 : ((s[i].toNat : Int) == (c.toNat : Int)) = true := by rw [hc]; simp
      clear hc hst
      go_enter Tryd.func40, Tryd.ntmps40
      go_wp2_with fail
      go_quiet (fail)
      go_wp2_with fail
      go_ret
      exact ⟨rfl, ((But.refl _ _).drewN _).set _ _, (HR.out.drewN _).set _ _ (by omega)⟩
    · have hst : stands s i c = false := by rw [stands_at hin]; simp [hc]
      rw [hst, if_neg (by simp)]
      have t1 : ((s[i].toNat : Int) == (c.toNat : Int)) = false := by rw [beq_eq_false_iff_ne]; intro e; exact hc (UInt8.toNat_inj.1 (by omega))
      clear hc hst
      go_enter Tryd.func40, Tryd.ntmps40
      go_wp2_with fail
      go_quiet (fail)
      go_wp2_with fail
      go_ret
      exact ⟨rfl, (But.refl _ _).drewN _, HR.out.drewN _⟩
  · have hst : stands s i c = false := by
      cases hs : stands s i c
      · rfl
      · exact absurd (stands_in hs) hin
    rw [hst, if_neg (by simp)]
    clear hst
    go_enter Tryd.func40, Tryd.ntmps40
    go_wp2_with fail
    go_quiet (fail)
    go_wp2_with fail
    go_ret
    exact ⟨rfl, (But.refl _ _).drewN _, HR.out.drewN _⟩
end Go.Proofs.YtjdpbfjfcbjlfaaDoor
