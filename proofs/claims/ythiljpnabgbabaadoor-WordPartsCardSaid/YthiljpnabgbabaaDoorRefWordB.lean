/- DERIVED. The walks of the reference's functions on words. -/
import Derived.Test.YthiljpnabgbabaaDoorRefWordA
set_option linter.unusedSimpArgs false
set_option linter.unusedVariables false
namespace Go.Proofs.YthiljpnabgbabaaDoor
open Go.RowKit

theorem row_new (w : World) (ls : List (List UInt8)) (T : TypeId) : RowIs (w.alloc (.cells (ls.map fun l => Value.string ⟨l.toArray⟩).toArray T)) w.heap.size ls := by
  intro i h
  rw [World.cell?_alloc_new]
  simp [h]

set_option maxHeartbeats 1000000 in
theorem marks_any (w : World) :
    Calls Tryd.prog 32 #[] w fun e w' => e = .returned (.slice (some ⟨w.heap.size, 0, none⟩) marksL.length marksL.length) ∧ RowIs w' w.heap.size marksL ∧ Below w.heap.size w w' := by
  have hr := row_new w marksL 9
  have hb : Below w.heap.size w (w.alloc (.cells (marksL.map fun l => Value.string ⟨l.toArray⟩).toArray 9)) := (Below.refl _ _).alloc (Nat.le_refl _) _
  have HR := Lib.hid hr; have HB := Lib.hid hb
  clear hr hb
  go_enter Tryd.func32, Tryd.ntmps32
  go_wp2_with fail
  go_ret
  exact ⟨rfl, HR.out, HB.out⟩

set_option maxHeartbeats 1000000 in
theorem words_any (w : World) :
    Calls Tryd.prog 25 #[] w fun e w' => e = .returned (.slice (some ⟨w.heap.size, 0, none⟩) wordsL.length wordsL.length) ∧ RowIs w' w.heap.size wordsL ∧ Below w.heap.size w w' := by
  have hr := row_new w wordsL 9
  have hb : Below w.heap.size w (w.alloc (.cells (wordsL.map fun l => Value.string ⟨l.toArray⟩).toArray 9)) := (Below.refl _ _).alloc (Nat.le_refl _) _
  have HR := Lib.hid hr; have HB := Lib.hid hb
  clear hr hb
  go_enter Tryd.func25, Tryd.ntmps25
  go_wp2_with fail
  go_ret
  exact ⟨rfl, HR.out, HB.out⟩

theorem RowIs.below {w w' : World} {b : Nat} {ls : List (List UInt8)} (h : RowIs w b ls) (hb : Below w.heap.size w w') : RowIs w' b ls :=
  fun i hi => by rw [hb.cell (p := ⟨b, i, none⟩) (lt_of_cell (h i hi))]; exact h i hi
theorem RowIs.drewN {w : World} {b : Nat} {ls : List (List UInt8)} (h : RowIs w b ls) (n : Nat) : RowIs (w.drewN n) b ls := h

set_option maxHeartbeats 1000000 in
theorem operator_any (s : ByteArray) (w : World) (h0 : 0 < s.size) :
    Calls Tryd.prog 22 #[.string s] w fun e w' => e = .returned (.int .i64 (symK s.data.toList)) ∧ Below w.heap.size w w' := by
  have hg : (s.data.toList.getD 0 0) = s[0] := by
    rw [List.getD_eq_getElem?_getD, Lib.data_getElem? s 0 h0]; rfl
  have hs : symK s.data.toList = if marksL.contains s.data.toList then 10 else if (s[0].toNat : Int) = 58 then 6 else 5 := by
    unfold symK
    rw [hg]
    have : (s[0] = (58 : UInt8)) ↔ ((s[0].toNat : Int) = 58) := by rw [← UInt8.toNat_inj]; simp; omega
    simp only [this]
  rw [hs]
  have a1 := fun (b : Nat) w hl hrow => among_any marksL b s w hl hrow
  have hl : Hid (marksL.length = 11) := rfl
  have m1 := fun w => marks_any w
  have A1 := Lib.hid a1; have M1 := Lib.hid m1
  clear a1 m1 hs
  generalize hb : marksL.contains s.data.toList = b at *
  clear hb hg
  generalize hn : marksL.length = n at *
  have hn' : n ≤ 1000 := by rw [hl.out]; omega
  clear hn
  cases b with
  | true =>
    rw [if_pos rfl]
    go_enter Tryd.func22, Tryd.ntmps22
    go_wp2_with fail
    refine (M1.out _).mono ?_
    rintro e w1 ⟨rfl, hrow, hb1⟩
    have HB := Lib.hid hb1; have HRow := Lib.hid hrow
    clear hb1 hrow
    go_wp2_with fail
    refine (A1.out _ _ hn' HRow.out).mono ?_
    rintro e w' ⟨rfl, rfl⟩
    go_wp2_with fail
    go_ret
    exact ⟨rfl, HB.out⟩
  | false =>
    rw [if_neg (by simp)]
    by_cases hc : (s[0].toNat : Int) = 58
    · rw [if_pos hc]
      have hcb : ((s[0].toNat : Int) == 58) = true := beq_iff_eq.2 hc
      clear hc
      go_enter Tryd.func22, Tryd.ntmps22
      go_wp2_with fail
      refine (M1.out _).mono ?_
      rintro e w1 ⟨rfl, hrow, hb1⟩
      have HB := Lib.hid hb1; have HRow := Lib.hid hrow
      clear hb1 hrow
      go_wp2_with fail
      refine (A1.out _ _ hn' HRow.out).mono ?_
      rintro e w' ⟨rfl, rfl⟩
      go_wp2_with fail
      go_ret
      exact ⟨rfl, HB.out⟩
    · rw [if_neg hc]
      have hcb : ((s[0].toNat : Int) == 58) = false := beq_eq_false_iff_ne.2 hc
      clear hc
      go_enter Tryd.func22, Tryd.ntmps22
      go_wp2_with fail
      refine (M1.out _).mono ?_
      rintro e w1 ⟨rfl, hrow, hb1⟩
      have HB := Lib.hid hb1; have HRow := Lib.hid hrow
      clear hb1 hrow
      go_wp2_with fail
      refine (A1.out _ _ hn' HRow.out).mono ?_
      rintro e w' ⟨rfl, rfl⟩
      go_wp2_with fail
      go_ret
      exact ⟨rfl, HB.out⟩
end Go.Proofs.YthiljpnabgbabaaDoor
