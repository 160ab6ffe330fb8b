/- DERIVED. The walk of place's next. -/
import Derived.Test.YtmbgfchbjedjnaaDoorPlaceA
import Derived.Laws.CopyOwn
set_option linter.unusedSimpArgs false
set_option linter.unusedVariables false
namespace Go.Proofs.YtmbgfchbjedjnaaDoor
open Go.RowKit

theorem alloc_size (w : World) (o : Obj) : (w.alloc o).heap.size = w.heap.size + 1 := by show (w.heap.push o).size = _; simp

set_option maxHeartbeats 1000000 in
theorem nextP_any (s : ByteArray) (i : Nat) (line col : Int) (w : World) (hi : i < s.size) (hs : s.size ≤ 72057594037927936) (hl : 1 ≤ line ∧ line ≤ 1152921504606846976) (hc : 1 ≤ col ∧ col ≤ 1152921504606846976) (hT : Tabs w) :
    Calls Tryd.prog 22 #[.string s, .agg #[.int .i64 i, .int .i64 line, .int .i64 col]] w fun e w' => e = .returned (.agg #[.int .i64 ((i : Int) + unit (s.data.toList.drop i)), .int .i64 (lineS (s.data.toList.drop i) line), .int .i64 (colS (s.data.toList.drop i) col)]) ∧ Below w.heap.size w w' := by
  have n1 := fun w => newline_any s i w hi (by omega)
  have x1 := fun w hT => next_any s i w (by omega) hT
  have hl0 : s.data.toList.drop i ≠ [] := by intro e; have := congrArg List.length e; rw [List.length_drop, ← Lib.size_eq] at this; simp at this; omega
  have hub := unit_bd _ hl0
  have hlen : (s.data.toList.drop i).length = s.size - i := by rw [List.length_drop, ← Lib.size_eq]
  have hnx : nextL s.data.toList i = (((dec (s.data.toList.drop i)).1 : Int), ((dec (s.data.toList.drop i)).2 : Int)) := by
    unfold nextL; rw [if_pos ⟨by omega, by rw [← Lib.size_eq]; omega⟩, Int.toNat_natCast]
  rw [hnx] at x1
  have hbl := nl_le (s.data.toList.drop i)
  have hdl := dec_len _ hl0
  have hls : lineS (s.data.toList.drop i) line = if 0 < nl (s.data.toList.drop i) then line + 1 else line := rfl
  have hcs : colS (s.data.toList.drop i) col = if 0 < nl (s.data.toList.drop i) then 1 else if s[i] = 9 then stopC col else col + 1 := by
    unfold colS; rw [getD_drop, Nat.add_zero, ← byte_at s i hi]
  have hu : unit (s.data.toList.drop i) = if 0 < nl (s.data.toList.drop i) then nl (s.data.toList.drop i) else (dec (s.data.toList.drop i)).2 := rfl
  generalize lineS (s.data.toList.drop i) line = L at *
  generalize colS (s.data.toList.drop i) col = C at *
  generalize unit (s.data.toList.drop i) = U at *
  generalize nl (s.data.toList.drop i) = n at *
  generalize dec (s.data.toList.drop i) = D at *
  obtain ⟨d1, d2⟩ := D
  simp only at *
  have HT := Lib.hid hT; have N1 := Lib.hid n1; have X1 := Lib.hid x1
  have c9 : ((s[i].toNat : Int) == 9) = (s[i] == 9) := toNat_beq _ 9
  clear hT n1 x1 hnx
  by_cases hn : 0 < n
  · rw [if_pos hn] at hls hcs hu
    have t0 : decide ((0 : Int) < n) = true := by simp; omega
    subst hls; subst hcs; subst hu
    clear c9
    go_enter Tryd.func22, Tryd.ntmps22
    go_wp2_with fail
    refine (N1.out _).mono ?_
    rintro e w1 ⟨rfl, rfl⟩
    go_wp2_with fail
    try simp only [Exit.inBlock, Exit.then]
    refine bodyPost_ret (results_cell_row rfl _ _ _ 36 _ (0, 0) _ rfl (heap_alloc2_new _ _ _) Tryd.underlying36 rfl (by kernel_rfl)) rfl ?_
    exact ⟨rfl, ((Below.refl _ _).alloc (Nat.le_refl _) _).alloc (by simp only [alloc_size]; omega) _⟩
  · rw [if_neg hn] at hls hcs hu
    have t0 : decide ((0 : Int) < n) = false := by simp; omega
    have hb0 := fun o p => ((Below.refl w.heap.size w).alloc (Nat.le_refl _) o).alloc (by simp only [alloc_size]; omega) p
    subst hls; subst hu
    have HB0 := Lib.hid hb0
    clear hb0
    by_cases h9 : s[i] = 9
    · rw [if_pos h9] at hcs
      rw [beq_iff_eq.2 h9] at c9
      have S1 := Lib.hid fun w => stop_any col w hc.1 (by omega)
      have hst := stopC_bd col
      subst hcs
      generalize stopC col = C at *
      clear h9
      go_enter Tryd.func22, Tryd.ntmps22
      go_wp2_with fail
      refine (N1.out _).mono ?_
      rintro e w1 ⟨rfl, rfl⟩
      go_wp2_with fail
      refine (X1.out _ (HT.out.below (HB0.out _ _))).mono ?_
      rintro e w1 ⟨rfl, hb⟩
      have p0 : w1.cell? ⟨w.heap.size, 0, none⟩ = some (.int .i64 i) := by rw [hb.cell (by simp only [alloc_size]; omega), World.cell?_alloc_lt _ _ _ (by simp only [alloc_size]; omega)]; exact World.cell?_alloc_new _ _ _ _
      have p1 : w1.cell? ⟨w.heap.size, 1, none⟩ = some (.int .i64 L) := by rw [hb.cell (by simp only [alloc_size]; omega), World.cell?_alloc_lt _ _ _ (by simp only [alloc_size]; omega)]; exact World.cell?_alloc_new _ _ _ _
      have p2 : w1.cell? ⟨w.heap.size, 2, none⟩ = some (.int .i64 col) := by rw [hb.cell (by simp only [alloc_size]; omega), World.cell?_alloc_lt _ _ _ (by simp only [alloc_size]; omega)]; exact World.cell?_alloc_new _ _ _ _
      have q0 : w1.heap[w.heap.size + 1]? = some (.cells #[.int .i64 0, .int .i64 0, .int .i64 0] 36 (0, 0)) := by rw [hb.block _ (by simp only [alloc_size]; omega)]; exact heap_alloc2_new _ _ _
      have hlt : w.heap.size + 1 < w1.heap.size := by have := hb.size; simp only [alloc_size] at this; omega
      have p0' := fun o => (World.cell?_alloc_lt w1 o ⟨w.heap.size, 0, none⟩ (by show w.heap.size < _; omega)).trans p0
      have p2' := fun o => (World.cell?_alloc_lt w1 o ⟨w.heap.size, 2, none⟩ (by show w.heap.size < _; omega)).trans p2
      have q0' := fun o => ((Below.heap_alloc w1 o _ hlt).trans q0)
      have HB1 := Lib.hid (Below.trans (HB0.out _ _) (hb.mono (by simp only [alloc_size]; omega)))
      clear hb
      go_wp2_with fail
      refine (S1.out _).mono ?_
      rintro e w2 ⟨rfl, rfl⟩
      go_wp2_with (refine wpList_store_row rfl 36 (.tmp 4) (.tmp 49) rfl ?g ?c ?hx ?hy ?t #[.int .i64 0, .int .i64 0, .int .i64 0] ?hg ?hi ?ho ?h1 ?_)
      case hx => exact rfl
      case hy => exact rfl
      case hg => exact q0' _
      case hi => kernel_rfl
      case ho => exact rfl
      case h1 => simp [Value.oneCell']
      try simp only [Exit.inBlock, Exit.then]
      refine bodyPost_ret (results_cell_row rfl _ _ _ 36 _ (0, 0) _ rfl (setRow_heap _ _ _ _ _ _ (q0' _)) Tryd.underlying36 rfl (by kernel_rfl)) rfl ?_
      exact ⟨rfl, below_setRow (HB1.out.alloc (by omega) _) (by omega) _⟩
    · rw [if_neg h9] at hcs
      rw [beq_eq_false_iff_ne.2 h9] at c9
      subst hcs
      clear h9
      go_enter Tryd.func22, Tryd.ntmps22
      go_wp2_with fail
      refine (N1.out _).mono ?_
      rintro e w1 ⟨rfl, rfl⟩
      go_wp2_with fail
      refine (X1.out _ (HT.out.below (HB0.out _ _))).mono ?_
      rintro e w1 ⟨rfl, hb⟩
      have p0 : w1.cell? ⟨w.heap.size, 0, none⟩ = some (.int .i64 i) := by rw [hb.cell (by simp only [alloc_size]; omega), World.cell?_alloc_lt _ _ _ (by simp only [alloc_size]; omega)]; exact World.cell?_alloc_new _ _ _ _
      have p1 : w1.cell? ⟨w.heap.size, 1, none⟩ = some (.int .i64 L) := by rw [hb.cell (by simp only [alloc_size]; omega), World.cell?_alloc_lt _ _ _ (by simp only [alloc_size]; omega)]; exact World.cell?_alloc_new _ _ _ _
      have p2 : w1.cell? ⟨w.heap.size, 2, none⟩ = some (.int .i64 col) := by rw [hb.cell (by simp only [alloc_size]; omega), World.cell?_alloc_lt _ _ _ (by simp only [alloc_size]; omega)]; exact World.cell?_alloc_new _ _ _ _
      have q0 : w1.heap[w.heap.size + 1]? = some (.cells #[.int .i64 0, .int .i64 0, .int .i64 0] 36 (0, 0)) := by rw [hb.block _ (by simp only [alloc_size]; omega)]; exact heap_alloc2_new _ _ _
      have hlt : w.heap.size + 1 < w1.heap.size := by have := hb.size; simp only [alloc_size] at this; omega
      have p0' := fun o => (World.cell?_alloc_lt w1 o ⟨w.heap.size, 0, none⟩ (by show w.heap.size < _; omega)).trans p0
      have p2' := fun o => (World.cell?_alloc_lt w1 o ⟨w.heap.size, 2, none⟩ (by show w.heap.size < _; omega)).trans p2
      have q0' := fun o => ((Below.heap_alloc w1 o _ hlt).trans q0)
      have HB1 := Lib.hid (Below.trans (HB0.out _ _) (hb.mono (by simp only [alloc_size]; omega)))
      clear hb
      go_wp2_with (refine wpList_store_row rfl 36 (.tmp 4) (.tmp 49) rfl ?g3 ?c3 ?hx3 ?hy3 ?t3 #[.int .i64 0, .int .i64 0, .int .i64 0] ?hg3 ?hi3 ?ho3 ?h13 ?_)
      case hx3 => exact rfl
      case hy3 => exact rfl
      case hg3 => exact q0' _
      case hi3 => kernel_rfl
      case ho3 => exact rfl
      case h13 => simp [Value.oneCell']
      try simp only [Exit.inBlock, Exit.then]
      refine bodyPost_ret (results_cell_row rfl _ _ _ 36 _ (0, 0) _ rfl (setRow_heap _ _ _ _ _ _ (q0' _)) Tryd.underlying36 rfl (by kernel_rfl)) rfl ?_
      exact ⟨rfl, below_setRow (HB1.out.alloc (by omega) _) (by omega) _⟩
end Go.Proofs.YtmbgfchbjedjnaaDoor
