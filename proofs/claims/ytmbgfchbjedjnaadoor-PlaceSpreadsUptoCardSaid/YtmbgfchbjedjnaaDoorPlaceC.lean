/- DERIVED. The walks of place's Of and Width. -/
import Derived.Test.YtmbgfchbjedjnaaDoorPlaceB
set_option linter.unusedSimpArgs false
set_option linter.unusedVariables false
namespace Go.Proofs.YtmbgfchbjedjnaaDoor
open Go.RowKit

/-- A variable of three numbers, known whole. -/
def Spot (w : World) (b : Nat) (i : Nat) (line col : Int) : Prop := w.heap[b]? = some (.cells #[.int .i64 i, .int .i64 line, .int .i64 col] 36 (0, 0))

theorem Spot.lt {w : World} {b i : Nat} {line col : Int} (h : Spot w b i line col) : b < w.heap.size := (Array.getElem?_eq_some_iff.1 h).1
theorem Spot.below {w w' : World} {b i : Nat} {line col : Int} (h : Spot w b i line col) (hb : Below w.heap.size w w') : Spot w' b i line col := (hb.block b h.lt).trans h
theorem Spot.alloc {w : World} {b i : Nat} {line col : Int} (h : Spot w b i line col) (o : Obj) : Spot (w.alloc o) b i line col := (Below.heap_alloc w o b h.lt).trans h
theorem Spot.c0 {w : World} {b i : Nat} {line col : Int} (h : Spot w b i line col) : w.cell? ⟨b, 0, none⟩ = some (.int .i64 i) := cell_of_row _ _ _ _ _ _ h
theorem Spot.c1 {w : World} {b i : Nat} {line col : Int} (h : Spot w b i line col) : w.cell? ⟨b, 1, none⟩ = some (.int .i64 line) := cell_of_row _ _ _ _ _ _ h
theorem Spot.c2 {w : World} {b i : Nat} {line col : Int} (h : Spot w b i line col) : w.cell? ⟨b, 2, none⟩ = some (.int .i64 col) := cell_of_row _ _ _ _ _ _ h
theorem Spot.fz {w : World} {b i : Nat} {line col : Int} (h : Spot w b i line col) (j : Nat) : w.frozen? ⟨b, j, none⟩ = false := frozen_of_row _ _ _ _ _ h
theorem Spot.set3 {w : World} {b i : Nat} {line col : Int} (h : Spot w b i line col) (i' : Nat) (x line' col' : Int) (hx : x = i') :
    Spot (((w.setCell ⟨b, 0, none⟩ (.int .i64 x)).setCell ⟨b, 1, none⟩ (.int .i64 line')).setCell ⟨b, 2, none⟩ (.int .i64 col')) b i' line' col' := by
  subst hx
  have h0 := heap_setCell_same _ _ 0 _ _ (.int .i64 (i' : Int)) h
  have h1 := heap_setCell_same _ _ 1 _ _ (.int .i64 line') h0
  exact heap_setCell_same _ _ 2 _ _ (.int .i64 col') h1
theorem below_set3 {w w' : World} {b : Nat} (h : Below b w w') (x y z : Value) : Below b w (((w'.setCell ⟨b, 0, none⟩ x).setCell ⟨b, 1, none⟩ y).setCell ⟨b, 2, none⟩ z) :=
  Below.setCell (Below.setCell (Below.setCell h (p := ⟨b, 0, none⟩) (Nat.le_refl b) x) (p := ⟨b, 1, none⟩) (Nat.le_refl b) y) (p := ⟨b, 2, none⟩) (Nat.le_refl b) z
/-- How far a variable of three numbers has come. -/
def spotAt (w : World) (b : Nat) : Nat := (intOf ((w.cell? ⟨b, 0, none⟩).getD undef)).toNat
theorem Spot.at_ {w : World} {b i : Nat} {line col : Int} (h : Spot w b i line col) : spotAt w b = i := by
  unfold spotAt; rw [h.c0]; simp [intOf]

def ofV (s : ByteArray) (at_ : Int) : Value := if at_ < 0 ∨ at_ > s.size then .tuple #[.int .i64 0, .int .i64 0, .int .i64 1] else .tuple #[.int .i64 (ofL s.data.toList at_.toNat 1 1).1, .int .i64 (ofL s.data.toList at_.toNat 1 1).2, .int .i64 0]

set_option maxHeartbeats 1000000 in
theorem of_any (s : ByteArray) (k : Int) (w : World) (hs : s.size ≤ 72057594037927936) (hT : Tabs w) :
    Calls Tryd.prog 10 #[.string s, .int .i64 k] w fun e w' => e = .returned (ofV s k) ∧ Below w.heap.size w w' := by
  by_cases h : k < 0 ∨ k > s.size
  · have hv : ofV s k = .tuple #[.int .i64 0, .int .i64 0, .int .i64 1] := by unfold ofV; rw [if_pos h]
    rw [hv]
    rcases h with h | h
    all_goals
      go_enter Tryd.func10, Tryd.ntmps10
      go_wp2_with fail
      go_ret3
      exact ⟨rfl, Below.refl _ _⟩
  · have hv : ofV s k = .tuple #[.int .i64 (ofL s.data.toList k.toNat 1 1).1, .int .i64 (ofL s.data.toList k.toNat 1 1).2, .int .i64 0] := by unfold ofV; rw [if_neg h]
    rw [hv]
    obtain ⟨k, rfl⟩ := Int.eq_ofNat_of_zero_le (show 0 ≤ k by omega)
    rw [Int.toNat_natCast]
    have hk : k ≤ s.size := by omega
    have t1 : decide ((k : Int) < 0) = false := by simp
    have t2 : decide ((s.size : Int) < k) = false := by simp; omega
    have t2n : decide (s.size < k) = false := by simp; omega
    clear h hv
    obtain ⟨R, hR⟩ : ∃ R, ofL s.data.toList k 1 1 = R := ⟨_, rfl⟩
    rw [hR]
    have HR := Lib.hid hR
    clear hR
    have HT := Lib.hid hT
    clear hT
    go_enter Tryd.func10, Tryd.ntmps10
    go_wp2_with fail
    go_loopw [] (fun wr => ∃ (i : Nat) (line col : Int), Spot wr w.heap.size i line col ∧ Below w.heap.size w wr ∧ i ≤ k ∧ (1 ≤ line ∧ line ≤ 1 + i) ∧ (1 ≤ col ∧ col ≤ 1 + 8 * i) ∧ ofL (s.data.toList.drop i) (k - i) line col = R) (fun wr => k - spotAt wr w.heap.size)
    case atStart => exact ⟨0, 1, 1, heap_alloc_new _ _, (Below.refl _ _).alloc (Nat.le_refl _) _, by omega, by omega, by omega, HR.out⟩
    case round =>
      obtain ⟨i, line, col, hS, hb, hik, hl, hc, hO⟩ := hrel
      have c0 := hS.c0
      have c1 := hS.c1
      have c2 := hS.c2
      have HS := Lib.hid hS
      have HB := Lib.hid hb
      have HO := Lib.hid hO
      have hlt := hS.lt
      have hst := hb.size
      clear hS hb hO
      by_cases hi : i < k
      · have hne : s.data.toList.drop i ≠ [] := by intro e; have := congrArg List.length e; rw [List.length_drop, ← Lib.size_eq] at this; simp at this; omega
        have n1 := fun w hT => nextP_any s i line col w (by omega) hs (by omega) (by omega) hT
        have hls : lineS (s.data.toList.drop i) line ≤ line + 1 ∧ 1 ≤ lineS (s.data.toList.drop i) line := by unfold lineS; split <;> omega
        have hcs := colS_bd (s.data.toList.drop i) col (by omega)
        have hub := unit_bd _ hne
        have hon := ofL_on (s.data.toList.drop i) (k - i) line col hne
        have hsp := ofL_stop (s.data.toList.drop i) (k - i) line col
        rw [List.drop_drop] at hon
        generalize lineS (s.data.toList.drop i) line = L at *
        generalize colS (s.data.toList.drop i) col = C at *
        generalize unit (s.data.toList.drop i) = U at *
        have N1 := Lib.hid n1; have HON := Lib.hid hon; have HSP := Lib.hid hsp
        clear n1 hne hon hsp
        go_wp2_with fail
        refine (N1.out _ (HT.out.below HB.out)).mono ?_
        rintro e w1 ⟨rfl, hb1⟩
        have S1 := Lib.hid fun o => (HS.out.below hb1).alloc o
        have d0 := fun o => (S1.out o).c0
        have d1 := fun o => (S1.out o).c1
        have d2 := fun o => (S1.out o).c2
        have HB1 := Lib.hid (Below.then HB.out hb1)
        have hst1 := hb1.size
        clear hb1
        have z0 := fun o => (S1.out o).fz 0
        have z1 := fun o => (S1.out o).fz 1
        have z2 := fun o => (S1.out o).fz 2
        by_cases hu : i + U ≤ k
        · have t3 : decide ((k : Int) < i + U) = false := by simp; omega
          go_wp2_with fail
          go_roundw
          case rel =>
            refine ⟨i + U, L, C, (S1.out _).set3 _ _ _ _ (by omega), ?_, hu, by omega, by omega, ?_⟩
            · exact below_set3 (HB1.out.alloc (by omega) _) _ _ _
            · have := HON.out (by omega); rw [HO.out, Nat.sub_sub] at this; exact this.symm
          case measure =>
            rw [HS.out.at_, ((S1.out _).set3 (i + U) _ _ _ (by omega)).at_]; omega
        · have t3 : decide ((k : Int) < i + U) = true := by simp; omega
          have he : R = (line, col) := by rw [← HO.out]; exact HSP.out (by omega)
          subst he
          go_wp2_with fail
          go_quiet (fail)
          go_wp2_with fail
          go_ret3
          exact ⟨rfl, below_drewN (HB1.out.alloc (by omega) _) _⟩
      · have t3 : decide ((i : Int) < k) = false := by simp; omega
        have he : R = (line, col) := by rw [← HO.out, show k - i = 0 from by omega, ofL_end]
        subst he
        go_wp2_with fail
        go_quiet (fail)
        go_wp2_with fail
        go_ret3
        exact ⟨rfl, below_drewN HB.out _⟩

def widthV (s : ByteArray) (col : Int) : Value := if col < 1 ∨ col > 2147483648 then .tuple #[.int .i64 0, .int .i64 1] else .tuple #[.int .i64 (ofL s.data.toList s.size 1 col).2, .int .i64 0]

set_option maxHeartbeats 1000000 in
theorem width_any (s : ByteArray) (cl : Int) (w : World) (hs : s.size ≤ 72057594037927936) (hT : Tabs w) :
    Calls Tryd.prog 16 #[.string s, .int .i64 cl] w fun e w' => e = .returned (widthV s cl) ∧ Below w.heap.size w w' := by
  by_cases h : cl < 1 ∨ cl > 2147483648
  · have hv : widthV s cl = .tuple #[.int .i64 0, .int .i64 1] := by unfold widthV; rw [if_pos h]
    rw [hv]
    rcases h with h | h
    all_goals
      go_enter Tryd.func16, Tryd.ntmps16
      go_wp2_with fail
      go_ret2
      exact ⟨rfl, Below.refl _ _⟩
  · have hv : widthV s cl = .tuple #[.int .i64 (ofL s.data.toList s.size 1 cl).2, .int .i64 0] := by unfold widthV; rw [if_neg h]
    rw [hv]
    have t1 : decide (cl < 1) = false := by simp; omega
    have t2 : decide (2147483648 < cl) = false := by simp; omega
    have hcl : 1 ≤ cl ∧ cl ≤ 2147483648 := by omega
    clear h hv
    obtain ⟨R, hR⟩ : ∃ R, ofL s.data.toList s.size 1 cl = R := ⟨_, rfl⟩
    rw [hR]
    have HR := Lib.hid hR
    clear hR
    have HT := Lib.hid hT
    clear hT
    go_enter Tryd.func16, Tryd.ntmps16
    go_wp2_with fail
    go_loopw [] (fun wr => ∃ (i : Nat) (line col : Int), Spot wr w.heap.size i line col ∧ Below w.heap.size w wr ∧ i ≤ s.size ∧ (1 ≤ line ∧ line ≤ 1 + i) ∧ (1 ≤ col ∧ col ≤ cl + 8 * i) ∧ ofL (s.data.toList.drop i) (s.size - i) line col = R) (fun wr => s.size - spotAt wr w.heap.size)
    case atStart => exact ⟨0, 1, cl, heap_alloc_new _ _, (Below.refl _ _).alloc (Nat.le_refl _) _, by omega, by omega, by omega, HR.out⟩
    case round =>
      obtain ⟨i, line, col, hS, hb, hik, hl, hc, hO⟩ := hrel
      have c0 := hS.c0
      have c1 := hS.c1
      have c2 := hS.c2
      have HS := Lib.hid hS
      have HB := Lib.hid hb
      have HO := Lib.hid hO
      have hlt := hS.lt
      have hst := hb.size
      clear hS hb hO
      by_cases hi : i < s.size
      · have hne : s.data.toList.drop i ≠ [] := by intro e; have := congrArg List.length e; rw [List.length_drop, ← Lib.size_eq] at this; simp at this; omega
        have n1 := fun w hT => nextP_any s i line col w (by omega) hs (by omega) (by omega) hT
        have hls : lineS (s.data.toList.drop i) line ≤ line + 1 ∧ 1 ≤ lineS (s.data.toList.drop i) line := by unfold lineS; split <;> omega
        have hcs := colS_bd (s.data.toList.drop i) col (by omega)
        have hub := unit_bd _ hne
        rw [List.length_drop, ← Lib.size_eq] at hub
        have hon := ofL_on (s.data.toList.drop i) (s.size - i) line col hne
        rw [List.drop_drop] at hon
        generalize lineS (s.data.toList.drop i) line = L at *
        generalize colS (s.data.toList.drop i) col = C at *
        generalize unit (s.data.toList.drop i) = U at *
        have N1 := Lib.hid n1; have HON := Lib.hid hon
        clear n1 hne hon
        go_wp2_with fail
        refine (N1.out _ (HT.out.below HB.out)).mono ?_
        rintro e w1 ⟨rfl, hb1⟩
        have S1 := Lib.hid (HS.out.below hb1)
        have d0 := S1.out.c0
        have d1 := S1.out.c1
        have d2 := S1.out.c2
        have HB1 := Lib.hid (Below.then HB.out hb1)
        have hst1 := hb1.size
        clear hb1
        have z0 := S1.out.fz 0
        have z1 := S1.out.fz 1
        have z2 := S1.out.fz 2
        go_wp2_with fail
        go_roundw
        case rel =>
          refine ⟨i + U, L, C, S1.out.set3 _ _ _ _ (by omega), ?_, by omega, by omega, by omega, ?_⟩
          · exact below_set3 HB1.out _ _ _
          · have := HON.out (by omega); rw [HO.out, Nat.sub_sub] at this; exact this.symm
        case measure =>
          rw [HS.out.at_, (S1.out.set3 (i + U) _ _ _ (by omega)).at_]; omega
      · have t3 : decide ((i : Int) < s.size) = false := by simp; omega
        have he : R = (line, col) := by rw [← HO.out, show s.size - i = 0 from by omega, ofL_end]
        subst he
        go_wp2_with fail
        go_ret2
        exact ⟨rfl, HB.out⟩
end Go.Proofs.YtmbgfchbjedjnaaDoor
