/- DERIVED. The walk of Spread. -/
import Derived.Test.YtmbgfchbjedjnaaDoorPlaceI
import Derived.Shelf.Strings.BuilderK
set_option linter.unusedSimpArgs false
set_option linter.unusedVariables false
namespace Go.Proofs.YtmbgfchbjedjnaaDoor
open Go.RowKit

theorem lays166 : Lays.n166 Tryd.prog Tryd.lays105_ren := { Tryd.lays105 with }
theorem spreadL_nil (col : Int) : spreadL [] col = [] := by rw [spreadL]; simp
theorem spreadL_on (l : List UInt8) (col : Int) (h : l ≠ []) (h9 : 0 < nl l ∨ l.getD 0 0 ≠ 9) : spreadL l col = l.take (unit l) ++ spreadL (l.drop (unit l)) (colS l col) := by
  rw [spreadL, dif_neg h, if_pos h9]
theorem nl_tab (l : List UInt8) (h : l.getD 0 0 = 9) : nl l = 0 := by
  unfold nl; rw [h]; simp
theorem spreadL_tab (l : List UInt8) (col : Int) (h : l ≠ []) (h9 : l.getD 0 0 = 9) : spreadL l col = List.replicate (stopC col - col).toNat 32 ++ spreadL (l.drop (unit l)) (stopC col) := by
  have h0 := nl_tab l h9
  have hc : colS l col = stopC col := by unfold colS; rw [if_neg (by omega), if_pos h9]
  rw [spreadL, dif_neg h, if_neg (by rw [h0]; simp; exact h9), hc]

theorem rep_sp (k : Nat) : Lib.repeatL [32] k = List.replicate k 32 := by
  induction k with
  | zero => rfl
  | succ k ih => rw [Lib.repeatL, ih, List.replicate_succ]; rfl
theorem repeat_any (k : Nat) (w : World) (h1 : 1 ≤ k) (hk : k ≤ 8) :
    Calls Tryd.prog 27 #[.string ⟨#[32]⟩, .int .i64 k] w fun e w' => e = .returned (.string ⟨(List.replicate k 32).toArray⟩) ∧ Below w.heap.size w w' := by
  by_cases h2 : k = 1
  · subst h2
    refine (Tryd.strings_Repeat_one ⟨#[32]⟩ w).mono ?_
    rintro e w' ⟨rfl, rfl⟩
    exact ⟨rfl, Below.refl _ _⟩
  · refine (Tryd.strings_Repeat_main ⟨#[32]⟩ k w (by omega) (by omega) (by simp [ByteArray.size]; omega) (by simp [ByteArray.size])).mono ?_
    rintro e w' ⟨rfl, hb⟩
    refine ⟨?_, hb⟩
    rw [← rep_sp]

/-- A variable of three numbers stands behind a call that keeps the others. -/
theorem Spot.kept {w w' : World} {b k i : Nat} {line col : Int} (h : Spot w b i line col) (ho : Lib.OthersKept 5 (some k) w w') (hk : b ≠ k) : Spot w' b i line col :=
  ho b _ h (fun e => hk (Option.some.inj e)) (fun c fz e => by cases e)

theorem IsB.off {w w' : World} {T : TypeId} {B b k i : Nat} {line col : Int} {bs : List Value} (h : Lib.IsBuilderF T 5 B b bs w) (hT : T ≠ 36) (hk : Spot w k i line col) (ho : ∀ j, j ≠ k → w'.heap[j]? = w.heap[j]?) : Lib.IsBuilderF T 5 B b bs w' := by
  have key : ∀ p, Lib.BuilderAtF T 5 B b p bs w → Lib.BuilderAtF T 5 B b p bs w' := by
    rintro p ⟨hB, v, hb, hown, hne⟩
    have hkb : b ≠ k := by
      intro e1
      rw [e1, show w.heap[k]? = _ from hk] at hb
      injection hb with hb
      injection hb with _ hb
      exact hT hb.symm
    refine ⟨hB, v, (ho b hkb).trans hb, ⟨hown.1, ?_⟩, hne⟩
    rcases hown.2 with hn | ⟨g, cap, cur, fz, hv, hbg, hg, rest⟩
    · exact .inl hn
    · have hkg : g ≠ k := by
        intro e1
        rw [e1, show w.heap[k]? = _ from hk] at hg
        cases hg
      exact .inr ⟨g, cap, cur, fz, hv, hbg, (ho g hkg).trans hg, rest⟩
  exact h.elim (fun x => .inl (key _ x)) (fun x => .inr (key _ x))

theorem IsB.below {w w' : World} {T : TypeId} {B b : Nat} {bs : List Value} (h : Lib.IsBuilderF T 5 B b bs w) (ho : Below w.heap.size w w') : Lib.IsBuilderF T 5 B b bs w' := by
  have key : ∀ p, Lib.BuilderAtF T 5 B b p bs w → Lib.BuilderAtF T 5 B b p bs w' := by
    rintro p ⟨hB, v, hb, hown, hne⟩
    refine ⟨hB, v, (ho.block b (Array.getElem?_eq_some_iff.1 hb).1).trans hb, ⟨hown.1, ?_⟩, hne⟩
    rcases hown.2 with hn | ⟨g, cap, cur, fz, hv, hbg, hg, rest⟩
    · exact .inl hn
    · exact .inr ⟨g, cap, cur, fz, hv, hbg, (ho.block g (Array.getElem?_eq_some_iff.1 hg).1).trans hg, rest⟩
  exact h.elim (fun x => .inl (key _ x)) (fun x => .inr (key _ x))

/-- Behind a round: the variable is new, and has what the next place has. -/
theorem next_spot {w w3 : World} {T : TypeId} {B b bp i i' : Nat} {line col x L C : Int} {bs : List Value} (hT : T ≠ 36) (hS : Spot w3 bp i line col) (hI : Lib.IsBuilderF T 5 B b bs w3) (hB : Below B w w3) (hb : B ≤ bp) (hx : x = i') (hsz : B ≤ w3.heap.size) :
    Spot ((((w3.setCell ⟨bp, 0, none⟩ (.int .i64 x)).setCell ⟨bp, 1, none⟩ (.int .i64 L)).setCell ⟨bp, 2, none⟩ (.int .i64 C)).alloc (.cells #[.int .i64 x, .int .i64 L, .int .i64 C] 36)) w3.heap.size i' L C ∧
    Below B w ((((w3.setCell ⟨bp, 0, none⟩ (.int .i64 x)).setCell ⟨bp, 1, none⟩ (.int .i64 L)).setCell ⟨bp, 2, none⟩ (.int .i64 C)).alloc (.cells #[.int .i64 x, .int .i64 L, .int .i64 C] 36)) ∧
    Lib.IsBuilderF T 5 B b bs ((((w3.setCell ⟨bp, 0, none⟩ (.int .i64 x)).setCell ⟨bp, 1, none⟩ (.int .i64 L)).setCell ⟨bp, 2, none⟩ (.int .i64 C)).alloc (.cells #[.int .i64 x, .int .i64 L, .int .i64 C] 36)) := by
  subst hx
  have hs : (((w3.setCell ⟨bp, 0, none⟩ (.int .i64 (i' : Int))).setCell ⟨bp, 1, none⟩ (.int .i64 L)).setCell ⟨bp, 2, none⟩ (.int .i64 C)).heap.size = w3.heap.size := by simp
  refine ⟨?_, ?_, ?_⟩
  · have := heap_alloc_new (((w3.setCell ⟨bp, 0, none⟩ (.int .i64 (i' : Int))).setCell ⟨bp, 1, none⟩ (.int .i64 L)).setCell ⟨bp, 2, none⟩ (.int .i64 C)) (.cells #[.int .i64 (i' : Int), .int .i64 L, .int .i64 C] 36 (0, 0))
    rw [hs] at this; exact this
  · refine Below.alloc ?_ (by rw [hs]; exact hsz) _
    exact Below.setCell (Below.setCell (Below.setCell hB (p := ⟨bp, 0, none⟩) hb _) (p := ⟨bp, 1, none⟩) hb _) (p := ⟨bp, 2, none⟩) hb _
  · refine Lib.IsBuilderF.alloc (IsB.off hI hT hS fun j hj => ?_) _
    rw [Below.heap_setCell _ _ _ _ hj, Below.heap_setCell _ _ _ _ hj, Below.heap_setCell _ _ _ _ hj]
theorem ext_size (s : ByteArray) (a b : Nat) : (s.extract a b).size ≤ b - a := by simp [ByteArray.size_extract]; omega
def blockOf : Value → Nat
  | .pointer (some a) => a.block
  | _ => 0

set_option maxHeartbeats 1000000 in
theorem spread_any (s : ByteArray) (w : World) (hs : s.size ≤ 8388608) (hT : Tabs w) :
    Calls Tryd.prog 18 #[.string s] w fun e w' => e = .returned (strV (spreadL s.data.toList 1)) ∧ Below w.heap.size w w' := by
  obtain ⟨R, hR⟩ : ∃ R, spreadL s.data.toList 1 = R := ⟨_, rfl⟩
  rw [hR]
  have HR := Lib.hid hR
  have HT := Lib.hid hT
  clear hR hT
  go_enter Tryd.func18, Tryd.ntmps18
  go_wp2_with fail
  go_loopw [4] (fun p wr => ∃ (bp i : Nat) (line col : Int) (acc : List UInt8), p = .pointer (some ⟨bp, 0, none⟩) ∧ w.heap.size < bp ∧ Spot wr bp i line col ∧ Below w.heap.size w wr ∧ Lib.IsBuilderF 44 5 w.heap.size w.heap.size (Lib.byteCells acc) wr ∧ i ≤ s.size ∧ (1 ≤ line ∧ line ≤ 1 + i) ∧ (1 ≤ col ∧ col ≤ 1 + 8 * i) ∧ acc.length ≤ 8 * i ∧ acc ++ spreadL (s.data.toList.drop i) col = R) (fun p wr => s.size - spotAt wr (blockOf p))
  case atStart =>
    refine ⟨_, 0, 1, 1, [], rfl, by omega, ?_, ((Below.refl _ _).alloc (Nat.le_refl _) _).alloc (by rw [alloc_size]; omega) _, ?_, by omega, by omega, by omega, by simp, by simpa using HR.out⟩
    · have := heap_alloc_new (w.alloc (.cells #[.pointer none, .slice none 0 0] 44)) (.cells #[.int .i64 0, .int .i64 1, .int .i64 1] 36 (0, 0))
      rw [alloc_size] at this; exact this
    · exact Lib.IsBuilderF.alloc (Lib.IsBuilderF.of (Lib.fresh_isBuilder _ _ _)) _
  case round =>
    obtain ⟨bp, i, line, col, acc, rfl, hbp, hS, hb, hIB, his, hl, hc, hal, hO⟩ := hrel
    have c0 := hS.c0
    have c1 := hS.c1
    have c2 := hS.c2
    have HS := Lib.hid hS
    have HB := Lib.hid hb
    have HI := Lib.hid hIB
    have HO := Lib.hid hO
    have hlt := hS.lt
    have hst := hb.size
    clear hS hb hO hIB
    by_cases hi : i < s.size
    · have hne := drop_ne s i hi
      have n1 := fun w hT => nextP_any s i line col w hi (by omega) (by omega) (by omega) hT
      have hls : lineS (s.data.toList.drop i) line ≤ line + 1 ∧ 1 ≤ lineS (s.data.toList.drop i) line := by unfold lineS; split <;> omega
      have hcs := colS_bd (s.data.toList.drop i) col (by omega)
      have hub := unit_bd _ hne
      rw [List.length_drop, ← Lib.size_eq] at hub
      have c9 : ((s[i].toNat : Int) == 9) = (s[i] == 9) := toNat_beq _ 9
      by_cases h9 : s[i] = 9
      · rw [beq_iff_eq.2 h9] at c9
        have h9' : (s.data.toList.drop i).getD 0 0 = 9 := by rw [getD_drop, Nat.add_zero, ← byte_at s i hi]; exact h9
        have hC : colS (s.data.toList.drop i) col = stopC col := by unfold colS; rw [if_neg (by rw [nl_tab _ h9']; simp), if_pos h9']
        have hon := spreadL_tab (s.data.toList.drop i) col hne h9'
        have hsb := stopC_bd col
        rw [← hC] at hon hsb
        obtain ⟨K, hK⟩ : ∃ K : Nat, colS (s.data.toList.drop i) col - col = K := ⟨_, (Int.toNat_of_nonneg (by omega)).symm⟩
        rw [hK, Int.toNat_natCast] at hon
        clear h9' hC
        rw [List.drop_drop] at hon
        generalize lineS (s.data.toList.drop i) line = L at *
        generalize colS (s.data.toList.drop i) col = C at *
        generalize unit (s.data.toList.drop i) = U at *
        have N1 := Lib.hid n1; have HON := Lib.hid hon
        clear n1 hne hon h9
        go_wp2_with fail
        refine (N1.out _ (HT.out.below HB.out)).mono ?_
        rintro e w1 ⟨rfl, hb1⟩
        have S1 := Lib.hid fun o => (HS.out.below hb1).alloc o
        have d0 := fun o => (S1.out o).c0
        have d1 := fun o => (S1.out o).c1
        have d2 := fun o => (S1.out o).c2
        have HB1 := Lib.hid (Below.then HB.out hb1)
        have hst1 := hb1.size
        have z0 := fun o => (S1.out o).fz 0
        have z1 := fun o => (S1.out o).fz 1
        have z2 := fun o => (S1.out o).fz 2
        go_wp2_with fail
        refine (repeat_any K _ (by omega) (by omega)).mono ?_
        rintro e wq ⟨rfl, hbq⟩
        have hrow := heap_alloc_new w1 (.cells #[.int .i64 ((i : Int) + U), .int .i64 L, .int .i64 C] 36 (0, 0))
        have hI2 := Lib.IsBuilderF.alloc (IsB.below HI.out hb1) (.cells #[.int .i64 ((i : Int) + U), .int .i64 L, .int .i64 C] 36 (0, 0))
        have HB2 := Lib.hid (HB1.out.alloc (by omega) (.cells #[.int .i64 ((i : Int) + U), .int .i64 L, .int .i64 C] 36 (0, 0)))
        have S2 := S1.out (.cells #[.int .i64 ((i : Int) + U), .int .i64 L, .int .i64 C] 36 (0, 0))
        clear d0 d1 d2 z0 z1 z2
        have S2 := S2.below hbq
        have hI2 := IsB.below hI2 hbq
        have HB2 := Lib.hid (Below.then HB2.out hbq)
        have hrow := (hbq.block _ (by rw [alloc_size]; omega)).trans hrow
        have hstq := HB2.out.size
        have hltq := S2.lt
        clear hbq
        go_wp2_with fail
        refine (Any.Builder_WriteString_k lays166 Tryd.Builder_Extra_105 _ _ _ _ _ hI2 ?hlen (by omega)).mono ?_
        case hlen => rw [Lib.byteCells_length]; simp [ByteArray.size]; omega
        rintro e w3 ⟨rfl, hI3, hb3, hk3⟩
        have SP := S2.kept hk3 (by omega)
        have hq : w3.heap[w1.heap.size]? = some (.cells #[.int .i64 ((i : Int) + U), .int .i64 L, .int .i64 C] 36 (0, 0)) := hk3 _ _ hrow (fun e => by have := Option.some.inj e; omega) (fun c fz e => by cases e)
        have d0 := SP.c0; have d1 := SP.c1; have d2 := SP.c2
        have z0 := SP.fz 0; have z1 := SP.fz 1; have z2 := SP.fz 2
        have q0 : w3.cell? ⟨w1.heap.size, 0, none⟩ = some (.int .i64 ((i : Int) + U)) := cell_of_row _ _ _ _ _ _ hq
        have q1 : w3.cell? ⟨w1.heap.size, 1, none⟩ = some (.int .i64 L) := cell_of_row _ _ _ _ _ _ hq
        have q2 : w3.cell? ⟨w1.heap.size, 2, none⟩ = some (.int .i64 C) := cell_of_row _ _ _ _ _ _ hq
        have HB3 := Lib.hid (HB2.out.trans hb3)
        have hst3 := HB3.out.size
        have hlt3 := SP.lt
        have HSP := Lib.hid SP
        have hI4 : Lib.IsBuilderF 44 5 w.heap.size w.heap.size (Lib.byteCells (acc ++ List.replicate K 32)) w3 := by
          rw [Lib.byteCells_append]; rw [show Lib.strCells ⟨Array.replicate K 32⟩ = Lib.byteCells (List.replicate K 32) by rw [Lib.strCells_eq]; simp] at hI3; exact .inr hI3
        have HI4 := Lib.hid hI4
        clear hI4 hI3 hI2 hb3 hk3 hrow S2 SP hq hb1
        go_wp2_with fail
        have hN := next_spot (L := L) (C := C) (x := (i : Int) + U) (i' := i + U) (by decide) HSP.out HI4.out HB3.out (by omega) (by omega) (by omega)
        go_roundw
        case rel =>
          refine ⟨_, i + U, L, C, _, rfl, by omega, hN.1, hN.2.1, hN.2.2, by omega, by omega, by omega, ?_, ?_⟩
          · rw [List.length_append, List.length_replicate]; omega
          · rw [← HO.out, HON.out, List.append_assoc]
        case measure =>
          show s.size - spotAt _ w3.heap.size < s.size - spotAt wr bp
          rw [hN.1.at_, HS.out.at_]; omega
      · rw [beq_eq_false_iff_ne.2 h9] at c9
        have hon := spreadL_on (s.data.toList.drop i) col hne (.inr (by rw [getD_drop, Nat.add_zero, ← byte_at s i hi]; exact h9))
        rw [List.drop_drop] at hon
        generalize lineS (s.data.toList.drop i) line = L at *
        generalize colS (s.data.toList.drop i) col = C at *
        generalize unit (s.data.toList.drop i) = U at *
        have N1 := Lib.hid n1; have HON := Lib.hid hon
        clear n1 hne hon h9
        go_wp2_with fail
        refine (N1.out _ (HT.out.below HB.out)).mono ?_
        rintro e w1 ⟨rfl, hb1⟩
        have S1 := Lib.hid fun o => (HS.out.below hb1).alloc o
        have d0 := fun o => (S1.out o).c0
        have d1 := fun o => (S1.out o).c1
        have d2 := fun o => (S1.out o).c2
        have HB1 := Lib.hid (Below.then HB.out hb1)
        have hst1 := hb1.size
        have z0 := fun o => (S1.out o).fz 0
        have z1 := fun o => (S1.out o).fz 1
        have z2 := fun o => (S1.out o).fz 2
        go_wp2_with fail
        have hrow := heap_alloc_new w1 (.cells #[.int .i64 ((i : Int) + U), .int .i64 L, .int .i64 C] 36 (0, 0))
        have hI2 := Lib.IsBuilderF.alloc (IsB.below HI.out hb1) (.cells #[.int .i64 ((i : Int) + U), .int .i64 L, .int .i64 C] 36 (0, 0))
        have HB2 := Lib.hid (HB1.out.alloc (by omega) (.cells #[.int .i64 ((i : Int) + U), .int .i64 L, .int .i64 C] 36 (0, 0)))
        have S2 := S1.out (.cells #[.int .i64 ((i : Int) + U), .int .i64 L, .int .i64 C] 36 (0, 0))
        clear d0 d1 d2 z0 z1 z2
        refine (Any.Builder_WriteString_k lays166 Tryd.Builder_Extra_105 _ _ _ _ _ hI2 ?hlen (by rw [alloc_size]; omega)).mono ?_
        case hlen => rw [Lib.byteCells_length]; have := ext_size s i (i + U); omega
        rintro e w3 ⟨rfl, hI3, hb3, hk3⟩
        have SP := S2.kept hk3 (by omega)
        have hq : w3.heap[w1.heap.size]? = some (.cells #[.int .i64 ((i : Int) + U), .int .i64 L, .int .i64 C] 36 (0, 0)) := hk3 _ _ hrow (fun e => by have := Option.some.inj e; omega) (fun c fz e => by cases e)
        have d0 := SP.c0; have d1 := SP.c1; have d2 := SP.c2
        have z0 := SP.fz 0; have z1 := SP.fz 1; have z2 := SP.fz 2
        have q0 : w3.cell? ⟨w1.heap.size, 0, none⟩ = some (.int .i64 ((i : Int) + U)) := cell_of_row _ _ _ _ _ _ hq
        have q1 : w3.cell? ⟨w1.heap.size, 1, none⟩ = some (.int .i64 L) := cell_of_row _ _ _ _ _ _ hq
        have q2 : w3.cell? ⟨w1.heap.size, 2, none⟩ = some (.int .i64 C) := cell_of_row _ _ _ _ _ _ hq
        have HB3 := Lib.hid (HB2.out.trans hb3)
        have hst3 := HB3.out.size
        have hlt3 := SP.lt
        have HSP := Lib.hid SP
        have hI4 : Lib.IsBuilderF 44 5 w.heap.size w.heap.size (Lib.byteCells (acc ++ (s.data.toList.drop i).take U)) w3 := by
          rw [Lib.byteCells_append]; rw [Lib.strCells_eq, Lib.extract_data, Nat.add_sub_cancel_left] at hI3; exact .inr hI3
        have HI4 := Lib.hid hI4
        clear hI4 hI3 hI2 hb3 hk3 hrow S2 SP hq hb1
        go_wp2_with fail
        have hN := next_spot (L := L) (C := C) (x := (i : Int) + U) (i' := i + U) (by decide) HSP.out HI4.out HB3.out (by omega) (by omega) (by omega)
        go_roundw
        case rel =>
          refine ⟨_, i + U, L, C, _, rfl, by omega, hN.1, hN.2.1, hN.2.2, by omega, by omega, by omega, ?_, ?_⟩
          · rw [List.length_append, List.length_take]; omega
          · rw [← HO.out, HON.out, List.append_assoc]
        case measure =>
          show s.size - spotAt _ w3.heap.size < s.size - spotAt wr bp
          rw [hN.1.at_, HS.out.at_]; omega
    · have hd : s.data.toList.drop i = [] := List.drop_eq_nil_of_le (by rw [← Lib.size_eq]; omega)
      have he : R = acc := by rw [← HO.out, hd, spreadL_nil, List.append_nil]
      subst he
      have t3 : decide ((i : Int) < s.size) = false := by simp; omega
      go_wp2_with fail
      refine (Tryd.Builder_String_any_k _ _ _ _ HI.out (by omega)).mono ?_
      rintro e w1 ⟨rfl, _, hb1, _⟩
      have HB1 := Lib.hid (HB.out.trans hb1)
      clear hb1
      go_wp2_with fail
      go_ret
      exact ⟨rfl, HB1.out⟩
end Go.Proofs.YtmbgfchbjedjnaaDoor
