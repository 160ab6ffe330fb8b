/- DERIVED. The walk of Find. -/
import Derived.Test.YtikkdkacflkifaaDoorFixA
import Derived.Laws.Rows
set_option linter.unusedSimpArgs false
set_option linter.unusedVariables false
namespace Go.Proofs.YtikkdkacflkifaaDoor
open Go.RowKit

/-- A block that holds one fixity. -/
def RowX (w : World) (g : Nat) (x : Fx) : Prop := w.heap[g]? = some (.cells #[.string x.op, .int .i64 x.side, .int .i64 x.prec] 25 (0, 0))
theorem RowX.lt {w : World} {g : Nat} {x : Fx} (h : RowX w g x) : g < w.heap.size := (Array.getElem?_eq_some_iff.1 h).1
theorem RowX.cells {w : World} {g : Nat} {x : Fx} (h : RowX w g x) : w.cell? ⟨g, 0, none⟩ = some (.string x.op) ∧ w.cell? ⟨g, 1, none⟩ = some (.int .i64 x.side) ∧ w.cell? ⟨g, 2, none⟩ = some (.int .i64 x.prec) :=
  ⟨cell_of_row _ _ _ _ _ _ h, cell_of_row _ _ _ _ _ _ h, cell_of_row _ _ _ _ _ _ h⟩
theorem RowX.frozen {w : World} {g : Nat} {x : Fx} (h : RowX w g x) (j : Nat) : w.frozen? ⟨g, j, none⟩ = false := frozen_of_row _ _ _ _ _ h
theorem RowX.keep {w w' : World} {g : Nat} {x : Fx} (h : RowX w g x) (hb : w'.heap[g]? = w.heap[g]?) : RowX w' g x := hb.trans h
theorem RowX.below {w w' : World} {g : Nat} {x : Fx} (h : RowX w g x) (hb : Below w.heap.size w w') : RowX w' g x := h.keep (hb.block g h.lt)
theorem RowX.alloc {w : World} {g : Nat} {x : Fx} (h : RowX w g x) (o : Obj) : RowX (w.alloc o) g x := (Below.heap_alloc w o g h.lt).trans h
theorem rowX_new (w : World) (x : Fx) : RowX (w.alloc (.cells #[.string x.op, .int .i64 x.side, .int .i64 x.prec] 25)) w.heap.size x := heap_alloc_new _ _
def zeroX : Fx := ⟨⟨#[]⟩, 0, 0⟩
def set3 (w : World) (g : Nat) (x : Fx) : World := ((w.setCell ⟨g, 0, none⟩ (.string x.op)).setCell ⟨g, 1, none⟩ (.int .i64 x.side)).setCell ⟨g, 2, none⟩ (.int .i64 x.prec)
theorem RowX.set {w : World} {g : Nat} {x : Fx} (h : RowX w g x) (y : Fx) : RowX (set3 w g y) g y :=
  heap_setCell_same _ _ 2 _ _ (.int .i64 y.prec) (heap_setCell_same _ _ 1 _ _ (.int .i64 y.side) (heap_setCell_same _ _ 0 _ _ (.string y.op) h))
theorem set3_below {B : Nat} {w w1 : World} (h : Below B w w1) (g : Nat) (hg : B ≤ g) (x : Fx) : Below B w (set3 w1 g x) :=
  ((h.setCell (p := ⟨g, 0, none⟩) hg _).setCell (p := ⟨g, 1, none⟩) hg _).setCell (p := ⟨g, 2, none⟩) hg _

theorem rowX_set3 {w : World} {g : Nat} {x : Fx} (h : RowX w g x) (op : ByteArray) (a b : Int) : (((w.setCell ⟨g, 0, none⟩ (.string op)).setCell ⟨g, 1, none⟩ (.int .i64 a)).setCell ⟨g, 2, none⟩ (.int .i64 b)).heap[g]? = some (.cells #[.string op, .int .i64 a, .int .i64 b] 25 (0, 0)) := h.set ⟨op, a, b⟩
theorem below_set3 {B : Nat} {w w1 : World} (h : Below B w w1) (g : Nat) (hg : B ≤ g) (op : ByteArray) (a b : Int) : Below B w (((w1.setCell ⟨g, 0, none⟩ (.string op)).setCell ⟨g, 1, none⟩ (.int .i64 a)).setCell ⟨g, 2, none⟩ (.int .i64 b)) := set3_below h g hg ⟨op, a, b⟩
theorem fxV_mk (op : ByteArray) (a b : Int) : fxV ⟨op, a, b⟩ = .agg #[.string op, .int .i64 a, .int .i64 b] := rfl
def findK (op : ByteArray) : List Fx → Fx
  | [] => ⟨op, 1, 9⟩
  | x :: r => if x.op = op then x else findK op r
def findR (op : ByteArray) : List Fx → Fx
  | [] => findK op knownL
  | x :: r => if x.op = op ∧ x.ok = true then x else findR op r
/-- An operator's fixity. -/
def findX (env : List Fx) (op : ByteArray) : Fx := findR op env.reverse
theorem findR_nil (op : ByteArray) : findR op [] = findK op knownL := rfl
theorem findR_drop (op : ByteArray) (l : List Fx) (i : Nat) (h : i < l.length) : findR op (l.drop i) = if l[i].op = op ∧ l[i].ok = true then l[i] else findR op (l.drop (i + 1)) := by
  rw [List.drop_eq_getElem_cons h, findR]
theorem findK_drop (op : ByteArray) (l : List Fx) (i : Nat) (h : i < l.length) : findK op (l.drop i) = if l[i].op = op then l[i] else findK op (l.drop (i + 1)) := by
  rw [List.drop_eq_getElem_cons h, findK]
theorem op_eq {a b : ByteArray} (h : a = b) : (a.toList == b.toList) = true := by simp [h]
theorem op_ne {a b : ByteArray} (h : ¬ a = b) : (a.toList == b.toList) = false := by
  rw [beq_eq_false_iff_ne]; intro e; apply h
  rw [Lib.toList_data, Lib.toList_data] at e
  cases a; cases b; congr 1; exact Array.toList_inj.1 e

set_option maxRecDepth 20000 in
set_option maxHeartbeats 4000000 in
theorem find_any (env : List Fx) (xa : Option Addr) (cap b o : Nat) (op : ByteArray) (w : World) (hxa : 0 < env.length → xa = some ⟨b, o, none⟩) (hE : Fixes w b o env) (hT : Tabs16 w) :
    Calls Tryd.prog 11 #[.slice xa env.length cap, .string op] w fun e w' => e = .returned (fxV (findX env op)) ∧ Below w.heap.size w w' := by
  obtain ⟨R, hR⟩ : ∃ R, findX env op = R := ⟨_, rfl⟩
  rw [hR]
  unfold findX at hR
  have hlen := hE.len
  have hrl : env.reverse.length = env.length := List.length_reverse
  have HE := Lib.hid hE
  have HX := Lib.hid hxa
  have HT := Lib.hid hT
  have HR := Lib.hid hR
  obtain ⟨KL, hKL, hK31, hKN⟩ : ∃ KL, knownL = KL ∧ KL.length = 31 ∧ findR op [] = findK op KL := ⟨_, rfl, known_len, rfl⟩
  have K1 := fun w h => known_any w h
  rw [hKL] at K1
  have K1 := Lib.hid K1
  have HK31 := Lib.hid hK31
  have HKN := Lib.hid hKN
  clear hE hxa hT hR hKL hK31 hKN
  go_enter Tryd.func11, Tryd.ntmps11
  go_wp2_with fail
  go_loopw [11] (fun a wr => ∃ i : Nat, a = .int .i64 i ∧ i ≤ env.length ∧ Below w.heap.size w wr ∧ RowX wr w.heap.size zeroX ∧ findR op (env.reverse.drop i) = R) (fun a _ => env.length - (intOf a).toNat)
  case atStart => exact ⟨0, rfl, by omega, (Below.refl _ _).alloc (Nat.le_refl _) _, rowX_new _ zeroX, by simpa using HR.out⟩
  case round =>
    obtain ⟨i, rfl, hi, hb, hX, hF⟩ := hrel
    have HB := Lib.hid hb
    have HN := Lib.hid hX
    have hst := hb.size
    have hnl := hX.lt
    by_cases hin : i < env.length
    · have hx := HX.out (by omega)
      subst hx
      have hkl : env.length - 1 - i < env.length := by omega
      have hEk := (HE.out.at_ (env.length - 1 - i) hkl).below hb
      have c0 := hEk.c0; have c1 := hEk.c1; have c2 := hEk.c2
      have hget : env.reverse[i]'(by rw [hrl]; exact hin) = env[env.length - 1 - i] := by
        rw [List.getElem_reverse]
      rw [findR_drop op env.reverse i (by rw [hrl]; exact hin), hget] at hF
      have HF := Lib.hid hF
      clear hb hX hF hget hEk
      obtain ⟨x, hx⟩ : ∃ x, env[env.length - 1 - i] = x := ⟨_, rfl⟩
      rw [hx] at c0 c1 c2 HF
      clear hx
      have HBn := Lib.hid (HB.out.alloc hst (.cells #[.string x.op, .int .i64 x.side, .int .i64 x.prec] 25))
      have HNn := Lib.hid (HN.out.alloc (.cells #[.string x.op, .int .i64 x.side, .int .i64 x.prec] 25))
      have HXn := Lib.hid (rowX_new wr x)
      by_cases hop : x.op = op
      · have e1 := op_eq hop
        have HOP := Lib.hid hop
        clear hop
        go_wp2_with fail
        refine (may_any x _).mono ?_
        cases hok : x.ok with
        | true =>
          rintro e w1 ⟨rfl, hb1⟩
          have HB1 := Lib.hid (Below.then HBn.out hb1)
          have HN1 := Lib.hid (HNn.out.below hb1)
          have hX1 := HXn.out.below hb1
          obtain ⟨d0, d1, d2⟩ := hX1.cells
          obtain ⟨e0, e1', e2⟩ := HN1.out.cells
          have z := HN1.out.frozen
          have HRX := Lib.hid (show R = x by rw [← HF.out, if_pos ⟨HOP.out, hok⟩])
          clear hb1 hX1 hok
          go_wp2_with fail
          refine bodyPost_ret (results_cell_row rfl _ _ w.heap.size 25 _ (0, 0) _ rfl (HN1.out.set x) Tryd.underlying25 rfl (by kernel_rfl)) rfl ?_
          exact ⟨by rw [HRX.out]; rfl, set3_below HB1.out _ (Nat.le_refl _) _⟩
        | false =>
          rintro e w1 ⟨rfl, hb1⟩
          have HB1 := Lib.hid (Below.then HBn.out hb1)
          have HN1 := Lib.hid (HNn.out.below hb1)
          have HRX := Lib.hid (show findR op (env.reverse.drop (i + 1)) = R by rw [← HF.out, if_neg (by rw [hok]; simp)])
          clear hb1 hok
          go_wp2_with fail
          go_roundw
          case rel => exact ⟨i + 1, by go_num, by omega, HB1.out, HN1.out, HRX.out⟩
          case measure => simp [intOf]; omega
      · have e1 := op_ne hop
        have HRX := Lib.hid (show findR op (env.reverse.drop (i + 1)) = R by rw [← HF.out, if_neg (fun h => hop h.1)])
        clear hop
        go_wp2_with fail
        go_roundw
        case rel => exact ⟨i + 1, by go_num, by omega, HBn.out, HNn.out, HRX.out⟩
        case measure => simp [intOf]; omega
    · have hi' : i = env.length := by omega
      subst hi'
      have t3 : decide ((env.length : Int) < env.length) = false := by simp
      rw [List.drop_eq_nil_of_le (by rw [hrl]; exact Nat.le_refl _)] at hF
      have HF := Lib.hid hF
      clear hb hX hF
      go_wp2_with fail
      refine (K1.out _ (HT.out.below HB.out)).mono ?_
      rintro e w1 ⟨v, rfl, hO1, hb1⟩
      obtain ⟨ya, yc, b2, o2, rfl, hya, hF2⟩ := hO1.fixes
      have HB1 := Lib.hid (Below.then HB.out hb1)
      have HN1 := Lib.hid (HN.out.below hb1)
      have HF2 := Lib.hid hF2
      have hya := hya (by rw [HK31.out]; omega)
      subst hya
      clear hb1 hO1 hF2
      rw [HK31.out]
      go_wp2_with fail
      generalize wr = W1 at *
      go_loopw [34] (fun a wr => ∃ j : Nat, a = .int .i64 j ∧ j ≤ 31 ∧ Below w.heap.size w wr ∧ Below w1.heap.size w1 wr ∧ RowX wr w.heap.size zeroX ∧ findK op (KL.drop j) = R) (fun a _ => 31 - (intOf a).toNat)
      case atStart => exact ⟨0, rfl, by omega, HB1.out, Below.refl _ _, HN1.out, by rw [List.drop_zero, ← HKN.out]; exact HF.out⟩
      case round =>
        obtain ⟨j, rfl, hj, hb, hb1, hX, hK⟩ := hrel
        have HBq := Lib.hid hb
        have HB1q := Lib.hid hb1
        have HNq := Lib.hid hX
        have hstq := hb.size
        have hst1 := hb1.size
        by_cases hjn : j < 31
        · have hjl : j < KL.length := by rw [HK31.out]; exact hjn
          have hEk := (HF2.out.at_ j hjl).below hb1
          have c0 := hEk.c0; have c1 := hEk.c1; have c2 := hEk.c2
          rw [findK_drop op KL j hjl] at hK
          have HK := Lib.hid hK
          clear hb hb1 hX hK hEk
          obtain ⟨x, hx⟩ : ∃ x, KL[j] = x := ⟨_, rfl⟩
          rw [hx] at c0 c1 c2 HK
          clear hx hjl
          have HBn := Lib.hid (HBq.out.alloc hstq (.cells #[.string x.op, .int .i64 x.side, .int .i64 x.prec] 25))
          have HB1n := Lib.hid (HB1q.out.alloc hst1 (.cells #[.string x.op, .int .i64 x.side, .int .i64 x.prec] 25))
          have HNn := Lib.hid (HNq.out.alloc (.cells #[.string x.op, .int .i64 x.side, .int .i64 x.prec] 25))
          obtain ⟨e0, e1', e2⟩ := HNn.out.cells
          have z := HNn.out.frozen
          by_cases hop : x.op = op
          · have e1 := op_eq hop
            have HRX := Lib.hid (show R = x by rw [← HK.out, if_pos hop])
            clear hop
            go_wp2_with fail
            refine bodyPost_ret (results_cell_row rfl _ _ w.heap.size 25 _ (0, 0) _ rfl (HNn.out.set x) Tryd.underlying25 rfl (by kernel_rfl)) rfl ?_
            exact ⟨by rw [HRX.out]; rfl, set3_below HBn.out _ (Nat.le_refl _) _⟩
          · have e1 := op_ne hop
            have HRX := Lib.hid (show findK op (KL.drop (j + 1)) = R by rw [← HK.out, if_neg hop])
            clear hop
            go_wp2_with fail
            go_roundw
            case rel => exact ⟨j + 1, by go_num, by omega, HBn.out, HB1n.out, HNn.out, HRX.out⟩
            case measure => simp [intOf]; omega
        · have hj' : j = 31 := by omega
          subst hj'
          have hK2 : R = ⟨op, 1, 9⟩ := by rw [← hK, List.drop_eq_nil_of_le (by rw [HK31.out]; exact Nat.le_refl _)]; rfl
          have HK2 := Lib.hid hK2
          obtain ⟨e0, e1', e2⟩ := HNq.out.cells
          have z := HNq.out.frozen
          clear hb hb1 hX hK hK2
          go_wp2_with fail
          refine bodyPost_ret (results_cell_row rfl _ _ w.heap.size 25 _ (0, 0) _ rfl (rowX_set3 HNq.out op 1 9) Tryd.underlying25 rfl (by kernel_rfl)) rfl ?_
          exact ⟨by rw [HK2.out, fxV_mk], below_set3 HBq.out _ (Nat.le_refl _) _ _ _⟩
end Go.Proofs.YtikkdkacflkifaaDoor
