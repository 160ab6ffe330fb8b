/- DERIVED. The walks of leaf and oper, of layer 16's law; rows of five. -/
import Derived.Test.YtikkdkacflkifaaDoorFixH
set_option linter.unusedSimpArgs false
set_option linter.unusedVariables false
namespace Go.Proofs.YtikkdkacflkifaaDoor
open Go.RowKit

def leafT (k : Int) (s : ByteArray) : Tr := .mk 1 k s 0 0 []
def operT (s : ByteArray) : Tr := .mk 18 0 ⟨#[]⟩ 0 0 [leafT 5 s]
set_option maxHeartbeats 1000000 in
theorem leaf_any (k : Int) (s : ByteArray) (w : World) : Calls Tryd.prog 22 #[.int .i64 k, .string s] w fun e w' => e = .returned (nodeV (leafT k s) (.slice none 0 0)) ∧ Below w.heap.size w w' := by
  have HR := Lib.hid (rowN_new w (leafT k s) (.slice none 0 0))
  have HB := Lib.hid ((Below.refl w.heap.size w).alloc (Nat.le_refl _) (.cells #[.int .i64 1, .int .i64 k, .string s, .int .i64 0, .int .i64 0, .slice none 0 0] 32))
  go_enter Tryd.func22, Tryd.ntmps22
  go_wp2_with fail
  refine bodyPost_ret (results_cell_row rfl _ _ w.heap.size 32 _ (0, 0) _ rfl HR.out Tryd.underlying32 rfl (by kernel_rfl)) rfl ?_
  exact ⟨rfl, HB.out⟩
/-- What oper answers. -/
def OperPost (s : ByteArray) (w : World) (e : Ending) (w' : World) : Prop := ∃ x c, e = .returned (nodeV (operT s) (.slice x 1 c)) ∧ Lies w' (operT s) (.slice x 1 c) ∧ Below w.heap.size w w'
theorem one_lies {P : Nat → Prop} {w : World} {n : Tr} {x : Option Addr} {c : Nat} (ty : TypeId) (k : Int) (hn : LiesP P w n (.slice x n.kids.length c)) (hP : P w.heap.size) :
    LiesP P (w.alloc (.cells #[.int .i64 n.kind, .int .i64 n.form, .string n.text, .int .i64 n.line, .int .i64 n.col, .slice x n.kids.length c] ty)) (nodeOf k [n]) (.slice (some ⟨w.heap.size, 0, none⟩) 1 1) := by
  have hnew := heap_alloc_new w (.cells #[.int .i64 n.kind, .int .i64 n.form, .string n.text, .int .i64 n.line, .int .i64 n.col, .slice x n.kids.length c] ty)
  have hkeep := fun j (hj : j < w.heap.size) (_ : P j) => Below.heap_alloc w (.cells #[.int .i64 n.kind, .int .i64 n.form, .string n.text, .int .i64 n.line, .int .i64 n.col, .slice x n.kids.length c] ty) j hj
  refine .mk k 0 ⟨#[]⟩ 0 0 [n] (some ⟨w.heap.size, 0, none⟩) 1 w.heap.size 0 (fun i => .slice x n.kids.length c) ⟨Nat.le_refl _, by decide +kernel⟩ (fun _ => ⟨rfl, hP⟩) (fun i h => ?_) (fun i h => ?_)
  · match i, h with
    | 0, _ => exact ⟨cell_of_row _ _ _ _ _ _ hnew, cell_of_row _ _ _ _ _ _ hnew, cell_of_row _ _ _ _ _ _ hnew, cell_of_row _ _ _ _ _ _ hnew, cell_of_row _ _ _ _ _ _ hnew, cell_of_row _ _ _ _ _ _ hnew⟩
  · match i, h with
    | 0, _ => exact hn.keep hkeep
set_option maxHeartbeats 1000000 in
theorem oper_any (s : ByteArray) (w : World) : Calls Tryd.prog 23 #[.string s] w (OperPost s w) := by
  have HZ := Lib.hid (rowN_new w zeroT (.slice none 0 0))
  have HB := Lib.hid ((Below.refl w.heap.size w).alloc (Nat.le_refl _) (.cells #[.int .i64 0, .int .i64 0, .string ⟨#[]⟩, .int .i64 0, .int .i64 0, .slice none 0 0] 32))
  go_enter Tryd.func23, Tryd.ntmps23
  go_wp2_with fail
  refine (leaf_any 5 s _).mono ?_
  rintro e w1 ⟨rfl, hb1⟩
  have HZ1 := Lib.hid (show RowN w1 w.heap.size zeroT (.slice none 0 0) from HZ.out.keep (hb1.block w.heap.size (by simp)))
  have HB1 := Lib.hid (Below.then HB.out hb1)
  have hlt : w.heap.size < w1.heap.size := HZ1.out.lt
  obtain ⟨e0, e1, e2, e3, e4, e5⟩ := HZ1.out.cells
  have z := HZ1.out.frozen
  clear hb1
  unfold nodeV
  go_wp2_with fail
  obtain ⟨wN, hwN, hR9, ho9, hz9, ho1, ho2, ho3⟩ := store_node HZ1.out 18 0 0 0 ⟨#[]⟩ (.slice (some ⟨w1.heap.size, 0, none⟩) 1 1)
  rw [hwN]
  have HN9 := (hR9 (operT s) rfl rfl rfl rfl rfl).alloc (.cells #[.int .i64 (leafT 5 s).kind, .int .i64 (leafT 5 s).form, .string (leafT 5 s).text, .int .i64 (leafT 5 s).line, .int .i64 (leafT 5 s).col, .slice none 0 0] 32)
  have hB9 := (below_fresh HB1.out (g := w.heap.size) (Nat.le_refl _) ho9 hz9 ho1 ho2 ho3).alloc (by rw [hz9]; omega) (.cells #[.int .i64 (leafT 5 s).kind, .int .i64 (leafT 5 s).form, .string (leafT 5 s).text, .int .i64 (leafT 5 s).line, .int .i64 (leafT 5 s).col, .slice none 0 0] 32)
  have hL9 : Lies (wN.alloc (.cells #[.int .i64 (leafT 5 s).kind, .int .i64 (leafT 5 s).form, .string (leafT 5 s).text, .int .i64 (leafT 5 s).line, .int .i64 (leafT 5 s).col, .slice none 0 0] 32)) (operT s) (.slice (some ⟨w1.heap.size, 0, none⟩) 1 1) := by
    have h := (one_lies (P := fun _ => True) 32 18 (show LiesP (fun _ => True) wN (leafT 5 s) (.slice none (leafT 5 s).kids.length 0) from LiesP.leaf 1 5 s 0 0) trivial).lies
    rw [hz9] at h
    exact h
  refine bodyPost_ret (results_cell_row rfl _ _ w.heap.size 32 _ (0, 0) _ rfl HN9 Tryd.underlying32 rfl (by kernel_rfl)) rfl ?_
  exact ⟨some ⟨w1.heap.size, 0, none⟩, 1, rfl, hL9, hB9⟩
theorem five_lies {w : World} {n1 n2 n3 n4 n5 : Tr} {x1 x2 x3 x4 x5 : Option Addr} {c1 c2 c3 c4 c5 : Nat} (ty : TypeId) (k : Int) (h1 : Lies w n1 (.slice x1 n1.kids.length c1)) (h2 : Lies w n2 (.slice x2 n2.kids.length c2)) (h3 : Lies w n3 (.slice x3 n3.kids.length c3)) (h4 : Lies w n4 (.slice x4 n4.kids.length c4)) (h5 : Lies w n5 (.slice x5 n5.kids.length c5)) :
    Lies (w.alloc (.cells #[.int .i64 n1.kind, .int .i64 n1.form, .string n1.text, .int .i64 n1.line, .int .i64 n1.col, .slice x1 n1.kids.length c1, .int .i64 n2.kind, .int .i64 n2.form, .string n2.text, .int .i64 n2.line, .int .i64 n2.col, .slice x2 n2.kids.length c2, .int .i64 n3.kind, .int .i64 n3.form, .string n3.text, .int .i64 n3.line, .int .i64 n3.col, .slice x3 n3.kids.length c3, .int .i64 n4.kind, .int .i64 n4.form, .string n4.text, .int .i64 n4.line, .int .i64 n4.col, .slice x4 n4.kids.length c4, .int .i64 n5.kind, .int .i64 n5.form, .string n5.text, .int .i64 n5.line, .int .i64 n5.col, .slice x5 n5.kids.length c5] ty)) (nodeOf k [n1, n2, n3, n4, n5]) (.slice (some ⟨w.heap.size, 0, none⟩) 5 5) := by
  have hnew := heap_alloc_new w (.cells #[.int .i64 n1.kind, .int .i64 n1.form, .string n1.text, .int .i64 n1.line, .int .i64 n1.col, .slice x1 n1.kids.length c1, .int .i64 n2.kind, .int .i64 n2.form, .string n2.text, .int .i64 n2.line, .int .i64 n2.col, .slice x2 n2.kids.length c2, .int .i64 n3.kind, .int .i64 n3.form, .string n3.text, .int .i64 n3.line, .int .i64 n3.col, .slice x3 n3.kids.length c3, .int .i64 n4.kind, .int .i64 n4.form, .string n4.text, .int .i64 n4.line, .int .i64 n4.col, .slice x4 n4.kids.length c4, .int .i64 n5.kind, .int .i64 n5.form, .string n5.text, .int .i64 n5.line, .int .i64 n5.col, .slice x5 n5.kids.length c5] ty)
  have hkeep := (Below.refl w.heap.size w).alloc (Nat.le_refl _) (.cells #[.int .i64 n1.kind, .int .i64 n1.form, .string n1.text, .int .i64 n1.line, .int .i64 n1.col, .slice x1 n1.kids.length c1, .int .i64 n2.kind, .int .i64 n2.form, .string n2.text, .int .i64 n2.line, .int .i64 n2.col, .slice x2 n2.kids.length c2, .int .i64 n3.kind, .int .i64 n3.form, .string n3.text, .int .i64 n3.line, .int .i64 n3.col, .slice x3 n3.kids.length c3, .int .i64 n4.kind, .int .i64 n4.form, .string n4.text, .int .i64 n4.line, .int .i64 n4.col, .slice x4 n4.kids.length c4, .int .i64 n5.kind, .int .i64 n5.form, .string n5.text, .int .i64 n5.line, .int .i64 n5.col, .slice x5 n5.kids.length c5] ty)
  refine Lies.mk k 0 ⟨#[]⟩ 0 0 [n1, n2, n3, n4, n5] (some ⟨w.heap.size, 0, none⟩) 5 w.heap.size 0 (fun i => if i = 0 then .slice x1 n1.kids.length c1 else if i = 1 then .slice x2 n2.kids.length c2 else if i = 2 then .slice x3 n3.kids.length c3 else if i = 3 then .slice x4 n4.kids.length c4 else .slice x5 n5.kids.length c5) ⟨Nat.le_refl _, by decide +kernel⟩ (fun _ => rfl) (fun i h => ?_) (fun i h => ?_)
  · match i, h with
    | 0, _ => exact ⟨cell_of_row _ _ _ _ _ _ hnew, cell_of_row _ _ _ _ _ _ hnew, cell_of_row _ _ _ _ _ _ hnew, cell_of_row _ _ _ _ _ _ hnew, cell_of_row _ _ _ _ _ _ hnew, cell_of_row _ _ _ _ _ _ hnew⟩
    | 1, _ => exact ⟨cell_of_row _ _ _ _ _ _ hnew, cell_of_row _ _ _ _ _ _ hnew, cell_of_row _ _ _ _ _ _ hnew, cell_of_row _ _ _ _ _ _ hnew, cell_of_row _ _ _ _ _ _ hnew, cell_of_row _ _ _ _ _ _ hnew⟩
    | 2, _ => exact ⟨cell_of_row _ _ _ _ _ _ hnew, cell_of_row _ _ _ _ _ _ hnew, cell_of_row _ _ _ _ _ _ hnew, cell_of_row _ _ _ _ _ _ hnew, cell_of_row _ _ _ _ _ _ hnew, cell_of_row _ _ _ _ _ _ hnew⟩
    | 3, _ => exact ⟨cell_of_row _ _ _ _ _ _ hnew, cell_of_row _ _ _ _ _ _ hnew, cell_of_row _ _ _ _ _ _ hnew, cell_of_row _ _ _ _ _ _ hnew, cell_of_row _ _ _ _ _ _ hnew, cell_of_row _ _ _ _ _ _ hnew⟩
    | 4, _ => exact ⟨cell_of_row _ _ _ _ _ _ hnew, cell_of_row _ _ _ _ _ _ hnew, cell_of_row _ _ _ _ _ _ hnew, cell_of_row _ _ _ _ _ _ hnew, cell_of_row _ _ _ _ _ _ hnew, cell_of_row _ _ _ _ _ _ hnew⟩
  · match i, h with
    | 0, _ => exact h1.keep hkeep
    | 1, _ => exact h2.keep hkeep
    | 2, _ => exact h3.keep hkeep
    | 3, _ => exact h4.keep hkeep
    | 4, _ => exact h5.keep hkeep
end Go.Proofs.YtikkdkacflkifaaDoor
