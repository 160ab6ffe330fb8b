/- DERIVED. The resolver: its state; the walks of take and of how a fixity is found. -/
import Derived.Test.YtikkdkacflkifaaDoorFixC
import Derived.Test.YtikkdkacflkifaaDoorTree
import Derived.Laws.EntriesVeiled
set_option linter.unusedSimpArgs false
set_option linter.unusedVariables false
namespace Go.Proofs.YtikkdkacflkifaaDoor
open Go.RowKit

def fixF (be : Nat) : Value := .func (.func 35) #[] #[.pointer (some ⟨be, 0, none⟩)]
def begF (rb : Nat) : Value := .func (.func 36) #[.pointer (some ⟨rb, 0, none⟩)] #[]
def goF (rb : Nat) : Value := .func (.func 37) #[.pointer (some ⟨rb, 0, none⟩)] #[]
/-- The resolver. -/
def RV (w : World) (rb be : Nat) (sv : Value) (wr : Bool) : Prop := w.heap[rb]? = some (.cells #[fixF be, sv, .bool wr, begF rb, goF rb] 66 (0, 0))
theorem RV.lt {w : World} {rb be : Nat} {sv : Value} {wr : Bool} (h : RV w rb be sv wr) : rb < w.heap.size := (Array.getElem?_eq_some_iff.1 h).1
theorem RV.c0 {w : World} {rb be : Nat} {sv : Value} {wr : Bool} (h : RV w rb be sv wr) : w.cell? ⟨rb, 0, none⟩ = some (.func (.func 35) #[] #[.pointer (some ⟨be, 0, none⟩)]) := cell_of_row _ _ _ _ _ _ h
theorem RV.c1 {w : World} {rb be : Nat} {sv : Value} {wr : Bool} (h : RV w rb be sv wr) : w.cell? ⟨rb, 1, none⟩ = some sv := cell_of_row _ _ _ _ _ _ h
theorem RV.c2 {w : World} {rb be : Nat} {sv : Value} {wr : Bool} (h : RV w rb be sv wr) : w.cell? ⟨rb, 2, none⟩ = some (.bool wr) := cell_of_row _ _ _ _ _ _ h
theorem RV.c3 {w : World} {rb be : Nat} {sv : Value} {wr : Bool} (h : RV w rb be sv wr) : w.cell? ⟨rb, 3, none⟩ = some (.func (.func 36) #[.pointer (some ⟨rb, 0, none⟩)] #[]) := cell_of_row _ _ _ _ _ _ h
theorem RV.c4 {w : World} {rb be : Nat} {sv : Value} {wr : Bool} (h : RV w rb be sv wr) : w.cell? ⟨rb, 4, none⟩ = some (.func (.func 37) #[.pointer (some ⟨rb, 0, none⟩)] #[]) := cell_of_row _ _ _ _ _ _ h
theorem RV.frozen {w : World} {rb be : Nat} {sv : Value} {wr : Bool} (h : RV w rb be sv wr) (j : Nat) : w.frozen? ⟨rb, j, none⟩ = false := frozen_of_row _ _ _ _ _ h
theorem RV.below {w w' : World} {rb be : Nat} {sv : Value} {wr : Bool} (h : RV w rb be sv wr) (hb : Below w.heap.size w w') : RV w' rb be sv wr := (hb.block rb h.lt).trans h
theorem RV.alloc {w : World} {rb be : Nat} {sv : Value} {wr : Bool} (h : RV w rb be sv wr) (o : Obj) : RV (w.alloc o) rb be sv wr := (Below.heap_alloc w o rb h.lt).trans h
theorem RV.drewN {w : World} {rb be : Nat} {sv : Value} {wr : Bool} (h : RV w rb be sv wr) (n : Nat) : RV (w.drewN n) rb be sv wr := h
theorem RV.set1 {w : World} {rb be : Nat} {sv : Value} {wr : Bool} (h : RV w rb be sv wr) (v : Value) : RV (w.setCell ⟨rb, 1, none⟩ v) rb be v wr := heap_setCell_same _ _ 1 _ _ v h
theorem RV.set2 {w : World} {rb be : Nat} {sv : Value} {wr : Bool} (h : RV w rb be sv wr) (b : Bool) : RV (w.setCell ⟨rb, 2, none⟩ (.bool b)) rb be sv b := heap_setCell_same _ _ 2 _ _ (.bool b) h

/-- What is left of a row of kids: a slice that begins at its k-th. -/
def RestAt (b o : Nat) (ks : List Tr) (k : Nat) (sv : Value) : Prop :=
  ∃ (xa : Option Addr) (cap : Nat), sv = .slice xa (ks.length - k) cap ∧ (k < ks.length → xa = some ⟨b, o + k * 6, none⟩) ∧ ks.length - k ≤ cap ∧ cap ≤ maxLen

theorem rowN2 (w : World) (t : Tr) (kv : Value) (o : Obj) (n : Nat) (hn : n = w.heap.size) : RowN ((w.alloc (.cells #[.int .i64 t.kind, .int .i64 t.form, .string t.text, .int .i64 t.line, .int .i64 t.col, kv] 32)).alloc o) n t kv := by
  subst hn; exact (rowN_new w t kv).alloc o
def TakePost (rb be b o : Nat) (ks : List Tr) (k : Nat) (wr : Bool) (t : Tr) (kv : Value) (w : World) (e : Ending) (w' : World) : Prop :=
  e = .returned (nodeV t kv) ∧ But rb w w' ∧ ∃ sv, RestAt b o ks (k + 1) sv ∧ RV w' rb be sv wr
set_option maxRecDepth 20000 in
set_option maxHeartbeats 4000000 in
theorem take_any (rb be b o : Nat) (ks : List Tr) (k : Nat) (sv : Value) (wr : Bool) (t : Tr) (x : Option Addr) (c : Nat) (w : World) (hk : k < ks.length) (hr : RestAt b o ks k sv) (h : RV w rb be sv wr) (hc : Cells6 w b (o + k * 6) t (.slice x t.kids.length c)) :
    Calls Tryd.prog 52 #[.pointer (some ⟨rb, 0, none⟩)] w fun e w' => TakePost rb be b o ks k wr t (.slice x t.kids.length c) w e w' := by
  obtain ⟨xa, cap, rfl, hxa, hle, hcm⟩ := hr
  have hxa := hxa hk
  subst hxa
  obtain ⟨n, hn⟩ : ∃ n, ks.length - k = n + 1 := ⟨ks.length - k - 1, by omega⟩
  have HN := Lib.hid hn
  rw [hn] at h hle
  have c0 := hc.c0; have c1 := hc.c1; have c2 := hc.c2; have c3 := hc.c3; have c4 := hc.c4; have c5 := hc.c5
  have hcl : b < w.heap.size := lt_of_cell hc.c0
  have HRV := Lib.hid h
  have hrl := h.lt
  have r1 := fun o => (HRV.out.alloc o).c1
  have z := fun o => (HRV.out.alloc o).frozen
  have hz2 := fun o o2 => ((HRV.out.alloc o).alloc o2).c1
  have hz3 := fun o o2 => ((HRV.out.alloc o).alloc o2).frozen
  unfold maxLen at hcm
  clear hn hc h
  by_cases hcap : cap = 1
  · subst hcap
    obtain rfl : n = 0 := by omega
    go_enter Tryd.func52, Tryd.ntmps52
    go_wp2_with fail
    refine bodyPost_ret (results_cell_row rfl _ _ w.heap.size 32 _ (0, 0) _ rfl (rowN2 _ t (.slice x t.kids.length c) _ w.heap.size (by simp)) Tryd.underlying32 rfl (by kernel_rfl)) rfl ?_
    exact ⟨rfl, (((But.refl rb w).set 1 _).alloc _).alloc _, _, ⟨some ⟨b, o + k * 6, none⟩, 0, by rw [show ks.length - (k + 1) = 0 from by have := HN.out; omega], fun h => by have := HN.out; omega, by have := HN.out; omega, Nat.zero_le _⟩, ((HRV.out.set1 _).alloc _).alloc _⟩
  · have hc1 : 1 < cap := by omega
    go_enter Tryd.func52, Tryd.ntmps52
    go_wp2_with fail
    refine bodyPost_ret (results_cell_row rfl _ _ w.heap.size 32 _ (0, 0) _ rfl (rowN2 _ t (.slice x t.kids.length c) _ w.heap.size (by simp)) Tryd.underlying32 rfl (by kernel_rfl)) rfl ?_
    exact ⟨rfl, (((But.refl rb w).set 1 _).alloc _).alloc _, _, ⟨some ⟨b, o + k * 6 + 6, none⟩, cap - 1, by rw [show ks.length - (k + 1) = n from by have := HN.out; omega], fun _ => by rw [show o + (k + 1) * 6 = o + k * 6 + 6 from by omega], by have := HN.out; omega, by unfold maxLen; omega⟩, ((HRV.out.set1 _).alloc _).alloc _⟩

/-- The closure that finds an operator's fixity. -/
def fixOf (env : List Fx) (t : Tr) : Fx := findX env ((nameX t).getD ⟨#[]⟩)
/-- What is told, where the resolver has it. -/
structure EnvAt (w : World) (be : Nat) (env : List Fx) : Prop where
  box : ∃ (xa : Option Addr) (cap b o : Nat), w.heap[be]? = some (.cells #[.slice xa env.length cap] 22 (0, 0)) ∧ (0 < env.length → xa = some ⟨b, o, none⟩) ∧ Fixes w b o env
set_option maxHeartbeats 2000000 in
theorem fixOf_any (env : List Fx) (be : Nat) (t : Tr) (kv : Value) (w : World) (hs : t.mid.text.size ≤ 1152921504606846976) (hE : EnvAt w be env) (hl : Lies w t kv) (hT : Tabs16 w) :
    Calls Tryd.prog 35 #[nodeV t kv, .pointer (some ⟨be, 0, none⟩)] w fun e w' => e = .returned (fxV (fixOf env t)) ∧ Below w.heap.size w w' := by
  obtain ⟨⟨xa, cap, b, o, hb, hxa, hF⟩⟩ := hE
  obtain ⟨x, c, rfl⟩ := hl.shape
  have HL := Lib.hid hl
  have HT := Lib.hid hT
  have HF := Lib.hid hF
  have HB := Lib.hid hb
  have HX := Lib.hid hxa
  obtain ⟨R, hR⟩ : ∃ R, fixOf env t = R := ⟨_, rfl⟩
  rw [hR]
  have HR := Lib.hid hR
  have N1 := Lib.hid fun kv w hl hT => opName_any t kv w hs hl hT
  have hbl : be < w.heap.size := (Array.getElem?_eq_some_iff.1 hb).1
  clear hs hl hT hF hb hxa hR
  unfold nodeV
  go_enter Tryd.func35, Tryd.ntmps35
  go_wp2_with fail
  have hB0 := ((Below.refl w.heap.size w).alloc (Nat.le_refl _) (.cells #[.int .i64 t.kind, .int .i64 t.form, .string t.text, .int .i64 t.line, .int .i64 t.col, .slice x t.kids.length c] 32)).alloc (by simp) (.cells #[.string ⟨#[]⟩, .int .i64 0, .int .i64 0] 25)
  have HB0 := Lib.hid hB0
  have hX0 := rowX_new (w.alloc (.cells #[.int .i64 t.kind, .int .i64 t.form, .string t.text, .int .i64 t.line, .int .i64 t.col, .slice x t.kids.length c] 32)) zeroX
  rw [show (w.alloc (.cells #[.int .i64 t.kind, .int .i64 t.form, .string t.text, .int .i64 t.line, .int .i64 t.col, .slice x t.kids.length c] 32)).heap.size = w.heap.size + 1 from by simp] at hX0
  have HX0 := Lib.hid hX0
  clear hB0 hX0
  refine (N1.out _ _ (HL.out.keep HB0.out) (HT.out.below HB0.out)).mono ?_
  rintro e w1 ⟨rfl, hb1⟩
  have HB1 := Lib.hid (HB0.out.trans (hb1.mono (by simp; omega)))
  have HX1 := Lib.hid (HX0.out.below hb1)
  clear hb1
  have hbox : w1.heap[be]? = _ := (HB1.out.block be hbl).trans HB.out
  have e0 : w1.cell? ⟨be, 0, none⟩ = some (.slice xa env.length cap) := cell_of_row _ _ _ _ _ _ hbox
  obtain ⟨nm, hnm, hnv⟩ : ∃ nm, (nameX t).getD ⟨#[]⟩ = nm ∧ ∃ q, nameV (nameX t) = .tuple #[.string nm, .bool q] := by
    cases nameX t with
    | none => exact ⟨_, rfl, false, rfl⟩
    | some s => exact ⟨s, rfl, true, rfl⟩
  obtain ⟨q, hnv⟩ := hnv
  rw [hnv]
  have HNM := Lib.hid hnm
  clear hnm hnv hbox
  go_wp2_with fail
  refine (find_any env xa cap b o nm _ HX.out (HF.out.below HB1.out) (HT.out.below HB1.out)).mono ?_
  rintro e w2 ⟨rfl, hb2⟩
  have HB2 := Lib.hid (Below.then HB1.out hb2)
  have HX2 := Lib.hid (HX1.out.below hb2)
  obtain ⟨d0, d1, d2⟩ := HX2.out.cells
  have z := HX2.out.frozen
  have hRR : findX env nm = R := by rw [← HR.out]; unfold fixOf; rw [HNM.out]
  rw [hRR]
  clear hb2 hRR
  unfold fxV
  go_wp2_with fail
  refine bodyPost_ret (results_cell_row rfl _ _ (w.heap.size + 1) 25 _ (0, 0) _ rfl (HX2.out.set R) Tryd.underlying25 rfl (by kernel_rfl)) rfl ?_
  exact ⟨rfl, set3_below HB2.out _ (by omega) _⟩
end Go.Proofs.YtikkdkacflkifaaDoor
