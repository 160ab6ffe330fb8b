/- DERIVED. The walk of layer 10's awake. -/
import Derived.Test.YtjdpbfjfcbjlfaaDoorReadF
import Derived.Test.YtjdpbfjfcbjlfaaDoorShowC
import Derived.Test.YtjdpbfjfcbjlfaaDoorTreeC
import Derived.Test.YtjdpbfjfcbjlfaaDoorTreeI
set_option linter.unusedSimpArgs false
set_option linter.unusedVariables false
namespace Go.Proofs.YtjdpbfjfcbjlfaaDoor
open Go.RowKit

def T0 : Tr := .mk 17 0 ⟨#[]⟩ 0 0 [.mk 1 1 ⟨#[120]⟩ 0 0 [], .mk 1 5 ⟨#[43]⟩ 0 0 []]
def S0 : ByteArray := ⟨#[40, 49, 55, 32, 49, 34, 120, 34, 32, 53, 34, 43, 34, 41]⟩
theorem aw_show : showV T0 = .tuple #[.string S0, .int .i64 0] := by kernel_rfl
theorem aw_read : readGo S0 = .ok T0 := by kernel_rfl
theorem aw_same : T0.same T0 = true := by decide +kernel
theorem aw_size : T0.size = 3 := by decide +kernel
theorem aw_depth : T0.depth = 2 := by decide +kernel
theorem aw_leaves : T0.leaves.length = 2 := by decide +kernel

def awK (w : World) : World := (w.alloc (.cells #[.int .i64 1, .int .i64 1, .string ⟨#[120]⟩, .int .i64 0, .int .i64 0, .slice none 0 0, .int .i64 1, .int .i64 5, .string ⟨#[43]⟩, .int .i64 0, .int .i64 0, .slice none 0 0] 24))
def awN (w : World) : World := (awK w).alloc (.cells #[.int .i64 17, .int .i64 0, .string ⟨#[]⟩, .int .i64 0, .int .i64 0, .slice (some ⟨w.heap.size, 0, none⟩) 2 2] 24)
theorem aw_lies (w : World) : Lies (awN w) T0 (.slice (some ⟨w.heap.size, 0, none⟩) 2 2) := by
  have hl0 : Lies (awK w) T0 (.slice (some ⟨w.heap.size, 0, none⟩) 2 2) := by
    refine Lies.mk 17 0 ⟨#[]⟩ 0 0 [.mk 1 1 ⟨#[120]⟩ 0 0 [], .mk 1 5 ⟨#[43]⟩ 0 0 []] (some ⟨w.heap.size, 0, none⟩) 2 w.heap.size 0 (fun _ => .slice none 0 0) (by decide) (fun _ => rfl) (fun i h => ?_) (fun i h => ?_)
    · match i, h with
      | 0, _ => exact ⟨World.cell?_alloc_new _ _ _ _, World.cell?_alloc_new _ _ _ _, World.cell?_alloc_new _ _ _ _, World.cell?_alloc_new _ _ _ _, World.cell?_alloc_new _ _ _ _, World.cell?_alloc_new _ _ _ _⟩
      | 1, _ => exact ⟨World.cell?_alloc_new _ _ _ _, World.cell?_alloc_new _ _ _ _, World.cell?_alloc_new _ _ _ _, World.cell?_alloc_new _ _ _ _, World.cell?_alloc_new _ _ _ _, World.cell?_alloc_new _ _ _ _⟩
    · match i, h with
      | 0, _ => exact Lies.leaf ..
      | 1, _ => exact Lies.leaf ..
  exact hl0.keep ((Below.refl _ _).alloc (Nat.le_refl _) _)
theorem aw_row (w : World) : RowN (awN w) (w.heap.size + 1) T0 (.slice (some ⟨w.heap.size, 0, none⟩) 2 2) := by
  have h := rowN_new (awK w) T0 (.slice (some ⟨w.heap.size, 0, none⟩) 2 2)
  rw [show (awK w).heap.size = w.heap.size + 1 from by unfold awK; simp] at h
  exact h
set_option maxHeartbeats 2000000 in
theorem awake_any (w : World) : Calls Tryd.prog 10 #[] w fun e w' => e = .returned (.bool true) ∧ Below w.heap.size w w' := by
  go_enter Tryd.func10, Tryd.ntmps10
  go_wp2_with fail
  have hl1 := aw_lies w
  have hn1 := aw_row w
  refine (show2_any T0 _ (awN w) (by decide +kernel) hl1).mono ?_
  rw [aw_show]
  rintro e w1 ⟨rfl, hb1⟩
  have HN1 := Lib.hid (hn1.keep (hb1.block _ hn1.lt))
  have HL1 := Lib.hid (hl1.keep hb1)
  have HB1 := Lib.hid ((((Below.refl w.heap.size w).alloc (Nat.le_refl _) _).alloc (by simp) _).trans (hb1.mono (by unfold awN awK; simp; omega)))
  have hst1 := HB1.out.size
  clear hl1 hn1 hb1
  go_wp2_with fail
  refine (read_any S0 _).mono ?_
  rw [aw_read]
  intro e w2 hpost
  obtain ⟨hb2, kv, rfl, hlp⟩ := hpost
  obtain ⟨kx, kc, rfl⟩ := hlp.shape
  have HL2 := Lib.hid (HL1.out.keep hb2)
  have HM2 := Lib.hid hlp.lies
  have HB2 := Lib.hid (Below.then HB1.out hb2)
  have hst2 := HB2.out.size
  have HN2 := Lib.hid (HN1.out.keep (hb2.block _ HN1.out.lt))
  clear hb2 hlp
  have HN3 := Lib.hid (fun o => HN2.out.alloc o)
  have a0 := fun o => (HN3.out o).cells.1
  have a1 := fun o => (HN3.out o).cells.2.1
  have a2 := fun o => (HN3.out o).cells.2.2.1
  have a3 := fun o => (HN3.out o).cells.2.2.2.1
  have a4 := fun o => (HN3.out o).cells.2.2.2.2.1
  have a5 := fun o => (HN3.out o).cells.2.2.2.2.2
  simp only [T0, nodeV, Tr.kind, Tr.form, Tr.text, Tr.line, Tr.col, Tr.kids] at a0 a1 a2 a3 a4 a5 ⊢
  have hS : (S0.toList == [40, 49, 55, 32, 49, 34, 120, 34, 32, 53, 34, 43, 34, 41]) = true := by decide +kernel
  go_wp2_with fail
  refine (same_any 3 T0 T0 _ _ _ (by decide +kernel) (HL2.out.keep ((Below.refl _ _).alloc (Nat.le_refl _) _)) (HM2.out.keep ((Below.refl _ _).alloc (Nat.le_refl _) _))).mono ?_
  rw [aw_same]
  rintro e w3 ⟨rfl, hb3⟩
  have HL3 := Lib.hid ((HL2.out.keep ((Below.refl _ _).alloc (Nat.le_refl _) _)).keep hb3)
  have HN4 := Lib.hid ((HN3.out _).keep (hb3.block _ (HN3.out _).lt))
  have HB3 := Lib.hid (Below.then (HB2.out.alloc (by omega) _) hb3)
  clear hb3 a0 a1 a2 a3 a4 a5
  have b0 := HN4.out.cells.1
  have b1 := HN4.out.cells.2.1
  have b2 := HN4.out.cells.2.2.1
  have b3 := HN4.out.cells.2.2.2.1
  have b4 := HN4.out.cells.2.2.2.2.1
  have b5 := HN4.out.cells.2.2.2.2.2
  simp only [T0, Tr.kind, Tr.form, Tr.text, Tr.line, Tr.col] at b0 b1 b2 b3 b4
  go_wp2_with fail
  refine (size_any T0 _ _ (by decide +kernel) HL3.out).mono ?_
  rw [aw_size]
  rintro e w4 ⟨rfl, hb4⟩
  have HL4 := Lib.hid (HL3.out.keep hb4)
  have HN5 := Lib.hid (HN4.out.keep (hb4.block _ HN4.out.lt))
  have HB4 := Lib.hid (Below.then HB3.out hb4)
  clear hb4 b0 b1 b2 b3 b4 b5
  have c0 := HN5.out.cells.1
  have c1 := HN5.out.cells.2.1
  have c2 := HN5.out.cells.2.2.1
  have c3 := HN5.out.cells.2.2.2.1
  have c4 := HN5.out.cells.2.2.2.2.1
  have c5 := HN5.out.cells.2.2.2.2.2
  simp only [T0, Tr.kind, Tr.form, Tr.text, Tr.line, Tr.col] at c0 c1 c2 c3 c4
  go_wp2_with fail
  refine (depth_any 3 T0 _ _ (by decide +kernel) (by decide +kernel) HL4.out).mono ?_
  rw [aw_depth]
  rintro e w5 ⟨rfl, hb5⟩
  have HL5 := Lib.hid (HL4.out.keep hb5)
  have HN6 := Lib.hid (HN5.out.keep (hb5.block _ HN5.out.lt))
  have HB5 := Lib.hid (Below.then HB4.out hb5)
  clear hb5 c0 c1 c2 c3 c4 c5
  have d0 := HN6.out.cells.1
  have d1 := HN6.out.cells.2.1
  have d2 := HN6.out.cells.2.2.1
  have d3 := HN6.out.cells.2.2.2.1
  have d4 := HN6.out.cells.2.2.2.2.1
  have d5 := HN6.out.cells.2.2.2.2.2
  simp only [T0, Tr.kind, Tr.form, Tr.text, Tr.line, Tr.col] at d0 d1 d2 d3 d4
  go_wp2_with fail
  refine (leaves_any T0 _ _ (by decide +kernel) HL5.out).mono ?_
  rintro e w6 ⟨v, rfl, hown, hb6⟩
  obtain ⟨va, vc, hv⟩ := hown.shape
  rw [aw_leaves] at hv
  subst hv
  have HB6 := Lib.hid (Below.then HB5.out hb6)
  clear hb6 hown d0 d1 d2 d3 d4 d5
  go_wp2_with fail
  go_ret
  exact ⟨rfl, HB6.out⟩
end Go.Proofs.YtjdpbfjfcbjlfaaDoor
