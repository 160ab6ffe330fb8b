/- DERIVED. The walk of read: a literal. -/
import Derived.Test.YtmgnpgbganjgfaaDoorQuoteX
set_option linter.unusedSimpArgs false
set_option linter.unusedVariables false
namespace Go.Proofs.YtmgnpgbganjgfaaDoor
open Go.RowKit

theorem mkR_is (w : World) (s : ByteArray) (i : Int) : (((w.alloc (.cells #[.pointer (some ⟨w.heap.size + 1 + 1 + 1, 0, none⟩)] 36)).alloc (.cells #[.int .i64 0] 3)).alloc (.cells #[.int .i64 0] 22)).alloc (.cells #[.string s, .int .i64 i, .bool false, .slice none 0 0, .slice none 0 0] 41) = mkR w s i := rfl
def PtrAt (p : Nat) (w : World) : Prop := w.cell? ⟨p, 0, none⟩ = some (.pointer (some ⟨p + 3, 0, none⟩))
theorem Vars3.ptr {p : Nat} {w : World} (h : Vars3 p w) : PtrAt p w := cell_of_row _ _ _ _ _ _ h.1
theorem ptr_set0 {p : Nat} {w : World} (h : PtrAt p w) : PtrAt p (w.setCell ⟨p, 0, none⟩ (.pointer (some ⟨p + 3, 0, none⟩))) := World.cell?_setCell_same _ _ _ h
theorem ptr_set {p : Nat} {w : World} (h : PtrAt p w) (g : Nat) (v : Value) (hg : g ≠ p) : PtrAt p (w.setCell ⟨g, 0, none⟩ v) := by
  unfold PtrAt at *
  rw [World.cell?_setCell_other _ _ _ _ (by intro e; injection e; contradiction)]; exact h
theorem vars_set {p : Nat} {w : World} (h : Vars3 p w) (x y : Int) : ((w.setCell ⟨p + 1, 0, none⟩ (.int .i64 x)).setCell ⟨p + 2, 0, none⟩ (.int .i64 y)).cell? ⟨p, 0, none⟩ = some (.pointer (some ⟨p + 3, 0, none⟩)) ∧
    ((w.setCell ⟨p + 1, 0, none⟩ (.int .i64 x)).setCell ⟨p + 2, 0, none⟩ (.int .i64 y)).cell? ⟨p + 1, 0, none⟩ = some (.int .i64 x) ∧ ((w.setCell ⟨p + 1, 0, none⟩ (.int .i64 x)).setCell ⟨p + 2, 0, none⟩ (.int .i64 y)).cell? ⟨p + 2, 0, none⟩ = some (.int .i64 y) := by
  have ne : ∀ a b : Nat, a ≠ b → (⟨a, 0, none⟩ : Addr) ≠ ⟨b, 0, none⟩ := fun a b h e => by injection e; contradiction
  have h0 : w.cell? ⟨p, 0, none⟩ = some (.pointer (some ⟨p + 3, 0, none⟩)) := cell_of_row _ _ _ _ _ _ h.1
  have h1 : w.cell? ⟨p + 1, 0, none⟩ = some (.int .i64 0) := cell_of_row _ _ _ _ _ _ h.2.1
  have h2 : w.cell? ⟨p + 2, 0, none⟩ = some (.int .i64 0) := cell_of_row _ _ _ _ _ _ h.2.2
  refine ⟨?_, ?_, ?_⟩
  · rw [World.cell?_setCell_other _ _ _ _ (ne _ _ (by omega)), World.cell?_setCell_other _ _ _ _ (ne _ _ (by omega))]; exact h0
  · rw [World.cell?_setCell_other _ _ _ _ (ne _ _ (by omega))]; exact World.cell?_setCell_same _ _ _ h1
  · exact World.cell?_setCell_same _ _ _ (by rw [World.cell?_setCell_other _ _ _ _ (ne _ _ (by omega))]; exact h2)
theorem vars_ptr {p : Nat} {w : World} (h : Vars3 p w) : Vars3 p (w.setCell ⟨p, 0, none⟩ (.pointer (some ⟨p + 3, 0, none⟩))) := by
  refine ⟨?_, ?_, ?_⟩
  · rw [heap_setCell_same _ _ 0 _ _ _ h.1]; rfl
  · rw [Below.heap_setCell _ _ _ _ (by show p + 1 ≠ p; omega)]; exact h.2.1
  · rw [Below.heap_setCell _ _ _ _ (by show p + 2 ≠ p; omega)]; exact h.2.2
theorem set3 (p : Nat) (w : World) (x y : Int) : Below p w ((w.setCell ⟨p + 1, 0, none⟩ (.int .i64 x)).setCell ⟨p + 2, 0, none⟩ (.int .i64 y)) ∧ ∀ g, p + 3 ≤ g → ((w.setCell ⟨p + 1, 0, none⟩ (.int .i64 x)).setCell ⟨p + 2, 0, none⟩ (.int .i64 y)).heap[g]? = w.heap[g]? := by
  refine ⟨((Below.refl p w).setCell (p := ⟨p + 1, 0, none⟩) (by show p ≤ p + 1; omega) _).setCell (p := ⟨p + 2, 0, none⟩) (by show p ≤ p + 2; omega) _, fun g hg => ?_⟩
  rw [Below.heap_setCell _ _ _ _ (by show g ≠ p + 2; omega), Below.heap_setCell _ _ _ _ (by show g ≠ p + 1; omega)]
set_option maxRecDepth 20000 in
set_option maxHeartbeats 8000000 in
theorem read_lit (s : ByteArray) (i : Nat) (w : World) (hs : s.size ≤ 16777216) (hi : i < s.size) (hT : Tabs5 w) (hq : s[i] = 34 ∨ s[i] = 39) (kind : Nat) (R : RT)
    (hL : ∀ (W0 : World) (b : Nat) (vo vg : Value) (w1 : World), Tabs5 W0 → Rd W0 b s i false [] [] vo vg w1 → Calls Tryd.prog 31 #[.pointer (some ⟨b, 0, none⟩)] w1 (LitPost W0 b s kind R)) :
    Calls Tryd.prog 20 #[.string s, .int .i64 i] w (ReadPost w s (kind, R)) := by
  have t1 : decide ((i : Int) < 0) = false := by simp
  have t2 : decide ((s.size : Int) ≤ i) = false := by simp; omega
  have t3 : decide (s.size ≤ i) = false := by simp; omega
  have hqq : (((s[i].toNat : Int) == 34) = true ∧ ((s[i].toNat : Int) != 34) = false) ∨ (((s[i].toNat : Int) == 34) = false ∧ ((s[i].toNat : Int) != 34) = true ∧ ((s[i].toNat : Int) == 39) = true ∧ ((s[i].toNat : Int) != 39) = false) := by
    rcases hq with h | h
    · have q1 := (u8K s[i] 34 34 rfl (by decide)).1 h
      exact .inl ⟨q1, by simpa using q1⟩
    · have q1 := (u8K s[i] 34 34 rfl (by decide)).2 (by rw [h]; decide)
      have q2 := (u8K s[i] 39 39 rfl (by decide)).1 h
      exact .inr ⟨q1, by simpa using q1, q2, by simpa using q2⟩
  have hmf : ∀ (fn : Fn) (first cap : Array Value) (w : World), (Instr.makeFunc fn first cap).run Tryd.prog w = .ok (.func fn first cap) w := fun _ _ _ _ => rfl
  have HM := Lib.hid (mkR_is w s i)
  have HV := Lib.hid ((mk3_vars w).keep (mk3_size w) (mk3_rd w s i).2.2.1)
  have HS0 := Lib.hid (show PtrAt w.heap.size (mkR w s i).drew from HV.out.ptr)
  have HRD := Lib.hid (mk3_rd w s i)
  have L1 := Lib.hid (hL (mk3 w) (w.heap.size + 3) (.slice none 0 0) (.slice none 0 0) _ (hT.below (mk3_below w)) HRD.out.drew1)
  clear hL hq hT
  rcases hqq with ⟨q1, q2⟩ | ⟨q1, q2, q3, q4⟩
  · go_enter_defers Tryd.func20, Tryd.ntmps20
    go_wp2_with fail
    rw [HM.out]
    generalize mkR w s i = wR at *
    obtain ⟨p, hp⟩ : ∃ p, w.heap.size = p := ⟨_, rfl⟩
    have HP := Lib.hid hp
    have HSZ := Lib.hid (mk3_size w)
    have HMB := Lib.hid (mk3_below w)
    have HMV := Lib.hid (mk3_vars w)
    rw [hp] at HS0 HV L1 HSZ HMB HMV
    simp only [hp]
    clear hp HM
    refine wp_region_held_drew (S := PtrAt p) (by kernel_rfl) HS0.out (fun hHeld => ?_)
    refine wpAnyH_ready (rs := [0, 1]) (by kernel_rfl) (by simp) ?_
    refine AllReadyH.cons rfl (fun K hK => ?_) (AllReadyH.cons rfl (fun K hK => ?_) AllReadyH.nil)
    · have hsp0 := HS0.out
      unfold PtrAt at hsp0
      go_simp
      refine hK.out _ _ HS0.out (fun hHeld => ?_)
      clear hsp0
      clear hK K
      (try simp only [Act.put, List.setIfInBounds_toArray, List.set_cons_zero, List.set_cons_succ])
      refine wpAnyH_ready (rs := [1]) (by kernel_rfl) (by simp) ?_
      refine AllReadyH.cons rfl (fun K hK => ?_) AllReadyH.nil
      have hsp0 := HS0.out
      unfold PtrAt at hsp0
      go_simp
      refine hK.out _ _ HS0.out (fun hHeld => ?_)
      clear hsp0
      clear hK K
      (try simp only [Act.put, List.setIfInBounds_toArray, List.set_cons_zero, List.set_cons_succ])
      refine wpAnyH_ready (rs := [2]) (by kernel_rfl) (by simp) ?_
      refine AllReadyH.cons rfl (fun K hK => ?_) AllReadyH.nil
      go_simp
      go_at_call 31
      refine L1.out.mono ?_
      rintro e w2 (⟨h0, rfl, text, vo, vg, hR2⟩ | ⟨h0, rfl, k2, text, out, gaps, vo, vg, hR2⟩)
      · have HR2 := Lib.hid hR2
        have HV2 := Lib.hid (HMV.out.keep HSZ.out hR2.2.2.1)
        have hsp := HV2.out.ptr
        unfold PtrAt at hsp
        obtain ⟨v0, v1, v2⟩ := HV2.out
        have d1 : w2.cell? ⟨p + 1, 0, none⟩ = some (.int .i64 0) := cell_of_row _ _ _ _ _ _ v1
        have d2 : w2.cell? ⟨p + 2, 0, none⟩ = some (.int .i64 0) := cell_of_row _ _ _ _ _ _ v2
        have z0 : w2.frozen? ⟨p, 0, none⟩ = false := frozen_of_row _ _ _ _ _ v0
        have z1 : w2.frozen? ⟨p + 1, 0, none⟩ = false := frozen_of_row _ _ _ _ _ v1
        have z2 : w2.frozen? ⟨p + 2, 0, none⟩ = false := frozen_of_row _ _ _ _ _ v2
        clear hR2 v0 v1 v2
        go_simp
        refine hK.out _ _ HV2.out.ptr (fun hHeld => ?_)
        have HW3 := Lib.hid (ptr_set0 HV2.out.ptr)
        have HW4 := Lib.hid (ptr_set HW3.out (p + 1) (.int .i64 (kind : Int)) (by omega))
        have HW5 := Lib.hid (ptr_set HW4.out (p + 2) (.int .i64 0) (by omega))
        clear hK K
        (try simp only [Act.put, List.setIfInBounds_toArray, List.set_cons_zero, List.set_cons_succ])
        refine wpAnyH_ready (rs := [3]) (by kernel_rfl) (by simp) ?_
        refine AllReadyH.cons rfl (fun K hK => ?_) AllReadyH.nil
        go_simp
        refine hK.out _ _ HW3.out (fun hHeld => ?_)
        clear hK K
        (try simp only [Act.put, List.setIfInBounds_toArray, List.set_cons_zero, List.set_cons_succ])
        refine wpAnyH_ready (rs := [4]) (by kernel_rfl) (by simp) ?_
        refine AllReadyH.cons rfl (fun K hK => ?_) AllReadyH.nil
        go_simp
        refine hK.out _ _ HW4.out (fun hHeld => ?_)
        clear hK K
        (try simp only [Act.put, List.setIfInBounds_toArray, List.set_cons_zero, List.set_cons_succ])
        refine wpAnyH_ready (rs := [5]) (by kernel_rfl) (by simp) ?_
        refine AllReadyH.cons rfl (fun K hK => ?_) AllReadyH.nil
        go_simp
        refine hK.out _ _ HW5.out (fun hHeld => ?_)
        clear hK K
        (try simp only [Act.put, List.setIfInBounds_toArray, List.set_cons_zero, List.set_cons_succ])
        refine wpAnyH_done (by kernel_rfl) ?_ _
        obtain ⟨e0, e1, e2⟩ := vars_set (vars_ptr HV2.out) (kind : Int) 0
        obtain ⟨s1, s2⟩ := set3 p (w2.setCell ⟨p, 0, none⟩ (.pointer (some ⟨p + 3, 0, none⟩))) (kind : Int) 0
        have HFI := HR2.out.settle HSZ.out HP.out HMB.out (((Below.refl p w2).setCell (p := ⟨p, 0, none⟩) (Nat.le_refl _) (.pointer (some ⟨p + 3, 0, none⟩))).trans s1) (fun g hg => by rw [s2 g hg, Below.heap_setCell _ _ _ _ (by show g ≠ p; omega)])
        clear s1 s2 hsp d1 d2 z0 z1 z2 hHeld HW3 HW4 HW5
        have hw9 : (((w2.setCell ⟨p, 0, none⟩ (.pointer (some ⟨p + 3, 0, none⟩))).setCell ⟨p + 1, 0, none⟩ (.int .i64 (kind : Int))).setCell ⟨p + 1 + 1, 0, none⟩ (.int .i64 0)) = (((w2.setCell ⟨p, 0, none⟩ (.pointer (some ⟨p + 3, 0, none⟩))).setCell ⟨p + 1, 0, none⟩ (.int .i64 (kind : Int))).setCell ⟨p + 2, 0, none⟩ (.int .i64 0)) := rfl
        rw [hw9]
        clear hw9
        generalize ((w2.setCell ⟨p, 0, none⟩ (.pointer (some ⟨p + 3, 0, none⟩))).setCell ⟨p + 1, 0, none⟩ (.int .i64 (kind : Int))).setCell ⟨p + 2, 0, none⟩ (.int .i64 0) = w9 at *
        go_wp2_with fail
        refine leaves_cons (f := 30) (args := #[.pointer (some ⟨p, 0, none⟩), .pointer (some ⟨p + 1, 0, none⟩), .pointer (some ⟨p + 2, 0, none⟩)]) (by simp) (by simp [go_sem]) ?_
        refine (catch_idle _ _ _ _).mono ?_
        rintro e u' w'' ⟨rfl, rfl, rfl⟩
        refine ⟨.tuple #[.pointer (some ⟨p + 3, 0, none⟩), .int .i64 (kind : Int), .int .i64 0], ?_, ?_⟩
        · simp [results, Tryd.results20, go_sem, e0, e1, e2]
        · unfold ReadPost
          rw [HP.out, if_pos h0, h0]
          exact ⟨rfl, _, _, _, _, _, HFI, fun _ => ⟨rfl, rfl⟩⟩
      · have HV2 := Lib.hid (HMV.out.keep HSZ.out hR2.2.2.1)
        have HR2 := Lib.hid hR2
        clear hR2
        refine leaves_cons (f := 30) (args := #[.pointer (some ⟨p, 0, none⟩), .pointer (some ⟨p + 1, 0, none⟩), .pointer (some ⟨p + 2, 0, none⟩)]) (by simp) (by simp [go_sem]) ?_
        refine (catch_fault (p + 3) p R.till R.e w2 (mk3 w) s k2 text out gaps vo vg HR2.out HSZ.out HV2.out.1 HV2.out.2.1 HV2.out.2.2).mono ?_
        rintro e u' w'' ⟨rfl, rfl, w3, hR3, rfl⟩
        have HV3 := HMV.out.keep HSZ.out hR3.2.2.1
        obtain ⟨e0, e1, e2⟩ := vars_set HV3 0 R.e
        obtain ⟨s1, s2⟩ := set3 p w3 0 R.e
        have HFI := hR3.settle HSZ.out HP.out HMB.out s1 s2
        clear hR3 s1 s2 HV3
        generalize (w3.setCell ⟨p + 1, 0, none⟩ (.int .i64 0)).setCell ⟨p + 2, 0, none⟩ (.int .i64 R.e) = w9 at *
        refine ⟨.tuple #[.pointer (some ⟨p + 3, 0, none⟩), .int .i64 0, .int .i64 R.e], ?_, ?_⟩
        · simp [results, Tryd.results20, go_sem, e0, e1, e2]
        · unfold ReadPost
          rw [HP.out, if_neg h0]
          exact ⟨rfl, _, _, _, _, _, HFI, fun h => absurd h h0⟩
    · have hsp0 := HS0.out
      unfold PtrAt at hsp0
      go_simp
      refine hK.out _ _ HS0.out (fun hHeld => ?_)
      clear hsp0
      clear hK K
      (try simp only [Act.put, List.setIfInBounds_toArray, List.set_cons_zero, List.set_cons_succ])
      refine wpAnyH_ready (rs := [0, 2]) (by kernel_rfl) (by simp) ?_
      refine AllReadyH.cons rfl (fun K hK => ?_) (AllReadyH.cons rfl (fun K hK => ?_) AllReadyH.nil)
      · have hsp0 := HS0.out
        unfold PtrAt at hsp0
        go_simp
        refine hK.out _ _ HS0.out (fun hHeld => ?_)
        clear hsp0
        clear hK K
        (try simp only [Act.put, List.setIfInBounds_toArray, List.set_cons_zero, List.set_cons_succ])
        refine wpAnyH_ready (rs := [2]) (by kernel_rfl) (by simp) ?_
        refine AllReadyH.cons rfl (fun K hK => ?_) AllReadyH.nil
        go_simp
        go_at_call 31
        refine L1.out.mono ?_
        rintro e w2 (⟨h0, rfl, text, vo, vg, hR2⟩ | ⟨h0, rfl, k2, text, out, gaps, vo, vg, hR2⟩)
        · have HR2 := Lib.hid hR2
          have HV2 := Lib.hid (HMV.out.keep HSZ.out hR2.2.2.1)
          have hsp := HV2.out.ptr
          unfold PtrAt at hsp
          obtain ⟨v0, v1, v2⟩ := HV2.out
          have d1 : w2.cell? ⟨p + 1, 0, none⟩ = some (.int .i64 0) := cell_of_row _ _ _ _ _ _ v1
          have d2 : w2.cell? ⟨p + 2, 0, none⟩ = some (.int .i64 0) := cell_of_row _ _ _ _ _ _ v2
          have z0 : w2.frozen? ⟨p, 0, none⟩ = false := frozen_of_row _ _ _ _ _ v0
          have z1 : w2.frozen? ⟨p + 1, 0, none⟩ = false := frozen_of_row _ _ _ _ _ v1
          have z2 : w2.frozen? ⟨p + 2, 0, none⟩ = false := frozen_of_row _ _ _ _ _ v2
          clear hR2 v0 v1 v2
          go_simp
          refine hK.out _ _ HV2.out.ptr (fun hHeld => ?_)
          have HW3 := Lib.hid (ptr_set0 HV2.out.ptr)
          have HW4 := Lib.hid (ptr_set HW3.out (p + 1) (.int .i64 (kind : Int)) (by omega))
          have HW5 := Lib.hid (ptr_set HW4.out (p + 2) (.int .i64 0) (by omega))
          clear hK K
          (try simp only [Act.put, List.setIfInBounds_toArray, List.set_cons_zero, List.set_cons_succ])
          refine wpAnyH_ready (rs := [3]) (by kernel_rfl) (by simp) ?_
          refine AllReadyH.cons rfl (fun K hK => ?_) AllReadyH.nil
          go_simp
          refine hK.out _ _ HW3.out (fun hHeld => ?_)
          clear hK K
          (try simp only [Act.put, List.setIfInBounds_toArray, List.set_cons_zero, List.set_cons_succ])
          refine wpAnyH_ready (rs := [4]) (by kernel_rfl) (by simp) ?_
          refine AllReadyH.cons rfl (fun K hK => ?_) AllReadyH.nil
          go_simp
          refine hK.out _ _ HW4.out (fun hHeld => ?_)
          clear hK K
          (try simp only [Act.put, List.setIfInBounds_toArray, List.set_cons_zero, List.set_cons_succ])
          refine wpAnyH_ready (rs := [5]) (by kernel_rfl) (by simp) ?_
          refine AllReadyH.cons rfl (fun K hK => ?_) AllReadyH.nil
          go_simp
          refine hK.out _ _ HW5.out (fun hHeld => ?_)
          clear hK K
          (try simp only [Act.put, List.setIfInBounds_toArray, List.set_cons_zero, List.set_cons_succ])
          refine wpAnyH_done (by kernel_rfl) ?_ _
          obtain ⟨e0, e1, e2⟩ := vars_set (vars_ptr HV2.out) (kind : Int) 0
          obtain ⟨s1, s2⟩ := set3 p (w2.setCell ⟨p, 0, none⟩ (.pointer (some ⟨p + 3, 0, none⟩))) (kind : Int) 0
          have HFI := HR2.out.settle HSZ.out HP.out HMB.out (((Below.refl p w2).setCell (p := ⟨p, 0, none⟩) (Nat.le_refl _) (.pointer (some ⟨p + 3, 0, none⟩))).trans s1) (fun g hg => by rw [s2 g hg, Below.heap_setCell _ _ _ _ (by show g ≠ p; omega)])
          clear s1 s2 hsp d1 d2 z0 z1 z2 hHeld HW3 HW4 HW5
          have hw9 : (((w2.setCell ⟨p, 0, none⟩ (.pointer (some ⟨p + 3, 0, none⟩))).setCell ⟨p + 1, 0, none⟩ (.int .i64 (kind : Int))).setCell ⟨p + 1 + 1, 0, none⟩ (.int .i64 0)) = (((w2.setCell ⟨p, 0, none⟩ (.pointer (some ⟨p + 3, 0, none⟩))).setCell ⟨p + 1, 0, none⟩ (.int .i64 (kind : Int))).setCell ⟨p + 2, 0, none⟩ (.int .i64 0)) := rfl
          rw [hw9]
          clear hw9
          generalize ((w2.setCell ⟨p, 0, none⟩ (.pointer (some ⟨p + 3, 0, none⟩))).setCell ⟨p + 1, 0, none⟩ (.int .i64 (kind : Int))).setCell ⟨p + 2, 0, none⟩ (.int .i64 0) = w9 at *
          go_wp2_with fail
          refine leaves_cons (f := 30) (args := #[.pointer (some ⟨p, 0, none⟩), .pointer (some ⟨p + 1, 0, none⟩), .pointer (some ⟨p + 2, 0, none⟩)]) (by simp) (by simp [go_sem]) ?_
          refine (catch_idle _ _ _ _).mono ?_
          rintro e u' w'' ⟨rfl, rfl, rfl⟩
          refine ⟨.tuple #[.pointer (some ⟨p + 3, 0, none⟩), .int .i64 (kind : Int), .int .i64 0], ?_, ?_⟩
          · simp [results, Tryd.results20, go_sem, e0, e1, e2]
          · unfold ReadPost
            rw [HP.out, if_pos h0, h0]
            exact ⟨rfl, _, _, _, _, _, HFI, fun _ => ⟨rfl, rfl⟩⟩
        · have HV2 := Lib.hid (HMV.out.keep HSZ.out hR2.2.2.1)
          have HR2 := Lib.hid hR2
          clear hR2
          refine leaves_cons (f := 30) (args := #[.pointer (some ⟨p, 0, none⟩), .pointer (some ⟨p + 1, 0, none⟩), .pointer (some ⟨p + 2, 0, none⟩)]) (by simp) (by simp [go_sem]) ?_
          refine (catch_fault (p + 3) p R.till R.e w2 (mk3 w) s k2 text out gaps vo vg HR2.out HSZ.out HV2.out.1 HV2.out.2.1 HV2.out.2.2).mono ?_
          rintro e u' w'' ⟨rfl, rfl, w3, hR3, rfl⟩
          have HV3 := HMV.out.keep HSZ.out hR3.2.2.1
          obtain ⟨e0, e1, e2⟩ := vars_set HV3 0 R.e
          obtain ⟨s1, s2⟩ := set3 p w3 0 R.e
          have HFI := hR3.settle HSZ.out HP.out HMB.out s1 s2
          clear hR3 s1 s2 HV3
          generalize (w3.setCell ⟨p + 1, 0, none⟩ (.int .i64 0)).setCell ⟨p + 2, 0, none⟩ (.int .i64 R.e) = w9 at *
          refine ⟨.tuple #[.pointer (some ⟨p + 3, 0, none⟩), .int .i64 0, .int .i64 R.e], ?_, ?_⟩
          · simp [results, Tryd.results20, go_sem, e0, e1, e2]
          · unfold ReadPost
            rw [HP.out, if_neg h0]
            exact ⟨rfl, _, _, _, _, _, HFI, fun h => absurd h h0⟩
      · go_simp
        go_at_call 31
        refine L1.out.mono ?_
        rintro e w2 (⟨h0, rfl, text, vo, vg, hR2⟩ | ⟨h0, rfl, k2, text, out, gaps, vo, vg, hR2⟩)
        · have HR2 := Lib.hid hR2
          have HV2 := Lib.hid (HMV.out.keep HSZ.out hR2.2.2.1)
          have hsp := HV2.out.ptr
          unfold PtrAt at hsp
          obtain ⟨v0, v1, v2⟩ := HV2.out
          have d1 : w2.cell? ⟨p + 1, 0, none⟩ = some (.int .i64 0) := cell_of_row _ _ _ _ _ _ v1
          have d2 : w2.cell? ⟨p + 2, 0, none⟩ = some (.int .i64 0) := cell_of_row _ _ _ _ _ _ v2
          have z0 : w2.frozen? ⟨p, 0, none⟩ = false := frozen_of_row _ _ _ _ _ v0
          have z1 : w2.frozen? ⟨p + 1, 0, none⟩ = false := frozen_of_row _ _ _ _ _ v1
          have z2 : w2.frozen? ⟨p + 2, 0, none⟩ = false := frozen_of_row _ _ _ _ _ v2
          clear hR2 v0 v1 v2
          go_simp
          refine hK.out _ _ HV2.out.ptr (fun hHeld => ?_)
          clear hK K
          (try simp only [Act.put, List.setIfInBounds_toArray, List.set_cons_zero, List.set_cons_succ])
          refine wpAnyH_ready (rs := [0]) (by kernel_rfl) (by simp) ?_
          refine AllReadyH.cons rfl (fun K hK => ?_) AllReadyH.nil
          go_simp
          refine hK.out _ _ HV2.out.ptr (fun hHeld => ?_)
          have HW3 := Lib.hid (ptr_set0 HV2.out.ptr)
          have HW4 := Lib.hid (ptr_set HW3.out (p + 1) (.int .i64 (kind : Int)) (by omega))
          have HW5 := Lib.hid (ptr_set HW4.out (p + 2) (.int .i64 0) (by omega))
          clear hK K
          (try simp only [Act.put, List.setIfInBounds_toArray, List.set_cons_zero, List.set_cons_succ])
          refine wpAnyH_ready (rs := [3]) (by kernel_rfl) (by simp) ?_
          refine AllReadyH.cons rfl (fun K hK => ?_) AllReadyH.nil
          go_simp
          refine hK.out _ _ HW3.out (fun hHeld => ?_)
          clear hK K
          (try simp only [Act.put, List.setIfInBounds_toArray, List.set_cons_zero, List.set_cons_succ])
          refine wpAnyH_ready (rs := [4]) (by kernel_rfl) (by simp) ?_
          refine AllReadyH.cons rfl (fun K hK => ?_) AllReadyH.nil
          go_simp
          refine hK.out _ _ HW4.out (fun hHeld => ?_)
          clear hK K
          (try simp only [Act.put, List.setIfInBounds_toArray, List.set_cons_zero, List.set_cons_succ])
          refine wpAnyH_ready (rs := [5]) (by kernel_rfl) (by simp) ?_
          refine AllReadyH.cons rfl (fun K hK => ?_) AllReadyH.nil
          go_simp
          refine hK.out _ _ HW5.out (fun hHeld => ?_)
          clear hK K
          (try simp only [Act.put, List.setIfInBounds_toArray, List.set_cons_zero, List.set_cons_succ])
          refine wpAnyH_done (by kernel_rfl) ?_ _
          obtain ⟨e0, e1, e2⟩ := vars_set (vars_ptr HV2.out) (kind : Int) 0
          obtain ⟨s1, s2⟩ := set3 p (w2.setCell ⟨p, 0, none⟩ (.pointer (some ⟨p + 3, 0, none⟩))) (kind : Int) 0
          have HFI := HR2.out.settle HSZ.out HP.out HMB.out (((Below.refl p w2).setCell (p := ⟨p, 0, none⟩) (Nat.le_refl _) (.pointer (some ⟨p + 3, 0, none⟩))).trans s1) (fun g hg => by rw [s2 g hg, Below.heap_setCell _ _ _ _ (by show g ≠ p; omega)])
          clear s1 s2 hsp d1 d2 z0 z1 z2 hHeld HW3 HW4 HW5
          have hw9 : (((w2.setCell ⟨p, 0, none⟩ (.pointer (some ⟨p + 3, 0, none⟩))).setCell ⟨p + 1, 0, none⟩ (.int .i64 (kind : Int))).setCell ⟨p + 1 + 1, 0, none⟩ (.int .i64 0)) = (((w2.setCell ⟨p, 0, none⟩ (.pointer (some ⟨p + 3, 0, none⟩))).setCell ⟨p + 1, 0, none⟩ (.int .i64 (kind : Int))).setCell ⟨p + 2, 0, none⟩ (.int .i64 0)) := rfl
          rw [hw9]
          clear hw9
          generalize ((w2.setCell ⟨p, 0, none⟩ (.pointer (some ⟨p + 3, 0, none⟩))).setCell ⟨p + 1, 0, none⟩ (.int .i64 (kind : Int))).setCell ⟨p + 2, 0, none⟩ (.int .i64 0) = w9 at *
          go_wp2_with fail
          refine leaves_cons (f := 30) (args := #[.pointer (some ⟨p, 0, none⟩), .pointer (some ⟨p + 1, 0, none⟩), .pointer (some ⟨p + 2, 0, none⟩)]) (by simp) (by simp [go_sem]) ?_
          refine (catch_idle _ _ _ _).mono ?_
          rintro e u' w'' ⟨rfl, rfl, rfl⟩
          refine ⟨.tuple #[.pointer (some ⟨p + 3, 0, none⟩), .int .i64 (kind : Int), .int .i64 0], ?_, ?_⟩
          · simp [results, Tryd.results20, go_sem, e0, e1, e2]
          · unfold ReadPost
            rw [HP.out, if_pos h0, h0]
            exact ⟨rfl, _, _, _, _, _, HFI, fun _ => ⟨rfl, rfl⟩⟩
        · have HV2 := Lib.hid (HMV.out.keep HSZ.out hR2.2.2.1)
          have HR2 := Lib.hid hR2
          clear hR2
          refine leaves_cons (f := 30) (args := #[.pointer (some ⟨p, 0, none⟩), .pointer (some ⟨p + 1, 0, none⟩), .pointer (some ⟨p + 2, 0, none⟩)]) (by simp) (by simp [go_sem]) ?_
          refine (catch_fault (p + 3) p R.till R.e w2 (mk3 w) s k2 text out gaps vo vg HR2.out HSZ.out HV2.out.1 HV2.out.2.1 HV2.out.2.2).mono ?_
          rintro e u' w'' ⟨rfl, rfl, w3, hR3, rfl⟩
          have HV3 := HMV.out.keep HSZ.out hR3.2.2.1
          obtain ⟨e0, e1, e2⟩ := vars_set HV3 0 R.e
          obtain ⟨s1, s2⟩ := set3 p w3 0 R.e
          have HFI := hR3.settle HSZ.out HP.out HMB.out s1 s2
          clear hR3 s1 s2 HV3
          generalize (w3.setCell ⟨p + 1, 0, none⟩ (.int .i64 0)).setCell ⟨p + 2, 0, none⟩ (.int .i64 R.e) = w9 at *
          refine ⟨.tuple #[.pointer (some ⟨p + 3, 0, none⟩), .int .i64 0, .int .i64 R.e], ?_, ?_⟩
          · simp [results, Tryd.results20, go_sem, e0, e1, e2]
          · unfold ReadPost
            rw [HP.out, if_neg h0]
            exact ⟨rfl, _, _, _, _, _, HFI, fun h => absurd h h0⟩
  · go_enter_defers Tryd.func20, Tryd.ntmps20
    go_wp2_with fail
    rw [HM.out]
    generalize mkR w s i = wR at *
    obtain ⟨p, hp⟩ : ∃ p, w.heap.size = p := ⟨_, rfl⟩
    have HP := Lib.hid hp
    have HSZ := Lib.hid (mk3_size w)
    have HMB := Lib.hid (mk3_below w)
    have HMV := Lib.hid (mk3_vars w)
    rw [hp] at HS0 HV L1 HSZ HMB HMV
    simp only [hp]
    clear hp HM
    refine wp_region_held_drew (S := PtrAt p) (by kernel_rfl) HS0.out (fun hHeld => ?_)
    refine wpAnyH_ready (rs := [0, 1]) (by kernel_rfl) (by simp) ?_
    refine AllReadyH.cons rfl (fun K hK => ?_) (AllReadyH.cons rfl (fun K hK => ?_) AllReadyH.nil)
    · have hsp0 := HS0.out
      unfold PtrAt at hsp0
      go_simp
      refine hK.out _ _ HS0.out (fun hHeld => ?_)
      clear hsp0
      clear hK K
      (try simp only [Act.put, List.setIfInBounds_toArray, List.set_cons_zero, List.set_cons_succ])
      refine wpAnyH_ready (rs := [1]) (by kernel_rfl) (by simp) ?_
      refine AllReadyH.cons rfl (fun K hK => ?_) AllReadyH.nil
      have hsp0 := HS0.out
      unfold PtrAt at hsp0
      go_simp
      refine hK.out _ _ HS0.out (fun hHeld => ?_)
      clear hsp0
      clear hK K
      (try simp only [Act.put, List.setIfInBounds_toArray, List.set_cons_zero, List.set_cons_succ])
      refine wpAnyH_ready (rs := [2]) (by kernel_rfl) (by simp) ?_
      refine AllReadyH.cons rfl (fun K hK => ?_) AllReadyH.nil
      go_simp
      go_at_call 31
      refine L1.out.mono ?_
      rintro e w2 (⟨h0, rfl, text, vo, vg, hR2⟩ | ⟨h0, rfl, k2, text, out, gaps, vo, vg, hR2⟩)
      · have HR2 := Lib.hid hR2
        have HV2 := Lib.hid (HMV.out.keep HSZ.out hR2.2.2.1)
        have hsp := HV2.out.ptr
        unfold PtrAt at hsp
        obtain ⟨v0, v1, v2⟩ := HV2.out
        have d1 : w2.cell? ⟨p + 1, 0, none⟩ = some (.int .i64 0) := cell_of_row _ _ _ _ _ _ v1
        have d2 : w2.cell? ⟨p + 2, 0, none⟩ = some (.int .i64 0) := cell_of_row _ _ _ _ _ _ v2
        have z0 : w2.frozen? ⟨p, 0, none⟩ = false := frozen_of_row _ _ _ _ _ v0
        have z1 : w2.frozen? ⟨p + 1, 0, none⟩ = false := frozen_of_row _ _ _ _ _ v1
        have z2 : w2.frozen? ⟨p + 2, 0, none⟩ = false := frozen_of_row _ _ _ _ _ v2
        clear hR2 v0 v1 v2
        go_simp
        refine hK.out _ _ HV2.out.ptr (fun hHeld => ?_)
        have HW3 := Lib.hid (ptr_set0 HV2.out.ptr)
        have HW4 := Lib.hid (ptr_set HW3.out (p + 1) (.int .i64 (kind : Int)) (by omega))
        have HW5 := Lib.hid (ptr_set HW4.out (p + 2) (.int .i64 0) (by omega))
        clear hK K
        (try simp only [Act.put, List.setIfInBounds_toArray, List.set_cons_zero, List.set_cons_succ])
        refine wpAnyH_ready (rs := [3]) (by kernel_rfl) (by simp) ?_
        refine AllReadyH.cons rfl (fun K hK => ?_) AllReadyH.nil
        go_simp
        refine hK.out _ _ HW3.out (fun hHeld => ?_)
        clear hK K
        (try simp only [Act.put, List.setIfInBounds_toArray, List.set_cons_zero, List.set_cons_succ])
        refine wpAnyH_ready (rs := [4]) (by kernel_rfl) (by simp) ?_
        refine AllReadyH.cons rfl (fun K hK => ?_) AllReadyH.nil
        go_simp
        refine hK.out _ _ HW4.out (fun hHeld => ?_)
        clear hK K
        (try simp only [Act.put, List.setIfInBounds_toArray, List.set_cons_zero, List.set_cons_succ])
        refine wpAnyH_ready (rs := [5]) (by kernel_rfl) (by simp) ?_
        refine AllReadyH.cons rfl (fun K hK => ?_) AllReadyH.nil
        go_simp
        refine hK.out _ _ HW5.out (fun hHeld => ?_)
        clear hK K
        (try simp only [Act.put, List.setIfInBounds_toArray, List.set_cons_zero, List.set_cons_succ])
        refine wpAnyH_done (by kernel_rfl) ?_ _
        obtain ⟨e0, e1, e2⟩ := vars_set (vars_ptr HV2.out) (kind : Int) 0
        obtain ⟨s1, s2⟩ := set3 p (w2.setCell ⟨p, 0, none⟩ (.pointer (some ⟨p + 3, 0, none⟩))) (kind : Int) 0
        have HFI := HR2.out.settle HSZ.out HP.out HMB.out (((Below.refl p w2).setCell (p := ⟨p, 0, none⟩) (Nat.le_refl _) (.pointer (some ⟨p + 3, 0, none⟩))).trans s1) (fun g hg => by rw [s2 g hg, Below.heap_setCell _ _ _ _ (by show g ≠ p; omega)])
        clear s1 s2 hsp d1 d2 z0 z1 z2 hHeld HW3 HW4 HW5
        have hw9 : (((w2.setCell ⟨p, 0, none⟩ (.pointer (some ⟨p + 3, 0, none⟩))).setCell ⟨p + 1, 0, none⟩ (.int .i64 (kind : Int))).setCell ⟨p + 1 + 1, 0, none⟩ (.int .i64 0)) = (((w2.setCell ⟨p, 0, none⟩ (.pointer (some ⟨p + 3, 0, none⟩))).setCell ⟨p + 1, 0, none⟩ (.int .i64 (kind : Int))).setCell ⟨p + 2, 0, none⟩ (.int .i64 0)) := rfl
        rw [hw9]
        clear hw9
        generalize ((w2.setCell ⟨p, 0, none⟩ (.pointer (some ⟨p + 3, 0, none⟩))).setCell ⟨p + 1, 0, none⟩ (.int .i64 (kind : Int))).setCell ⟨p + 2, 0, none⟩ (.int .i64 0) = w9 at *
        go_wp2_with fail
        refine leaves_cons (f := 30) (args := #[.pointer (some ⟨p, 0, none⟩), .pointer (some ⟨p + 1, 0, none⟩), .pointer (some ⟨p + 2, 0, none⟩)]) (by simp) (by simp [go_sem]) ?_
        refine (catch_idle _ _ _ _).mono ?_
        rintro e u' w'' ⟨rfl, rfl, rfl⟩
        refine ⟨.tuple #[.pointer (some ⟨p + 3, 0, none⟩), .int .i64 (kind : Int), .int .i64 0], ?_, ?_⟩
        · simp [results, Tryd.results20, go_sem, e0, e1, e2]
        · unfold ReadPost
          rw [HP.out, if_pos h0, h0]
          exact ⟨rfl, _, _, _, _, _, HFI, fun _ => ⟨rfl, rfl⟩⟩
      · have HV2 := Lib.hid (HMV.out.keep HSZ.out hR2.2.2.1)
        have HR2 := Lib.hid hR2
        clear hR2
        refine leaves_cons (f := 30) (args := #[.pointer (some ⟨p, 0, none⟩), .pointer (some ⟨p + 1, 0, none⟩), .pointer (some ⟨p + 2, 0, none⟩)]) (by simp) (by simp [go_sem]) ?_
        refine (catch_fault (p + 3) p R.till R.e w2 (mk3 w) s k2 text out gaps vo vg HR2.out HSZ.out HV2.out.1 HV2.out.2.1 HV2.out.2.2).mono ?_
        rintro e u' w'' ⟨rfl, rfl, w3, hR3, rfl⟩
        have HV3 := HMV.out.keep HSZ.out hR3.2.2.1
        obtain ⟨e0, e1, e2⟩ := vars_set HV3 0 R.e
        obtain ⟨s1, s2⟩ := set3 p w3 0 R.e
        have HFI := hR3.settle HSZ.out HP.out HMB.out s1 s2
        clear hR3 s1 s2 HV3
        generalize (w3.setCell ⟨p + 1, 0, none⟩ (.int .i64 0)).setCell ⟨p + 2, 0, none⟩ (.int .i64 R.e) = w9 at *
        refine ⟨.tuple #[.pointer (some ⟨p + 3, 0, none⟩), .int .i64 0, .int .i64 R.e], ?_, ?_⟩
        · simp [results, Tryd.results20, go_sem, e0, e1, e2]
        · unfold ReadPost
          rw [HP.out, if_neg h0]
          exact ⟨rfl, _, _, _, _, _, HFI, fun h => absurd h h0⟩
    · have hsp0 := HS0.out
      unfold PtrAt at hsp0
      go_simp
      refine hK.out _ _ HS0.out (fun hHeld => ?_)
      clear hsp0
      clear hK K
      (try simp only [Act.put, List.setIfInBounds_toArray, List.set_cons_zero, List.set_cons_succ])
      refine wpAnyH_ready (rs := [0, 2]) (by kernel_rfl) (by simp) ?_
      refine AllReadyH.cons rfl (fun K hK => ?_) (AllReadyH.cons rfl (fun K hK => ?_) AllReadyH.nil)
      · have hsp0 := HS0.out
        unfold PtrAt at hsp0
        go_simp
        refine hK.out _ _ HS0.out (fun hHeld => ?_)
        clear hsp0
        clear hK K
        (try simp only [Act.put, List.setIfInBounds_toArray, List.set_cons_zero, List.set_cons_succ])
        refine wpAnyH_ready (rs := [2]) (by kernel_rfl) (by simp) ?_
        refine AllReadyH.cons rfl (fun K hK => ?_) AllReadyH.nil
        go_simp
        go_at_call 31
        refine L1.out.mono ?_
        rintro e w2 (⟨h0, rfl, text, vo, vg, hR2⟩ | ⟨h0, rfl, k2, text, out, gaps, vo, vg, hR2⟩)
        · have HR2 := Lib.hid hR2
          have HV2 := Lib.hid (HMV.out.keep HSZ.out hR2.2.2.1)
          have hsp := HV2.out.ptr
          unfold PtrAt at hsp
          obtain ⟨v0, v1, v2⟩ := HV2.out
          have d1 : w2.cell? ⟨p + 1, 0, none⟩ = some (.int .i64 0) := cell_of_row _ _ _ _ _ _ v1
          have d2 : w2.cell? ⟨p + 2, 0, none⟩ = some (.int .i64 0) := cell_of_row _ _ _ _ _ _ v2
          have z0 : w2.frozen? ⟨p, 0, none⟩ = false := frozen_of_row _ _ _ _ _ v0
          have z1 : w2.frozen? ⟨p + 1, 0, none⟩ = false := frozen_of_row _ _ _ _ _ v1
          have z2 : w2.frozen? ⟨p + 2, 0, none⟩ = false := frozen_of_row _ _ _ _ _ v2
          clear hR2 v0 v1 v2
          go_simp
          refine hK.out _ _ HV2.out.ptr (fun hHeld => ?_)
          have HW3 := Lib.hid (ptr_set0 HV2.out.ptr)
          have HW4 := Lib.hid (ptr_set HW3.out (p + 1) (.int .i64 (kind : Int)) (by omega))
          have HW5 := Lib.hid (ptr_set HW4.out (p + 2) (.int .i64 0) (by omega))
          clear hK K
          (try simp only [Act.put, List.setIfInBounds_toArray, List.set_cons_zero, List.set_cons_succ])
          refine wpAnyH_ready (rs := [3]) (by kernel_rfl) (by simp) ?_
          refine AllReadyH.cons rfl (fun K hK => ?_) AllReadyH.nil
          go_simp
          refine hK.out _ _ HW3.out (fun hHeld => ?_)
          clear hK K
          (try simp only [Act.put, List.setIfInBounds_toArray, List.set_cons_zero, List.set_cons_succ])
          refine wpAnyH_ready (rs := [4]) (by kernel_rfl) (by simp) ?_
          refine AllReadyH.cons rfl (fun K hK => ?_) AllReadyH.nil
          go_simp
          refine hK.out _ _ HW4.out (fun hHeld => ?_)
          clear hK K
          (try simp only [Act.put, List.setIfInBounds_toArray, List.set_cons_zero, List.set_cons_succ])
          refine wpAnyH_ready (rs := [5]) (by kernel_rfl) (by simp) ?_
          refine AllReadyH.cons rfl (fun K hK => ?_) AllReadyH.nil
          go_simp
          refine hK.out _ _ HW5.out (fun hHeld => ?_)
          clear hK K
          (try simp only [Act.put, List.setIfInBounds_toArray, List.set_cons_zero, List.set_cons_succ])
          refine wpAnyH_done (by kernel_rfl) ?_ _
          obtain ⟨e0, e1, e2⟩ := vars_set (vars_ptr HV2.out) (kind : Int) 0
          obtain ⟨s1, s2⟩ := set3 p (w2.setCell ⟨p, 0, none⟩ (.pointer (some ⟨p + 3, 0, none⟩))) (kind : Int) 0
          have HFI := HR2.out.settle HSZ.out HP.out HMB.out (((Below.refl p w2).setCell (p := ⟨p, 0, none⟩) (Nat.le_refl _) (.pointer (some ⟨p + 3, 0, none⟩))).trans s1) (fun g hg => by rw [s2 g hg, Below.heap_setCell _ _ _ _ (by show g ≠ p; omega)])
          clear s1 s2 hsp d1 d2 z0 z1 z2 hHeld HW3 HW4 HW5
          have hw9 : (((w2.setCell ⟨p, 0, none⟩ (.pointer (some ⟨p + 3, 0, none⟩))).setCell ⟨p + 1, 0, none⟩ (.int .i64 (kind : Int))).setCell ⟨p + 1 + 1, 0, none⟩ (.int .i64 0)) = (((w2.setCell ⟨p, 0, none⟩ (.pointer (some ⟨p + 3, 0, none⟩))).setCell ⟨p + 1, 0, none⟩ (.int .i64 (kind : Int))).setCell ⟨p + 2, 0, none⟩ (.int .i64 0)) := rfl
          rw [hw9]
          clear hw9
          generalize ((w2.setCell ⟨p, 0, none⟩ (.pointer (some ⟨p + 3, 0, none⟩))).setCell ⟨p + 1, 0, none⟩ (.int .i64 (kind : Int))).setCell ⟨p + 2, 0, none⟩ (.int .i64 0) = w9 at *
          go_wp2_with fail
          refine leaves_cons (f := 30) (args := #[.pointer (some ⟨p, 0, none⟩), .pointer (some ⟨p + 1, 0, none⟩), .pointer (some ⟨p + 2, 0, none⟩)]) (by simp) (by simp [go_sem]) ?_
          refine (catch_idle _ _ _ _).mono ?_
          rintro e u' w'' ⟨rfl, rfl, rfl⟩
          refine ⟨.tuple #[.pointer (some ⟨p + 3, 0, none⟩), .int .i64 (kind : Int), .int .i64 0], ?_, ?_⟩
          · simp [results, Tryd.results20, go_sem, e0, e1, e2]
          · unfold ReadPost
            rw [HP.out, if_pos h0, h0]
            exact ⟨rfl, _, _, _, _, _, HFI, fun _ => ⟨rfl, rfl⟩⟩
        · have HV2 := Lib.hid (HMV.out.keep HSZ.out hR2.2.2.1)
          have HR2 := Lib.hid hR2
          clear hR2
          refine leaves_cons (f := 30) (args := #[.pointer (some ⟨p, 0, none⟩), .pointer (some ⟨p + 1, 0, none⟩), .pointer (some ⟨p + 2, 0, none⟩)]) (by simp) (by simp [go_sem]) ?_
          refine (catch_fault (p + 3) p R.till R.e w2 (mk3 w) s k2 text out gaps vo vg HR2.out HSZ.out HV2.out.1 HV2.out.2.1 HV2.out.2.2).mono ?_
          rintro e u' w'' ⟨rfl, rfl, w3, hR3, rfl⟩
          have HV3 := HMV.out.keep HSZ.out hR3.2.2.1
          obtain ⟨e0, e1, e2⟩ := vars_set HV3 0 R.e
          obtain ⟨s1, s2⟩ := set3 p w3 0 R.e
          have HFI := hR3.settle HSZ.out HP.out HMB.out s1 s2
          clear hR3 s1 s2 HV3
          generalize (w3.setCell ⟨p + 1, 0, none⟩ (.int .i64 0)).setCell ⟨p + 2, 0, none⟩ (.int .i64 R.e) = w9 at *
          refine ⟨.tuple #[.pointer (some ⟨p + 3, 0, none⟩), .int .i64 0, .int .i64 R.e], ?_, ?_⟩
          · simp [results, Tryd.results20, go_sem, e0, e1, e2]
          · unfold ReadPost
            rw [HP.out, if_neg h0]
            exact ⟨rfl, _, _, _, _, _, HFI, fun h => absurd h h0⟩
      · go_simp
        go_at_call 31
        refine L1.out.mono ?_
        rintro e w2 (⟨h0, rfl, text, vo, vg, hR2⟩ | ⟨h0, rfl, k2, text, out, gaps, vo, vg, hR2⟩)
        · have HR2 := Lib.hid hR2
          have HV2 := Lib.hid (HMV.out.keep HSZ.out hR2.2.2.1)
          have hsp := HV2.out.ptr
          unfold PtrAt at hsp
          obtain ⟨v0, v1, v2⟩ := HV2.out
          have d1 : w2.cell? ⟨p + 1, 0, none⟩ = some (.int .i64 0) := cell_of_row _ _ _ _ _ _ v1
          have d2 : w2.cell? ⟨p + 2, 0, none⟩ = some (.int .i64 0) := cell_of_row _ _ _ _ _ _ v2
          have z0 : w2.frozen? ⟨p, 0, none⟩ = false := frozen_of_row _ _ _ _ _ v0
          have z1 : w2.frozen? ⟨p + 1, 0, none⟩ = false := frozen_of_row _ _ _ _ _ v1
          have z2 : w2.frozen? ⟨p + 2, 0, none⟩ = false := frozen_of_row _ _ _ _ _ v2
          clear hR2 v0 v1 v2
          go_simp
          refine hK.out _ _ HV2.out.ptr (fun hHeld => ?_)
          clear hK K
          (try simp only [Act.put, List.setIfInBounds_toArray, List.set_cons_zero, List.set_cons_succ])
          refine wpAnyH_ready (rs := [0]) (by kernel_rfl) (by simp) ?_
          refine AllReadyH.cons rfl (fun K hK => ?_) AllReadyH.nil
          go_simp
          refine hK.out _ _ HV2.out.ptr (fun hHeld => ?_)
          have HW3 := Lib.hid (ptr_set0 HV2.out.ptr)
          have HW4 := Lib.hid (ptr_set HW3.out (p + 1) (.int .i64 (kind : Int)) (by omega))
          have HW5 := Lib.hid (ptr_set HW4.out (p + 2) (.int .i64 0) (by omega))
          clear hK K
          (try simp only [Act.put, List.setIfInBounds_toArray, List.set_cons_zero, List.set_cons_succ])
          refine wpAnyH_ready (rs := [3]) (by kernel_rfl) (by simp) ?_
          refine AllReadyH.cons rfl (fun K hK => ?_) AllReadyH.nil
          go_simp
          refine hK.out _ _ HW3.out (fun hHeld => ?_)
          clear hK K
          (try simp only [Act.put, List.setIfInBounds_toArray, List.set_cons_zero, List.set_cons_succ])
          refine wpAnyH_ready (rs := [4]) (by kernel_rfl) (by simp) ?_
          refine AllReadyH.cons rfl (fun K hK => ?_) AllReadyH.nil
          go_simp
          refine hK.out _ _ HW4.out (fun hHeld => ?_)
          clear hK K
          (try simp only [Act.put, List.setIfInBounds_toArray, List.set_cons_zero, List.set_cons_succ])
          refine wpAnyH_ready (rs := [5]) (by kernel_rfl) (by simp) ?_
          refine AllReadyH.cons rfl (fun K hK => ?_) AllReadyH.nil
          go_simp
          refine hK.out _ _ HW5.out (fun hHeld => ?_)
          clear hK K
          (try simp only [Act.put, List.setIfInBounds_toArray, List.set_cons_zero, List.set_cons_succ])
          refine wpAnyH_done (by kernel_rfl) ?_ _
          obtain ⟨e0, e1, e2⟩ := vars_set (vars_ptr HV2.out) (kind : Int) 0
          obtain ⟨s1, s2⟩ := set3 p (w2.setCell ⟨p, 0, none⟩ (.pointer (some ⟨p + 3, 0, none⟩))) (kind : Int) 0
          have HFI := HR2.out.settle HSZ.out HP.out HMB.out (((Below.refl p w2).setCell (p := ⟨p, 0, none⟩) (Nat.le_refl _) (.pointer (some ⟨p + 3, 0, none⟩))).trans s1) (fun g hg => by rw [s2 g hg, Below.heap_setCell _ _ _ _ (by show g ≠ p; omega)])
          clear s1 s2 hsp d1 d2 z0 z1 z2 hHeld HW3 HW4 HW5
          have hw9 : (((w2.setCell ⟨p, 0, none⟩ (.pointer (some ⟨p + 3, 0, none⟩))).setCell ⟨p + 1, 0, none⟩ (.int .i64 (kind : Int))).setCell ⟨p + 1 + 1, 0, none⟩ (.int .i64 0)) = (((w2.setCell ⟨p, 0, none⟩ (.pointer (some ⟨p + 3, 0, none⟩))).setCell ⟨p + 1, 0, none⟩ (.int .i64 (kind : Int))).setCell ⟨p + 2, 0, none⟩ (.int .i64 0)) := rfl
          rw [hw9]
          clear hw9
          generalize ((w2.setCell ⟨p, 0, none⟩ (.pointer (some ⟨p + 3, 0, none⟩))).setCell ⟨p + 1, 0, none⟩ (.int .i64 (kind : Int))).setCell ⟨p + 2, 0, none⟩ (.int .i64 0) = w9 at *
          go_wp2_with fail
          refine leaves_cons (f := 30) (args := #[.pointer (some ⟨p, 0, none⟩), .pointer (some ⟨p + 1, 0, none⟩), .pointer (some ⟨p + 2, 0, none⟩)]) (by simp) (by simp [go_sem]) ?_
          refine (catch_idle _ _ _ _).mono ?_
          rintro e u' w'' ⟨rfl, rfl, rfl⟩
          refine ⟨.tuple #[.pointer (some ⟨p + 3, 0, none⟩), .int .i64 (kind : Int), .int .i64 0], ?_, ?_⟩
          · simp [results, Tryd.results20, go_sem, e0, e1, e2]
          · unfold ReadPost
            rw [HP.out, if_pos h0, h0]
            exact ⟨rfl, _, _, _, _, _, HFI, fun _ => ⟨rfl, rfl⟩⟩
        · have HV2 := Lib.hid (HMV.out.keep HSZ.out hR2.2.2.1)
          have HR2 := Lib.hid hR2
          clear hR2
          refine leaves_cons (f := 30) (args := #[.pointer (some ⟨p, 0, none⟩), .pointer (some ⟨p + 1, 0, none⟩), .pointer (some ⟨p + 2, 0, none⟩)]) (by simp) (by simp [go_sem]) ?_
          refine (catch_fault (p + 3) p R.till R.e w2 (mk3 w) s k2 text out gaps vo vg HR2.out HSZ.out HV2.out.1 HV2.out.2.1 HV2.out.2.2).mono ?_
          rintro e u' w'' ⟨rfl, rfl, w3, hR3, rfl⟩
          have HV3 := HMV.out.keep HSZ.out hR3.2.2.1
          obtain ⟨e0, e1, e2⟩ := vars_set HV3 0 R.e
          obtain ⟨s1, s2⟩ := set3 p w3 0 R.e
          have HFI := hR3.settle HSZ.out HP.out HMB.out s1 s2
          clear hR3 s1 s2 HV3
          generalize (w3.setCell ⟨p + 1, 0, none⟩ (.int .i64 0)).setCell ⟨p + 2, 0, none⟩ (.int .i64 R.e) = w9 at *
          refine ⟨.tuple #[.pointer (some ⟨p + 3, 0, none⟩), .int .i64 0, .int .i64 R.e], ?_, ?_⟩
          · simp [results, Tryd.results20, go_sem, e0, e1, e2]
          · unfold ReadPost
            rw [HP.out, if_neg h0]
            exact ⟨rfl, _, _, _, _, _, HFI, fun h => absurd h h0⟩
end Go.Proofs.YtmgnpgbganjgfaaDoor
