/- DERIVED. The walk of the reference's Read. -/
import Derived.Test.YtjdpbfjfcbjlfaaDoorRefReadC
import Derived.Test.YtjdpbfjfcbjlfaaDoorReadF
set_option linter.unusedSimpArgs false
set_option linter.unusedVariables false
namespace Go.Proofs.YtjdpbfjfcbjlfaaDoor
open Go.RowKit

set_option maxHeartbeats 2000000 in
theorem refRead_any (s : ByteArray) (w : World) : Calls Tryd.prog 23 #[.string s] w fun e w' => ReadPost (readGo s) w e w' := by
  obtain ⟨R, hR⟩ : ∃ R, readGo s = R := ⟨_, rfl⟩
  rw [hR]
  unfold readGo at hR
  by_cases hs : 16777216 < s.size
  · rw [if_pos hs] at hR
    have HRN := Lib.hid hR.symm
    have t1 : decide ((16777216 : Int) < s.size) = true := by simp; omega
    clear hR
    go_enter Tryd.func23, Tryd.ntmps23
    go_wp2_with fail
    refine bodyPost_ret (results_ct_row rfl _ _ w.heap.size 24 _ (0, 0) _ rfl (heap_alloc_new _ _) Tryd.underlying24 rfl (by kernel_rfl)) rfl ?_
    have := HRN.out
    subst this
    exact ⟨(Below.refl _ _).alloc (Nat.le_refl _) _, rfl, .inr (.inl rfl)⟩
  · rw [if_neg hs] at hR
    have t1 : decide ((16777216 : Int) < s.size) = false := by simp; omega
    have N1 := Lib.hid fun w => refRead1_any 1000 0 s 0 1 w rfl rfl (by omega) (by omega) (by omega)
    go_enter Tryd.func23, Tryd.ntmps23
    go_wp2_with fail
    have hA := rowN_new w zeroT (.slice none 0 0)
    refine (N1.out _).mono ?_
    intro e w1 hpost
    obtain ⟨hb1, hres⟩ := hpost
    rw [List.drop_zero] at hres
    have HA1 := Lib.hid (hA.keep (hb1.block _ hA.lt))
    have HB1 := Lib.hid (((Below.refl w.heap.size w).alloc (Nat.le_refl _) _).trans (hb1.mono (by simp)))
    have hst := HB1.out.size
    clear hA hb1
    have e0 := fun o => (HA1.out.alloc o).cells.1
    have e1 := fun o => (HA1.out.alloc o).cells.2.1
    have e2 := fun o => (HA1.out.alloc o).cells.2.2.1
    have e3 := fun o => (HA1.out.alloc o).cells.2.2.2.1
    have e4 := fun o => (HA1.out.alloc o).cells.2.2.2.2.1
    have e5 := fun o => (HA1.out.alloc o).cells.2.2.2.2.2
    have z := fun o => (HA1.out.alloc o).frozen
    cases hng : nodeGo 1000 s.data.toList with
    | error er =>
      rw [hng] at hres hR
      obtain ⟨t, a, n, c, rfl, her⟩ := hres
      have HRN := Lib.hid hR.symm
      clear hng hR
      rcases her with rfl | rfl
      · have u0 : errEnd 2 = -2 := rfl
        rw [u0]
        unfold nodeV
        go_wp2_with fail
        refine bodyPost_ret (results_ct_row rfl _ _ w.heap.size 24 _ (0, 0) _ rfl ((HA1.out.alloc _).set zeroT (.slice none 0 0)) Tryd.underlying24 rfl (by kernel_rfl)) rfl ?_
        exact readPost_err HRN.out (by omega) (HB1.out.alloc (by omega) _)
      · have u0 : errEnd 100 = -1 := rfl
        rw [u0]
        have u1 : ((-1 : Int) == s.size) = false := by rw [beq_eq_false_iff_ne]; omega
        have u2 : ((-1 : Int) != s.size) = true := by rw [bne_iff_ne]; omega
        unfold nodeV
        go_wp2_with fail
        refine bodyPost_ret (results_ct_row rfl _ _ w.heap.size 24 _ (0, 0) _ rfl ((HA1.out.alloc _).set zeroT (.slice none 0 0)) Tryd.underlying24 rfl (by kernel_rfl)) rfl ?_
        exact readPost_err HRN.out (by omega) (HB1.out.alloc (by omega) _)
    | ok tq =>
      obtain ⟨t, q⟩ := tq
      have hpos : 0 < s.size := by
        false_or_by_contra
        have hnil : s.data.toList = [] := List.eq_nil_of_length_eq_zero (by rw [← Lib.size_eq]; omega)
        rw [hnil] at hng
        rw [show nodeGo 1000 [] = .error 100 from by rw [nodeGo, if_neg (by simp), if_pos (by decide)]] at hng
        cases hng
      rw [hng] at hres hR
      obtain ⟨kv, j, rfl, _, hj, hq, hl⟩ := hres
      obtain ⟨kx, kc, rfl⟩ := hl.shape
      have HL := Lib.hid hl
      have hql : q = [] ↔ j = s.size := by
        rw [hq, List.drop_eq_nil_iff, ← Lib.size_eq]; omega
      dsimp only at hR
      have u3 : ((s.size : Int) == 0) = false := by rw [beq_eq_false_iff_ne]; omega
      have u4 : ((j : Int) == -2) = false := by rw [beq_eq_false_iff_ne]; omega
      clear hng hl hq
      by_cases hjs : j = s.size
      · rw [if_pos (hql.2 hjs)] at hR
        have HRN := Lib.hid hR.symm
        have u1 : ((j : Int) == s.size) = true := by simp; omega
        have u2 : ((j : Int) != s.size) = false := by rw [bne, u1]; rfl
        clear hR hql hjs u1
        unfold nodeV
        go_wp2_with fail
        refine bodyPost_ret (results_ct_row rfl _ _ w.heap.size 24 _ (0, 0) _ rfl ((HA1.out.alloc _).set t (.slice kx t.kids.length kc)) Tryd.underlying24 rfl (by kernel_rfl)) rfl ?_
        have := HRN.out
        subst this
        exact ⟨set6_below (HB1.out.alloc (by omega) _) _ (Nat.le_refl _) _ _, _, rfl, ((HL.out.alloc _).keep (fun k _ hk => set6_other _ _ _ _ k (by simp at hk; omega))).mono (fun k _ hk => by simp at hk; omega)⟩
      · rw [if_neg (by rw [hql]; exact hjs)] at hR
        have HRN := Lib.hid hR.symm
        have u1 : ((j : Int) == s.size) = false := by rw [beq_eq_false_iff_ne]; omega
        have u2 : ((j : Int) != s.size) = true := by rw [bne, u1]; rfl
        clear hR hql hjs u1
        unfold nodeV
        go_wp2_with fail
        refine bodyPost_ret (results_ct_row rfl _ _ w.heap.size 24 _ (0, 0) _ rfl ((HA1.out.alloc _).set zeroT (.slice none 0 0)) Tryd.underlying24 rfl (by kernel_rfl)) rfl ?_
        exact readPost_err HRN.out (by omega) (HB1.out.alloc (by omega) _)
end Go.Proofs.YtjdpbfjfcbjlfaaDoor
