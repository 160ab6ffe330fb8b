/- DERIVED. The walk of Read. -/
import Derived.Test.YtjdpbfjfcbjlfaaDoorReadE
set_option linter.unusedSimpArgs false
set_option linter.unusedVariables false
namespace Go.Proofs.YtjdpbfjfcbjlfaaDoor
open Go.RowKit

/-- The tree whose text it is, or why there is none. -/
def readGo (s : ByteArray) : Except Int Tr :=
  if 16777216 < s.size then .error 3
  else match nodeGo 1000 s.data.toList with
    | .error e => .error e
    | .ok (t, q) => if q = [] then .ok t else .error 100
/-- What Read answers. -/
def ReadPost (R : Except Int Tr) (w : World) (e : Ending) (w' : World) : Prop :=
  Below w.heap.size w w' ∧
    match R with
    | .ok t => ∃ kv, e = .returned (.tuple #[nodeV t kv, .int .i64 0]) ∧ LiesP (w.heap.size ≤ ·) w' t kv
    | .error x => e = .returned (.tuple #[nodeV zeroT (.slice none 0 0), .int .i64 x]) ∧ (x = 2 ∨ x = 3 ∨ x = 100)

theorem readPost_err {R : Except Int Tr} {w w1 : World} {x : Int} (hR : R = .error x) (hx : x = 2 ∨ x = 3 ∨ x = 100) (hB : Below w.heap.size w w1) :
    ReadPost R w (.returned (.tuple #[nodeV zeroT (.slice none 0 0), .int .i64 x])) (set6 w1 w.heap.size zeroT (.slice none 0 0)) := by
  subst hR
  exact ⟨set6_below hB _ (Nat.le_refl _) _ _, rfl, hx⟩

set_option maxHeartbeats 2000000 in
theorem read_any (s : ByteArray) (w : World) : Calls Tryd.prog 22 #[.string s] w fun e w' => ReadPost (readGo s) w e w' := by
  obtain ⟨R, hR⟩ : ∃ R, readGo s = R := ⟨_, rfl⟩
  rw [hR]
  unfold readGo at hR
  by_cases hs : 16777216 < s.size
  · rw [if_pos hs] at hR
    have HRN := Lib.hid hR.symm
    have t1 : decide ((16777216 : Int) < s.size) = true := by simp; omega
    clear hR
    go_enter Tryd.func22, Tryd.ntmps22
    go_wp2_with fail
    refine bodyPost_ret (results_ct_row rfl _ _ w.heap.size 24 _ (0, 0) _ rfl (heap_alloc_new _ _) Tryd.underlying24 rfl (by kernel_rfl)) rfl ?_
    have := HRN.out
    subst this
    exact ⟨(Below.refl _ _).alloc (Nat.le_refl _) _, rfl, .inr (.inl rfl)⟩
  · rw [if_neg hs] at hR
    have t1 : decide ((16777216 : Int) < s.size) = false := by simp; omega
    have N1 := Lib.hid fun b w h => node_any 1000 b 0 s 0 w (by omega) (by omega) (by omega) h (by omega)
    go_enter Tryd.func22, Tryd.ntmps22
    go_wp2_with fail
    have hA := rowN_new w zeroT (.slice none 0 0)
    have hRD : RD ((w.alloc (.cells #[.int .i64 0, .int .i64 0, .string ⟨#[]⟩, .int .i64 0, .int .i64 0, .slice none 0 0] 24)).alloc (.cells #[.string s, .int .i64 0] 52)) (w.heap.size + 1) s 0 := by
      have := heap_alloc_new (w.alloc (.cells #[.int .i64 0, .int .i64 0, .string ⟨#[]⟩, .int .i64 0, .int .i64 0, .slice none 0 0] 24)) (.cells #[.string s, .int .i64 0] 52 (0, 0))
      rw [show (w.alloc (.cells #[.int .i64 0, .int .i64 0, .string ⟨#[]⟩, .int .i64 0, .int .i64 0, .slice none 0 0] 24)).heap.size = w.heap.size + 1 from by simp] at this
      exact this
    refine (N1.out _ _ hRD).mono ?_
    intro e w1 hpost
    obtain ⟨hb1, j, hR1, hj, hres⟩ := hpost
    rw [List.drop_zero] at hres
    have HA1 := Lib.hid ((hA.alloc (.cells #[.string s, .int .i64 0] 52)).but hb1 (by omega))
    have HB1 := Lib.hid ((((Below.refl w.heap.size w).alloc (Nat.le_refl _) _).alloc (by simp) _).trans (hb1.below (Nat.le_succ _) (by simp; omega)))
    have HR1 := Lib.hid hR1
    have hst := HB1.out.size
    clear hA hRD hb1 hR1
    cases hng : nodeGo 1000 s.data.toList with
    | error er =>
      rw [hng] at hres hR
      obtain ⟨rfl, her⟩ := hres
      have HRN := Lib.hid hR.symm
      have her0 : (er == 0) = false := by rw [beq_eq_false_iff_ne]; omega
      have her1 : (er != 0) = true := by rw [bne_iff_ne]; omega
      have e0 := fun o => (HA1.out.alloc o).cells.1
      have e1 := fun o => (HA1.out.alloc o).cells.2.1
      have e2 := fun o => (HA1.out.alloc o).cells.2.2.1
      have e3 := fun o => (HA1.out.alloc o).cells.2.2.2.1
      have e4 := fun o => (HA1.out.alloc o).cells.2.2.2.2.1
      have e5 := fun o => (HA1.out.alloc o).cells.2.2.2.2.2
      have z := fun o => (HA1.out.alloc o).frozen
      clear hng hR
      simp only [nodeV, zeroT, Tr.kind, Tr.form, Tr.text, Tr.line, Tr.col]
      go_wp2_with fail
      refine bodyPost_ret (results_ct_row rfl _ _ w.heap.size 24 _ (0, 0) _ rfl ((HA1.out.alloc _).set zeroT (.slice none 0 0)) Tryd.underlying24 rfl (by kernel_rfl)) rfl ?_
      exact readPost_err HRN.out (by omega) (HB1.out.alloc (by omega) _)
    | ok tq =>
      obtain ⟨t, q⟩ := tq
      rw [hng] at hres hR
      obtain ⟨_, kv, rfl, hq, hl⟩ := hres
      obtain ⟨kx, kc, rfl⟩ := hl.shape
      have HL := Lib.hid hl
      have hql : q = [] ↔ j = s.size := by
        rw [hq, List.drop_eq_nil_iff, ← Lib.size_eq]; omega
      dsimp only at hR
      have r1 := fun o => (HR1.out.alloc o).c1
      have e0 := fun o => (HA1.out.alloc o).cells.1
      have e1 := fun o => (HA1.out.alloc o).cells.2.1
      have e2 := fun o => (HA1.out.alloc o).cells.2.2.1
      have e3 := fun o => (HA1.out.alloc o).cells.2.2.2.1
      have e4 := fun o => (HA1.out.alloc o).cells.2.2.2.2.1
      have e5 := fun o => (HA1.out.alloc o).cells.2.2.2.2.2
      have z := fun o => (HA1.out.alloc o).frozen
      clear hng hl hq
      by_cases hjs : j = s.size
      · rw [if_pos (hql.2 hjs)] at hR
        have HRN := Lib.hid hR.symm
        have u1 : ((j : Int) == s.size) = true := by simp; omega
        have u2 : ((j : Int) != s.size) = false := by rw [bne, u1]; rfl
        clear hR hql hjs
        unfold nodeV
        go_wp2_with fail
        refine bodyPost_ret (results_ct_row rfl _ _ w.heap.size 24 _ (0, 0) _ rfl ((HA1.out.alloc _).set t (.slice kx t.kids.length kc)) Tryd.underlying24 rfl (by kernel_rfl)) rfl ?_
        have := HRN.out
        subst this
        exact ⟨set6_below (HB1.out.alloc (by omega) _) _ (Nat.le_refl _) _ _, _, rfl, ((HL.out.alloc _).keep (fun k _ hk => set6_other _ _ _ _ k (by simp at hk; omega))).mono (fun k _ hk => by simp at hk; omega)⟩
      · rw [if_neg (by rw [hql]; exact hjs)] at hR
        have HRN := Lib.hid hR.symm
        have u1 : ((j : Int) == s.size) = false := by rw [beq_eq_false_iff_ne]; omega
        have u2 : ((j : Int) != s.size) = true := by rw [bne, u1]; rfl
        clear hR hql hjs
        unfold nodeV
        go_wp2_with fail
        refine bodyPost_ret (results_ct_row rfl _ _ w.heap.size 24 _ (0, 0) _ rfl ((HA1.out.alloc _).set zeroT (.slice none 0 0)) Tryd.underlying24 rfl (by kernel_rfl)) rfl ?_
        exact readPost_err HRN.out (by omega) (HB1.out.alloc (by omega) _)
end Go.Proofs.YtjdpbfjfcbjlfaaDoor
