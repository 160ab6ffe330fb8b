/- DERIVED. The resolver does what is plain; the walk of Resolve. -/
import Derived.Test.YtikkdkacflkifaaDoorFixG
import Derived.Test.YtikkdkacflkifaaDoorFixP
set_option linter.unusedSimpArgs false
set_option linter.unusedVariables false
namespace Go.Proofs.YtikkdkacflkifaaDoor
open Go.RowKit

theorem resolver_does (W0 : World) (X be b o : Nat) (ks : List Tr) (K : Nat → Value) (env : List Fx) (hG : Ground W0 X be b o ks K env) : ∀ f, BeginDoes W0 X be b o ks env f := by
  intro f
  induction f using Nat.strongRecOn with
  | _ f ih =>
    cases f with
    | zero => intro x k w hk _ hf; omega
    | succ f => exact beginning_step W0 X be b o ks K env f hG (ih f (by omega)) (going_step W0 X be b o ks K env f hG (fun g hg => ih g (by omega)))

theorem begin_post {W0 : World} {X be b o : Nat} {ks : List Tr} {B : Nat} {Q : Tr × Nat × Bool} {w w' : World} {e : Ending} (h : StepPost W0 X be b o ks B Q w e w') :
    ∃ x c, e = .returned (nodeV Q.1 (.slice x Q.1.kids.length c)) ∧ LiesP (fun g => (g < W0.heap.size ∧ g ≠ X) ∨ B ≤ g) w' Q.1 (.slice x Q.1.kids.length c) ∧ But W0.heap.size w w' ∧ w'.cell? ⟨W0.heap.size, 2, none⟩ = some (.bool Q.2.2) := by
  obtain ⟨h1, ⟨kv, he, hl⟩, sv, _, hv⟩ := h
  obtain ⟨x, c, rfl⟩ := hl.shape
  exact ⟨x, c, he, hl, h1, hv.c2⟩

set_option maxRecDepth 20000 in
set_option maxHeartbeats 2000000 in
theorem resolve_any (env : List Fx) (t : Tr) (xa : Option Addr) (cap b o : Nat) (kv : Value) (w : World) (hs : ∀ (i : Nat) (h : i < t.kids.length), (t.kids[i]).mid.text.size ≤ 1152921504606846976)
    (hxa : 0 < env.length → xa = some ⟨b, o, none⟩) (hE : Fixes w b o env) (hl : Lies w t kv) (hT : Tabs16 w) :
    Calls Tryd.prog 18 #[.slice xa env.length cap, nodeV t kv] w (ResolvePost (resolveX env t) w) := by
  obtain ⟨R, hR⟩ : ∃ R, resolveX env t = R := ⟨_, rfl⟩
  rw [hR]
  obtain ⟨x, c, rfl⟩ := hl.shape
  have HL := Lib.hid hl
  have HE := Lib.hid hE
  have HX := Lib.hid hxa
  have HT := Lib.hid hT
  have HS := Lib.hid hs
  have hB0 := (((Below.refl w.heap.size w).alloc (Nat.le_refl _) (.cells #[.slice xa env.length cap] 22)).alloc (by simp) (.cells #[.int .i64 t.kind, .int .i64 t.form, .string t.text, .int .i64 t.line, .int .i64 t.col, .slice x t.kids.length c] 32)).alloc (by simp; omega) (.cells #[.int .i64 0, .int .i64 0, .string ⟨#[]⟩, .int .i64 0, .int .i64 0, .slice none 0 0] 32)
  have HB0 := Lib.hid hB0
  clear hl hE hxa hT hs hB0
  unfold nodeV
  have hZ0 := rowN_new ((w.alloc (.cells #[.slice xa env.length cap] 22)).alloc (.cells #[.int .i64 t.kind, .int .i64 t.form, .string t.text, .int .i64 t.line, .int .i64 t.col, .slice x t.kids.length c] 32)) zeroT (.slice none 0 0)
  rw [show ((w.alloc (.cells #[.slice xa env.length cap] 22)).alloc (.cells #[.int .i64 t.kind, .int .i64 t.form, .string t.text, .int .i64 t.line, .int .i64 t.col, .slice x t.kids.length c] 32)).heap.size = w.heap.size + 2 from by simp] at hZ0
  have hN0 := (rowN_new (w.alloc (.cells #[.slice xa env.length cap] 22)) t (.slice x t.kids.length c)).alloc (.cells #[.int .i64 0, .int .i64 0, .string ⟨#[]⟩, .int .i64 0, .int .i64 0, .slice none 0 0] 32)
  rw [show (w.alloc (.cells #[.slice xa env.length cap] 22)).heap.size = w.heap.size + 1 from by simp] at hN0
  have HZ0 := Lib.hid hZ0
  have HN0 := Lib.hid hN0
  have HEB := Lib.hid (show ((((w.alloc (.cells #[.slice xa env.length cap] 22)).alloc (.cells #[.int .i64 t.kind, .int .i64 t.form, .string t.text, .int .i64 t.line, .int .i64 t.col, .slice x t.kids.length c] 32)).alloc (.cells #[.int .i64 0, .int .i64 0, .string ⟨#[]⟩, .int .i64 0, .int .i64 0, .slice none 0 0] 32)).heap[w.heap.size]?) = some (.cells #[.slice xa env.length cap] 22 (0, 0)) from by
    rw [Below.heap_alloc _ _ _ (by simp; omega), Below.heap_alloc _ _ _ (by simp)]; exact heap_alloc_new _ _)
  clear hZ0 hN0
  by_cases h17 : t.kind = 17
  · have t1 : (t.kind != 17) = false := by simp; exact h17
    have R1 := Lib.hid fun w hl hT => row_any t (.slice x t.kids.length c) w HS.out hl hT
    cases hrow : rowOk true t.kids with
    | false =>
      have HR := Lib.hid (show R = (zeroT, 120) by rw [← hR]; unfold resolveX; rw [if_pos h17, if_neg (by rw [hrow]; simp)])
      rw [hrow] at R1
      clear hR h17 hrow
      go_enter Tryd.func18, Tryd.ntmps18
      go_wp2_with fail
      refine (R1.out _ (HL.out.keep HB0.out) (HT.out.below HB0.out)).mono ?_
      rintro e w1 ⟨rfl, hb1⟩
      have HZ1 := Lib.hid (HZ0.out.keep (hb1.block (w.heap.size + 2) (by simp)))
      have HB1 := Lib.hid (HB0.out.trans (hb1.mono (by simp; omega)))
      obtain ⟨e0, e1, e2, e3, e4, e5⟩ := HZ1.out.cells
      have z := HZ1.out.frozen
      clear hb1
      go_wp2_with fail
      obtain ⟨wN, hwN, hR9, ho9, hz9, ho1, ho2, ho3⟩ := store_node HZ1.out 0 0 0 0 ⟨#[]⟩ (.slice none 0 0)
      rw [hwN]
      have HN9 := hR9 zeroT rfl rfl rfl rfl rfl
      have hB9 := below_fresh HB1.out (g := w.heap.size + 2) (by omega) ho9 hz9 ho1 ho2 ho3
      clear ho9 hz9 ho1 ho2 ho3 hR9 hwN
      refine bodyPost_ret (results_ct_row rfl _ _ (w.heap.size + 2) 32 _ (0, 0) _ rfl HN9 Tryd.underlying32 rfl (by kernel_rfl)) rfl ?_
      exact ⟨.slice none 0 0, by rw [HR.out]; rfl, by rw [HR.out]; exact Lies.leaf 0 0 ⟨#[]⟩ 0 0, hB9⟩
    | true =>
      obtain ⟨Q, hQ⟩ : ∃ Q, pBegin env t.kids (2 * t.kids.length) ⟨⟨#[]⟩, 3, -1⟩ 0 = Q := ⟨_, rfl⟩
      have HR := Lib.hid (show R = if Q.2.2 = true then (zeroT, 160) else (Q.1, 0) by rw [← hR]; unfold resolveX; rw [if_pos h17, if_pos hrow, hQ])
      rw [hrow] at R1
      have HROW := Lib.hid hrow
      have HQ := Lib.hid hQ
      clear hR h17 hrow hQ
      go_enter Tryd.func18, Tryd.ntmps18
      go_wp2_with fail
      refine (R1.out _ (HL.out.keep HB0.out) (HT.out.below HB0.out)).mono ?_
      rintro e w1 ⟨rfl, hb1⟩
      have HZ1 := Lib.hid (HZ0.out.keep (hb1.block (w.heap.size + 2) (by simp)))
      have HN1 := Lib.hid (HN0.out.keep (hb1.block (w.heap.size + 1) (by simp)))
      have HE1 := Lib.hid ((hb1.block w.heap.size (by simp; omega)).trans HEB.out)
      have HB1 := Lib.hid (HB0.out.trans (hb1.mono (by simp; omega)))
      obtain ⟨d0, d1, d2, d3, d4, d5⟩ := HN1.out.cells
      clear hb1
      have hl1 := HL.out.keep HB1.out
      have hlt : w.heap.size + 2 < w1.heap.size := HZ1.out.lt
      have hroom := hl1.room
      have hlP : LiesP (fun g => g < w1.heap.size ∧ g ≠ w.heap.size + 2) w1 t (.slice x t.kids.length c) := (HL.out.low.keep (fun j hj _ => HB1.out.block j hj)).mono (fun j _ hP => by have h : j < w.heap.size := hP; omega)
      obtain ⟨x2, cap2, b2, o2, K, he2, hx2, hk2⟩ := hlP.kidsOf
      simp only [Value.slice.injEq, true_and] at he2
      obtain ⟨rfl, rfl⟩ := he2
      have hst := HB1.out.size
      have hbe : w.heap.size < w1.heap.size := (Array.getElem?_eq_some_iff.1 HE1.out).1
      have hG : Ground w1 (w.heap.size + 2) w.heap.size b2 o2 t.kids K env := ⟨hk2, ⟨⟨xa, cap, b, o, HE1.out, HX.out, HE.out.below HB1.out⟩⟩, HT.out.below HB1.out, HS.out⟩
      have hpos : 0 < t.kids.length := by
        have h := HROW.out
        cases hks : t.kids with
        | nil => rw [hks] at h; simp [rowOk] at h
        | cons _ _ => simp
      have hRV : RV (w1.alloc (.cells #[.func (.func 35) #[] #[.pointer (some ⟨w.heap.size, 0, none⟩)], .slice x t.kids.length c, .bool false, .func (.func 36) #[.pointer (some ⟨w1.heap.size, 0, none⟩)] #[], .func (.func 37) #[.pointer (some ⟨w1.heap.size, 0, none⟩)] #[]] 66)) w1.heap.size w.heap.size (.slice x t.kids.length c) false := heap_alloc_new w1 _
      have hAt : At (w1.alloc (.cells #[.func (.func 35) #[] #[.pointer (some ⟨w.heap.size, 0, none⟩)], .slice x t.kids.length c, .bool false, .func (.func 36) #[.pointer (some ⟨w1.heap.size, 0, none⟩)] #[], .func (.func 37) #[.pointer (some ⟨w1.heap.size, 0, none⟩)] #[]] 66)) w1.heap.size w.heap.size b2 o2 t.kids 0 false := ⟨.slice x t.kids.length c, ⟨x, c, by rw [Nat.sub_zero], fun h => by rw [(hx2 h).1]; simp, by omega, hroom.2⟩, hRV⟩
      have BG := resolver_does w1 (w.heap.size + 2) w.heap.size b2 o2 t.kids K env hG (2 * t.kids.length) ⟨⟨#[]⟩, 3, -1⟩ 0 (w1.alloc (.cells #[.func (.func 35) #[] #[.pointer (some ⟨w.heap.size, 0, none⟩)], .slice x t.kids.length c, .bool false, .func (.func 36) #[.pointer (some ⟨w1.heap.size, 0, none⟩)] #[], .func (.func 37) #[.pointer (some ⟨w1.heap.size, 0, none⟩)] #[]] 66)) hpos (by rw [List.drop_zero]; exact HROW.out) (by omega) ((Below.refl _ _).alloc (Nat.le_refl _) _) hAt
      rw [HQ.out] at BG
      have BG := Lib.hid BG
      clear hl1 hroom hx2 hk2 hG hRV hAt
      go_wp2_with fail
      refine (BG.out).mono ?_
      rintro e w3 hp
      obtain ⟨x3, c3, rfl, hl3, hb3, hc3⟩ := begin_post hp
      have HL3 := Lib.hid hl3
      have hZ3 : RowN w3 (w.heap.size + 2) zeroT (.slice none 0 0) := (hb3.block (w.heap.size + 2) (by simp; omega) (by omega)).trans (HZ1.out.alloc _)
      have HZ3 := Lib.hid hZ3
      have HB3 := Lib.hid ((HB1.out.alloc (by omega) (.cells #[.func (.func 35) #[] #[.pointer (some ⟨w.heap.size, 0, none⟩)], .slice x t.kids.length c, .bool false, .func (.func 36) #[.pointer (some ⟨w1.heap.size, 0, none⟩)] #[], .func (.func 37) #[.pointer (some ⟨w1.heap.size, 0, none⟩)] #[]] 66)).trans (hb3.below (B := w.heap.size) (by omega) (by simp; omega)))
      have v2 : (w3.alloc (.cells #[.int .i64 Q.1.kind, .int .i64 Q.1.form, .string Q.1.text, .int .i64 Q.1.line, .int .i64 Q.1.col, .slice x3 Q.1.kids.length c3] 32)).cell? ⟨w1.heap.size, 2, none⟩ = some (.bool Q.2.2) := (((Below.refl w3.heap.size w3).alloc (Nat.le_refl _) _).cell (p := ⟨w1.heap.size, 2, none⟩) (lt_of_cell hc3)).trans hc3
      obtain ⟨e0, e1, e2, e3, e4, e5⟩ := HZ3.out.cells
      have z := HZ3.out.frozen
      have hlt3 : w.heap.size + 2 < w3.heap.size := hZ3.lt
      clear hp hl3 hb3 hc3 hZ3
      unfold nodeV
      generalize Q.2.2 = q at *
      generalize Q.1 = T at *
      cases q with
      | true =>
        go_wp2_with fail
        obtain ⟨wN, hwN, hR9, ho9, hz9, ho1, ho2, ho3⟩ := store_node HZ3.out 0 0 0 0 ⟨#[]⟩ (.slice none 0 0)
        rw [hwN]
        have HN9 := (hR9 zeroT rfl rfl rfl rfl rfl).alloc (.cells #[.int .i64 T.kind, .int .i64 T.form, .string T.text, .int .i64 T.line, .int .i64 T.col, .slice x3 T.kids.length c3] 32)
        have hB9 := (below_fresh HB3.out (g := w.heap.size + 2) (by omega) ho9 hz9 ho1 ho2 ho3).alloc (by rw [hz9]; omega) (.cells #[.int .i64 T.kind, .int .i64 T.form, .string T.text, .int .i64 T.line, .int .i64 T.col, .slice x3 T.kids.length c3] 32)
        clear ho9 hz9 ho1 ho2 ho3 hR9 hwN
        refine bodyPost_ret (results_ct_row rfl _ _ (w.heap.size + 2) 32 _ (0, 0) _ rfl HN9 Tryd.underlying32 rfl (by kernel_rfl)) rfl ?_
        exact ⟨.slice none 0 0, by rw [HR.out]; rfl, by rw [HR.out]; exact Lies.leaf 0 0 ⟨#[]⟩ 0 0, hB9⟩
      | false =>
        have hR : R = (T, 0) := by rw [HR.out]; rfl
        have HR := Lib.hid hR
        clear hR
        have HM4 := Lib.hid (rowN_new w3 T (.slice x3 T.kids.length c3))
        obtain ⟨d0, d1, d2, d3, d4, d5⟩ := HM4.out.cells
        go_wp2_with fail
        obtain ⟨wN, hwN, hR9, ho9, hz9, ho1, ho2, ho3⟩ := store_node HZ3.out T.kind T.form T.line T.col T.text (.slice x3 T.kids.length c3)
        rw [hwN]
        have HN9 := (hR9 T rfl rfl rfl rfl rfl).alloc (.cells #[.int .i64 T.kind, .int .i64 T.form, .string T.text, .int .i64 T.line, .int .i64 T.col, .slice x3 T.kids.length c3] 32)
        have hB9 := (below_fresh HB3.out (g := w.heap.size + 2) (by omega) ho9 hz9 ho1 ho2 ho3).alloc (by rw [hz9]; omega) (.cells #[.int .i64 T.kind, .int .i64 T.form, .string T.text, .int .i64 T.line, .int .i64 T.col, .slice x3 T.kids.length c3] 32)
        have hL9 := ((HL3.out.keep (fun j _ hP => ho9 j (by have h : (j < w1.heap.size ∧ j ≠ w.heap.size + 2) ∨ (w1.alloc (.cells #[.func (.func 35) #[] #[.pointer (some ⟨w.heap.size, 0, none⟩)], .slice x t.kids.length c, .bool false, .func (.func 36) #[.pointer (some ⟨w1.heap.size, 0, none⟩)] #[], .func (.func 37) #[.pointer (some ⟨w1.heap.size, 0, none⟩)] #[]] 66)).heap.size ≤ j := hP; simp at h; omega))).lies).keep ((Below.refl wN.heap.size wN).alloc (Nat.le_refl _) (.cells #[.int .i64 T.kind, .int .i64 T.form, .string T.text, .int .i64 T.line, .int .i64 T.col, .slice x3 T.kids.length c3] 32))
        clear ho9 hz9 ho1 ho2 ho3 hR9 hwN
        refine bodyPost_ret (results_ct_row rfl _ _ (w.heap.size + 2) 32 _ (0, 0) _ rfl HN9 Tryd.underlying32 rfl (by kernel_rfl)) rfl ?_
        exact ⟨.slice x3 T.kids.length c3, by rw [HR.out]; rfl, by rw [HR.out]; exact hL9, hB9⟩
  · have t1 : (t.kind != 17) = true := by rw [bne_iff_ne]; exact h17
    have HR := Lib.hid (show R = (t, 0) by rw [← hR]; unfold resolveX; rw [if_neg h17])
    clear hR h17
    have hZ9 := rowN_new ((w.alloc (.cells #[.slice xa env.length cap] 22)).alloc (.cells #[.int .i64 t.kind, .int .i64 t.form, .string t.text, .int .i64 t.line, .int .i64 t.col, .slice x t.kids.length c] 32)) t (.slice x t.kids.length c)
    rw [show ((w.alloc (.cells #[.slice xa env.length cap] 22)).alloc (.cells #[.int .i64 t.kind, .int .i64 t.form, .string t.text, .int .i64 t.line, .int .i64 t.col, .slice x t.kids.length c] 32)).heap.size = w.heap.size + 2 from by simp] at hZ9
    have HZ9 := Lib.hid hZ9
    have HB9 := Lib.hid ((((Below.refl w.heap.size w).alloc (Nat.le_refl _) (.cells #[.slice xa env.length cap] 22)).alloc (by simp) (.cells #[.int .i64 t.kind, .int .i64 t.form, .string t.text, .int .i64 t.line, .int .i64 t.col, .slice x t.kids.length c] 32)).alloc (by simp; omega) (.cells #[.int .i64 t.kind, .int .i64 t.form, .string t.text, .int .i64 t.line, .int .i64 t.col, .slice x t.kids.length c] 32))
    clear hZ9
    go_enter Tryd.func18, Tryd.ntmps18
    go_wp2_with fail
    refine bodyPost_ret (results_ct_row rfl _ _ (w.heap.size + 2) 32 _ (0, 0) _ rfl HZ9.out Tryd.underlying32 rfl (by kernel_rfl)) rfl ?_
    exact ⟨.slice x t.kids.length c, by rw [HR.out]; rfl, by rw [HR.out]; exact (HL.out.keep HB9.out), HB9.out⟩
#print axioms resolve_any
end Go.Proofs.YtikkdkacflkifaaDoor
