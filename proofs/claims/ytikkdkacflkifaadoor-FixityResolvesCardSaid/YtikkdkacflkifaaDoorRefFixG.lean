/- DERIVED. The document's Resolve. -/
import Derived.Test.YtikkdkacflkifaaDoorRefFixF
import Derived.Test.YtikkdkacflkifaaDoorFixP
set_option linter.unusedSimpArgs false
set_option linter.unusedVariables false
namespace Go.Proofs.YtikkdkacflkifaaDoor
open Go.RowKit

theorem first_does (W0 : World) (b o : Nat) (ks : List Tr) (K : Nat → Value) (env : List Fx) (ea : Option Addr) (ec eb eo : Nat) (hG : RGround W0 b o ks K env ea eb eo) : ∀ f, FirstDoes W0 b o ks env (.slice ea env.length ec) f := by
  intro f
  induction f using Nat.strongRecOn with
  | _ f ih =>
    cases f with
    | zero => intro x k sv w hk _ hf; omega
    | succ f => exact first_step W0 b o ks K env ea ec eb eo f hG (ih f (by omega)) (then_step W0 b o ks K env ea ec eb eo f hG (fun g hg => ih g (by omega)))

set_option maxRecDepth 20000 in
set_option maxHeartbeats 8000000 in
theorem refResolve_any (env : List Fx) (t : Tr) (xa : Option Addr) (cap b o : Nat) (kv : Value) (w : World) (hs : ∀ (i : Nat) (h : i < t.kids.length), (t.kids[i]).mid.text.size ≤ 1152921504606846976)
    (hxa : 0 < env.length → xa = some ⟨b, o, none⟩) (hE : Fixes w b o env) (hl : Lies w t kv) :
    Calls Tryd.prog 19 #[.slice xa env.length cap, nodeV t kv] w (ResolvePost (resolveX env t) w) := by
  obtain ⟨R, hR⟩ : ∃ R, resolveX env t = R := ⟨_, rfl⟩
  rw [hR]
  obtain ⟨x, c, rfl⟩ := hl.shape
  have HL := Lib.hid hl
  have HE := Lib.hid hE
  have HX := Lib.hid hxa
  have HS := Lib.hid hs
  have HB0 := Lib.hid (((Below.refl w.heap.size w).alloc (Nat.le_refl _) (.cells #[.int .i64 t.kind, .int .i64 t.form, .string t.text, .int .i64 t.line, .int .i64 t.col, .slice x t.kids.length c] 32)).alloc (by simp) (.cells #[.int .i64 0, .int .i64 0, .string ⟨#[]⟩, .int .i64 0, .int .i64 0, .slice none 0 0] 32))
  clear hl hE hxa hs
  unfold nodeV
  have hZ0 := rowN_new (w.alloc (.cells #[.int .i64 t.kind, .int .i64 t.form, .string t.text, .int .i64 t.line, .int .i64 t.col, .slice x t.kids.length c] 32)) zeroT (.slice none 0 0)
  rw [show (w.alloc (.cells #[.int .i64 t.kind, .int .i64 t.form, .string t.text, .int .i64 t.line, .int .i64 t.col, .slice x t.kids.length c] 32)).heap.size = w.heap.size + 1 from by simp] at hZ0
  have HZ0 := Lib.hid hZ0
  have HN0 := Lib.hid ((rowN_new w t (.slice x t.kids.length c)).alloc (.cells #[.int .i64 0, .int .i64 0, .string ⟨#[]⟩, .int .i64 0, .int .i64 0, .slice none 0 0] 32))
  clear hZ0
  by_cases h17 : t.kind = 17
  · have t1 : (t.kind != 17) = false := by simp; exact h17
    have R1 := Lib.hid fun w hl => refRow_any t (.slice x t.kids.length c) w HS.out hl
    cases hrow : rowOk true t.kids with
    | false =>
      have HR := Lib.hid (show R = (zeroT, 120) by rw [← hR]; unfold resolveX; rw [if_pos h17, if_neg (by rw [hrow]; simp)])
      rw [hrow] at R1
      clear hR h17 hrow
      go_enter Tryd.func19, Tryd.ntmps19
      go_wp2_with fail
      refine (R1.out _ (HL.out.keep HB0.out)).mono ?_
      rintro e w1 ⟨rfl, hb1⟩
      have HZ1 := Lib.hid (HZ0.out.keep (hb1.block (w.heap.size + 1) (by simp)))
      have HB1 := Lib.hid (HB0.out.trans (hb1.mono (by simp; omega)))
      obtain ⟨e0, e1, e2, e3, e4, e5⟩ := HZ1.out.cells
      have z := HZ1.out.frozen
      clear hb1
      go_wp2_with fail
      obtain ⟨wN, hwN, hR9, ho9, hz9, ho1, ho2, ho3⟩ := store_node HZ1.out 0 0 0 0 ⟨#[]⟩ (.slice none 0 0)
      rw [hwN]
      have HN9 := hR9 zeroT rfl rfl rfl rfl rfl
      have hB9 := below_fresh HB1.out (g := w.heap.size + 1) (by omega) ho9 hz9 ho1 ho2 ho3
      clear ho9 hz9 ho1 ho2 ho3 hR9 hwN
      refine bodyPost_ret (results_ct_row rfl _ _ (w.heap.size + 1) 32 _ (0, 0) _ rfl HN9 Tryd.underlying32 rfl (by kernel_rfl)) rfl ?_
      exact ⟨.slice none 0 0, by rw [HR.out]; rfl, by rw [HR.out]; exact Lies.leaf 0 0 ⟨#[]⟩ 0 0, hB9⟩
    | true =>
      obtain ⟨⟨N, kq, q⟩, hQ⟩ : ∃ Q, pBegin env t.kids (2 * t.kids.length) ⟨⟨#[]⟩, 3, -1⟩ 0 = Q := ⟨_, rfl⟩
      have HR := Lib.hid (show R = if q = true then (zeroT, 160) else (N, 0) by rw [← hR]; unfold resolveX; rw [if_pos h17, if_pos hrow, hQ])
      rw [hrow] at R1
      have HROW := Lib.hid hrow
      have HQ := Lib.hid hQ
      clear hR h17 hrow hQ
      go_enter Tryd.func19, Tryd.ntmps19
      go_wp2_with fail
      refine (R1.out _ (HL.out.keep HB0.out)).mono ?_
      rintro e w1 ⟨rfl, hb1⟩
      have HZ1 := Lib.hid (HZ0.out.keep (hb1.block (w.heap.size + 1) (by simp)))
      have HN1 := Lib.hid (HN0.out.keep (hb1.block w.heap.size (by simp; omega)))
      have HB1 := Lib.hid (HB0.out.trans (hb1.mono (by simp; omega)))
      obtain ⟨d0, d1, d2, d3, d4, d5⟩ := HN1.out.cells
      clear hb1
      have hl1 := HL.out
      have hroom := hl1.room
      obtain ⟨x2, cap2, b2, o2, K, he2, hx2, hk2⟩ := hl1.kidsOf
      simp only [Value.slice.injEq, true_and] at he2
      obtain ⟨rfl, rfl⟩ := he2
      have hlt : w.heap.size + 1 < w1.heap.size := HZ1.out.lt
      have hG : RGround w b2 o2 t.kids K env xa b o := ⟨hk2, HX.out, HE.out, HS.out⟩
      have hpos : 0 < t.kids.length := by
        have h := HROW.out
        cases hks : t.kids with
        | nil => rw [hks] at h; simp [rowOk] at h
        | cons _ _ => simp
      have BG := first_does w b2 o2 t.kids K env xa cap b o hG (2 * t.kids.length) ⟨⟨#[]⟩, 3, -1⟩ 0 (.slice x t.kids.length c) w1 hpos (by rw [List.drop_zero]; exact HROW.out) (by omega) HB1.out ⟨x, c, by rw [Nat.sub_zero], fun h => by rw [hx2 h]; simp, by omega, hroom.2⟩
      rw [HQ.out] at BG
      have BG := Lib.hid BG
      clear hl1 hroom hx2 hk2 hG
      go_wp2_with fail
      refine BG.out.mono ?_
      rintro e w3 ⟨hb3, T, x3, c3, y3, m3, d3, rfl, hq3⟩
      have HB3 := Lib.hid (HB1.out.trans (hb3.mono (by omega)))
      have HZ3 := Lib.hid (HZ1.out.keep (hb3.block (w.heap.size + 1) (by omega)))
      have hlt3 : w.heap.size + 1 < w3.heap.size := HZ3.out.lt
      have HQ3 := Lib.hid hq3
      obtain ⟨e0, e1, e2, e3, e4, e5⟩ := HZ3.out.cells
      have z := HZ3.out.frozen
      clear hb3 hq3
      unfold partV
      cases q with
      | true =>
        have hR : R = (zeroT, 160) := by rw [HR.out]; rfl
        have HR := Lib.hid hR
        clear hR
        go_wp2_with fail
        obtain ⟨wN, hwN, hR9, ho9, hz9, ho1, ho2, ho3⟩ := store_node HZ3.out 0 0 0 0 ⟨#[]⟩ (.slice none 0 0)
        rw [hwN]
        have HN9 := (hR9 zeroT rfl rfl rfl rfl rfl).alloc (.cells #[.int .i64 T.kind, .int .i64 T.form, .string T.text, .int .i64 T.line, .int .i64 T.col, .slice x3 T.kids.length c3, .slice y3 m3 d3, .bool false] 68)
        have hB9 := (below_fresh HB3.out (g := w.heap.size + 1) (by omega) ho9 hz9 ho1 ho2 ho3).alloc (by rw [hz9]; omega) (.cells #[.int .i64 T.kind, .int .i64 T.form, .string T.text, .int .i64 T.line, .int .i64 T.col, .slice x3 T.kids.length c3, .slice y3 m3 d3, .bool false] 68)
        clear ho9 hz9 ho1 ho2 ho3 hR9 hwN
        refine bodyPost_ret (results_ct_row rfl _ _ (w.heap.size + 1) 32 _ (0, 0) _ rfl HN9 Tryd.underlying32 rfl (by kernel_rfl)) rfl ?_
        exact ⟨.slice none 0 0, by rw [HR.out]; rfl, by rw [HR.out]; exact Lies.leaf 0 0 ⟨#[]⟩ 0 0, hB9⟩
      | false =>
        obtain ⟨hT, hlT, hrT⟩ := HQ3.out rfl
        simp only at hT hlT hrT
        subst hT
        have hR : R = (T, 0) := by rw [HR.out]; rfl
        have HR := Lib.hid hR
        have HLT := Lib.hid hlT
        clear hR hlT hrT
        go_wp2_with fail
        obtain ⟨wN, hwN, hR9, ho9, hz9, ho1, ho2, ho3⟩ := store_node HZ3.out T.kind T.form T.line T.col T.text (.slice x3 T.kids.length c3)
        rw [hwN]
        have HN9 := (hR9 T rfl rfl rfl rfl rfl).alloc (.cells #[.int .i64 T.kind, .int .i64 T.form, .string T.text, .int .i64 T.line, .int .i64 T.col, .slice x3 T.kids.length c3, .slice y3 m3 d3, .bool true] 68)
        have hB9 := (below_fresh HB3.out (g := w.heap.size + 1) (by omega) ho9 hz9 ho1 ho2 ho3).alloc (by rw [hz9]; omega) (.cells #[.int .i64 T.kind, .int .i64 T.form, .string T.text, .int .i64 T.line, .int .i64 T.col, .slice x3 T.kids.length c3, .slice y3 m3 d3, .bool true] 68)
        have hL9 := ((HLT.out.keep (fun j _ hP => ho9 j (by have h : j < w.heap.size ∨ w1.heap.size ≤ j := hP; omega))).lies).keep ((Below.refl wN.heap.size wN).alloc (Nat.le_refl _) (.cells #[.int .i64 T.kind, .int .i64 T.form, .string T.text, .int .i64 T.line, .int .i64 T.col, .slice x3 T.kids.length c3, .slice y3 m3 d3, .bool true] 68))
        clear ho9 hz9 ho1 ho2 ho3 hR9 hwN
        refine bodyPost_ret (results_ct_row rfl _ _ (w.heap.size + 1) 32 _ (0, 0) _ rfl HN9 Tryd.underlying32 rfl (by kernel_rfl)) rfl ?_
        exact ⟨.slice x3 T.kids.length c3, by rw [HR.out]; rfl, by rw [HR.out]; exact hL9, hB9⟩
  · have t1 : (t.kind != 17) = true := by rw [bne_iff_ne]; exact h17
    have HR := Lib.hid (show R = (t, 0) by rw [← hR]; unfold resolveX; rw [if_neg h17])
    clear hR h17
    have hZ9 := rowN_new (w.alloc (.cells #[.int .i64 t.kind, .int .i64 t.form, .string t.text, .int .i64 t.line, .int .i64 t.col, .slice x t.kids.length c] 32)) t (.slice x t.kids.length c)
    rw [show (w.alloc (.cells #[.int .i64 t.kind, .int .i64 t.form, .string t.text, .int .i64 t.line, .int .i64 t.col, .slice x t.kids.length c] 32)).heap.size = w.heap.size + 1 from by simp] at hZ9
    have HZ9 := Lib.hid hZ9
    have HB9 := Lib.hid (((Below.refl w.heap.size w).alloc (Nat.le_refl _) (.cells #[.int .i64 t.kind, .int .i64 t.form, .string t.text, .int .i64 t.line, .int .i64 t.col, .slice x t.kids.length c] 32)).alloc (by simp) (.cells #[.int .i64 t.kind, .int .i64 t.form, .string t.text, .int .i64 t.line, .int .i64 t.col, .slice x t.kids.length c] 32))
    clear hZ9
    go_enter Tryd.func19, Tryd.ntmps19
    go_wp2_with fail
    refine bodyPost_ret (results_ct_row rfl _ _ (w.heap.size + 1) 32 _ (0, 0) _ rfl HZ9.out Tryd.underlying32 rfl (by kernel_rfl)) rfl ?_
    exact ⟨.slice x t.kids.length c, by rw [HR.out]; rfl, by rw [HR.out]; exact (HL.out.keep HB9.out), HB9.out⟩
#print axioms refResolve_any
end Go.Proofs.YtikkdkacflkifaaDoor
