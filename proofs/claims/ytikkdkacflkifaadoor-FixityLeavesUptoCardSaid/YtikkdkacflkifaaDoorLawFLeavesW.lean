/- DERIVED. The walk of the law FixityLeaves. -/
import Derived.Test.YtikkdkacflkifaaDoorL16Awake
import Derived.Test.YtikkdkacflkifaaDoorFixL
import Derived.Test.YtikkdkacflkifaaDoorTreeI
import Derived.Deep.RegionHeld3
import Derived.Test.YtikkdkacflkifaaDoorTreeD
set_option linter.unusedSimpArgs false
set_option linter.unusedVariables false
namespace Go.Proofs.YtikkdkacflkifaaDoor
open Go.RowKit

theorem ResolvePost.opened {R : Tr × Int} {w w' : World} {e : Ending} (h : ResolvePost R w e w') : ∃ x c, e = .returned (.tuple #[nodeV R.1 (.slice x R.1.kids.length c), .int .i64 R.2]) ∧ Lies w' R.1 (.slice x R.1.kids.length c) ∧ Below w.heap.size w w' := by
  obtain ⟨kv, he, hl, hb⟩ := h
  obtain ⟨x, c, rfl⟩ := hl.shape
  exact ⟨x, c, he, hl, hb⟩
theorem RowN.below {w w' : World} {g : Nat} {t : Tr} {kv : Value} (h : RowN w g t kv) (hb : Below w.heap.size w w') : RowN w' g t kv := h.keep (hb.block g h.lt)
/-- What is refused is an empty node. -/
theorem resolve_none (env : List Fx) (t : Tr) (h : (resolveX env t).2 ≠ 0) : (resolveX env t).1 = zeroT := by
  unfold resolveX at h ⊢
  split at h
  · split at h
    · split at h <;> simp_all
    · simp_all
  · simp at h
set_option maxRecDepth 20000 in
set_option maxHeartbeats 4000000 in
theorem fixityLeaves_walk (env : List Fx) (xa : Option Addr) (cap b o : Nat) (t : Tr) (kv : Value) (w : World) (hs : ∀ (i : Nat) (h : i < t.kids.length), (t.kids[i]).mid.text.size ≤ 1152921504606846976) (hxa : 0 < env.length → xa = some ⟨b, o, none⟩) (hE : Fixes w b o env) (hl : Lies w t kv) (hT : Tabs16 w) (hz : t.size ≤ 1048576) :
    Calls Tryd.prog 8 #[.slice xa env.length cap, nodeV t kv] w fun e w' => e = .returned (.bool true) ∧ Below w.heap.size w w' := by
  obtain ⟨x, c, rfl⟩ := hl.shape
  have hshort := hl.short
  have helen := hE.len
  have R1 := fun w hE hl hT => resolve_any env t xa cap b o (.slice x t.kids.length c) w hs hxa hE hl hT
  have hlv := resolve_leaves env t
  have hrz := resolve_size env t
  have hno := resolve_none env t
  obtain ⟨⟨N, er⟩, hR⟩ : ∃ R, resolveX env t = R := ⟨_, rfl⟩
  rw [hR] at R1 hlv hrz hno
  have R1 := Lib.hid R1
  have HN := Lib.hid (rowN_new w t (.slice x t.kids.length c))
  have HB := Lib.hid ((Below.refl w.heap.size w).alloc (Nat.le_refl _) (.cells #[.int .i64 t.kind, .int .i64 t.form, .string t.text, .int .i64 t.line, .int .i64 t.col, .slice x t.kids.length c] 32))
  have HL := Lib.hid hl
  have HT := Lib.hid hT
  have HE := Lib.hid hE
  have L1 := Lib.hid fun w h => leaves_any t (.slice x t.kids.length c) w (by omega) h
  have hll := leaves_size _ t (Nat.le_refl _)
  clear hl hT hE hxa hs hR
  unfold nodeV
  by_cases hbig : 2000 < t.kids.length ∨ 200 < env.length
  · have hq : decide ((2000 : Int) < t.kids.length) = true ∨ (decide ((2000 : Int) < t.kids.length) = false ∧ decide ((200 : Int) < env.length) = true) := by
      by_cases h1 : 2000 < t.kids.length
      · left; simp; omega
      · right; refine ⟨?_, ?_⟩ <;> simp <;> omega
    clear hbig hlv hno
    rcases hq with q1 | ⟨q1, q2⟩
    all_goals
      go_enter Tryd.func8, Tryd.ntmps8
      go_wp2_with fail
      refine (awake_any _ (HT.out.below HB.out)).mono ?_
      rintro e w1 ⟨rfl, hb1⟩
      have HB1 := Lib.hid (Below.then HB.out hb1)
      have HN1 := Lib.hid (HN.out.keep (hb1.block w.heap.size HN.out.lt))
      obtain ⟨d0, d1, d2, d3, d4, d5⟩ := HN1.out.cells
      clear hb1
      go_wp2_with fail
      go_ret
      exact ⟨rfl, HB1.out⟩
  · have q1 : decide ((2000 : Int) < t.kids.length) = false := by simp; omega
    have q2 : decide ((200 : Int) < env.length) = false := by simp; omega
    clear hbig
    by_cases her : er = 0
    · subst her
      have t0 : ((0 : Int) != 0) = false := by decide
      have hlv := hlv rfl
      simp only at hlv hrz
      have L2 := fun kv w h => leaves_any N kv w (by omega) h
      rw [hlv] at L2
      have L2 := Lib.hid L2
      have T1 := Lib.hid fun va vb B1 B2 w h1 h2 => toks_any va vb t.leaves B1 B2 w h1 h2 (by omega)
      clear hlv hno hrz
      go_enter Tryd.func8, Tryd.ntmps8
      go_wp2_with fail
      refine (awake_any _ (HT.out.below HB.out)).mono ?_
      rintro e w0 ⟨rfl, hb0⟩
      have HB0 := Lib.hid (Below.then HB.out hb0)
      have HN0 := Lib.hid (HN.out.keep (hb0.block w.heap.size HN.out.lt))
      obtain ⟨d0, d1, d2, d3, d4, d5⟩ := HN0.out.cells
      clear hb0
      go_wp2_with fail
      refine (R1.out _ (HE.out.below HB0.out) (HL.out.keep HB0.out) (HT.out.below HB0.out)).mono ?_
      rintro e w1 hp1
      obtain ⟨x1, c1, rfl, hl1, hb1⟩ := hp1.opened
      simp only at hl1
      have HB1' := Lib.hid (Below.then HB0.out hb1)
      have HN1 := Lib.hid ((HN0.out.keep (hb1.block w.heap.size HN0.out.lt)).alloc (.cells #[.int .i64 N.kind, .int .i64 N.form, .string N.text, .int .i64 N.line, .int .i64 N.col, .slice x1 N.kids.length c1] 32))
      have HB1 := Lib.hid (HB1'.out.alloc (Below.size HB1'.out) (.cells #[.int .i64 N.kind, .int .i64 N.form, .string N.text, .int .i64 N.line, .int .i64 N.col, .slice x1 N.kids.length c1] 32))
      have HA1 := Lib.hid (rowN_new w1 N (.slice x1 N.kids.length c1))
      have HL1 := Lib.hid (hl1.keep ((Below.refl _ _).alloc (Nat.le_refl _) (.cells #[.int .i64 N.kind, .int .i64 N.form, .string N.text, .int .i64 N.line, .int .i64 N.col, .slice x1 N.kids.length c1] 32)))
      clear hp1 hl1 hb1 d0 d1 d2 d3 d4 d5
      have hA1 := HA1.out
      have hN1 := HN1.out
      have hB1 := HB1.out
      have hL1 := HL1.out
      generalize hwA : w1.alloc (.cells #[.int .i64 N.kind, .int .i64 N.form, .string N.text, .int .i64 N.line, .int .i64 N.col, .slice x1 N.kids.length c1] 32) = wA at hA1 hN1 hB1 hL1
      have HA := Lib.hid hA1
      have HNA := Lib.hid hN1
      have HBA := Lib.hid hB1
      have HLA := Lib.hid hL1
      have HWA := Lib.hid hwA
      clear hA1 hN1 hB1 hL1 hwA HA1 HN1 HB1 HL1
      have rn0 := fun w' (h : RowN w' w1.heap.size N (.slice x1 N.kids.length c1)) => h.cells.1
      have rn1 := fun w' (h : RowN w' w1.heap.size N (.slice x1 N.kids.length c1)) => h.cells.2.1
      have rn2 := fun w' (h : RowN w' w1.heap.size N (.slice x1 N.kids.length c1)) => h.cells.2.2.1
      have rn3 := fun w' (h : RowN w' w1.heap.size N (.slice x1 N.kids.length c1)) => h.cells.2.2.2.1
      have rn4 := fun w' (h : RowN w' w1.heap.size N (.slice x1 N.kids.length c1)) => h.cells.2.2.2.2.1
      have rn5 := fun w' (h : RowN w' w1.heap.size N (.slice x1 N.kids.length c1)) => h.cells.2.2.2.2.2
      have rt0 := fun w' (h : RowN w' w.heap.size t (.slice x t.kids.length c)) => h.cells.1
      have rt1 := fun w' (h : RowN w' w.heap.size t (.slice x t.kids.length c)) => h.cells.2.1
      have rt2 := fun w' (h : RowN w' w.heap.size t (.slice x t.kids.length c)) => h.cells.2.2.1
      have rt3 := fun w' (h : RowN w' w.heap.size t (.slice x t.kids.length c)) => h.cells.2.2.2.1
      have rt4 := fun w' (h : RowN w' w.heap.size t (.slice x t.kids.length c)) => h.cells.2.2.2.2.1
      have rt5 := fun w' (h : RowN w' w.heap.size t (.slice x t.kids.length c)) => h.cells.2.2.2.2.2
      unfold nodeV
      go_wp2_with fail
      rw [show w1.alloc (.cells #[.int .i64 N.kind, .int .i64 N.form, .string N.text, .int .i64 N.line, .int .i64 N.col, .slice x1 N.kids.length c1] 32) = wA from HWA.out]
      have HS0 := Lib.hid (show RowN wA.drew w1.heap.size N (.slice x1 N.kids.length c1) ∧ RowN wA.drew w.heap.size t (.slice x t.kids.length c) ∧ Below w.heap.size w wA.drew ∧ Below wA.heap.size wA wA.drew from ⟨HA.out.below (Below.refl _ _).drew, HNA.out.below (Below.refl _ _).drew, HBA.out.drew, (Below.refl _ _).drew⟩)
      go_region_held3 (fun w' => RowN w' w1.heap.size N (.slice x1 N.kids.length c1) ∧ RowN w' w.heap.size t (.slice x t.kids.length c) ∧ Below w.heap.size w w' ∧ Below wA.heap.size wA w')
        (first
          | with_reducible exact HS4.out
          | with_reducible exact HS3.out
          | with_reducible exact HS2.out
          | with_reducible exact HS0.out)
        (first
          | (go_at_call 26; (fail_if_success guard_hyp hva); refine (L2.out _ _ (HLA.out.keep HS0.out.2.2.2)).mono ?_; rintro e w2 ⟨va, rfl, hva, hb2⟩; have HS2 := Lib.hid (show RowN w2 w1.heap.size N (.slice x1 N.kids.length c1) ∧ RowN w2 w.heap.size t (.slice x t.kids.length c) ∧ Below w.heap.size w w2 ∧ Below wA.heap.size wA w2 from ⟨HS0.out.1.below hb2, HS0.out.2.1.below hb2, Below.then HS0.out.2.2.1 hb2, Below.then HS0.out.2.2.2 hb2⟩))
          | (go_at_call 26; refine (L1.out _ (HL.out.keep HS2.out.2.2.1)).mono ?_; rintro e w3 ⟨vb, rfl, hvb, hb3⟩; have hva' := OwnsK.below hva hb3; have HS3 := Lib.hid (show RowN w3 w1.heap.size N (.slice x1 N.kids.length c1) ∧ RowN w3 w.heap.size t (.slice x t.kids.length c) ∧ Below w.heap.size w w3 ∧ Below wA.heap.size wA w3 from ⟨HS2.out.1.below hb3, HS2.out.2.1.below hb3, Below.then HS2.out.2.2.1 hb3, Below.then HS2.out.2.2.2 hb3⟩))
          | (go_at_call 25; refine (T1.out _ _ _ _ _ hva' hvb).mono ?_; rintro e w4 ⟨rfl, hb4⟩; have HS4 := Lib.hid (show RowN w4 w1.heap.size N (.slice x1 N.kids.length c1) ∧ RowN w4 w.heap.size t (.slice x t.kids.length c) ∧ Below w.heap.size w w4 ∧ Below wA.heap.size wA w4 from ⟨HS3.out.1.below hb4, HS3.out.2.1.below hb4, Below.then HS3.out.2.2.1 hb4, Below.then HS3.out.2.2.2 hb4⟩)))
      all_goals
        go_wp2_with fail
        go_ret
        exact ⟨rfl, HS4.out.2.2.1⟩
    · have t0 : (er != 0) = true := by simp; exact her
      have hno := hno her
      simp only at hno
      subst hno
      have S1 := fun kv jv w => same_any zeroT.size zeroT zeroT kv jv w (Nat.le_refl _)
      rw [show zeroT.same zeroT = true from by decide +kernel] at S1
      have S1 := Lib.hid S1
      clear hlv hrz her
      go_enter Tryd.func8, Tryd.ntmps8
      go_wp2_with fail
      refine (awake_any _ (HT.out.below HB.out)).mono ?_
      rintro e w0 ⟨rfl, hb0⟩
      have HB0 := Lib.hid (Below.then HB.out hb0)
      have HN0 := Lib.hid (HN.out.keep (hb0.block w.heap.size HN.out.lt))
      obtain ⟨d0, d1, d2, d3, d4, d5⟩ := HN0.out.cells
      clear hb0
      go_wp2_with fail
      refine (R1.out _ (HE.out.below HB0.out) (HL.out.keep HB0.out) (HT.out.below HB0.out)).mono ?_
      rintro e w1 hp1
      obtain ⟨x1, c1, rfl, hl1, hb1⟩ := hp1.opened
      simp only at hl1
      have HB1' := Lib.hid (Below.then HB0.out hb1)
      have HB1 := Lib.hid (HB1'.out.alloc (Below.size HB1'.out) (.cells #[.int .i64 zeroT.kind, .int .i64 zeroT.form, .string zeroT.text, .int .i64 zeroT.line, .int .i64 zeroT.col, .slice x1 zeroT.kids.length c1] 32))
      have HA1 := Lib.hid (rowN_new w1 zeroT (.slice x1 zeroT.kids.length c1))
      have HL1 := Lib.hid (hl1.keep ((Below.refl _ _).alloc (Nat.le_refl _) (.cells #[.int .i64 zeroT.kind, .int .i64 zeroT.form, .string zeroT.text, .int .i64 zeroT.line, .int .i64 zeroT.col, .slice x1 zeroT.kids.length c1] 32)))
      clear hp1 hl1 hb1 d0 d1 d2 d3 d4 d5
      obtain ⟨e0, e1, e2, e3, e4, e5⟩ := HA1.out.cells
      have HZL := Lib.hid fun w => Lies.leaf (w := w) 0 0 ⟨#[]⟩ 0 0
      unfold nodeV
      go_wp2_with fail
      refine (S1.out _ _ _ HL1.out (HZL.out _)).mono ?_
      rintro e w2 ⟨rfl, hb2⟩
      have HB2 := Lib.hid (Below.then HB1.out hb2)
      clear hb2
      go_wp2_with fail
      go_ret
      exact ⟨rfl, HB2.out⟩
#print axioms fixityLeaves_walk
end Go.Proofs.YtikkdkacflkifaaDoor
