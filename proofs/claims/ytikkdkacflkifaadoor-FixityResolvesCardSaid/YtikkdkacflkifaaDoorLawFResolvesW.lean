/- DERIVED. The walk of the law FixityResolves. -/
import Derived.Test.YtikkdkacflkifaaDoorL16Awake
import Derived.Test.YtikkdkacflkifaaDoorRefFixG
import Derived.Test.YtikkdkacflkifaaDoorTreeF
set_option linter.unusedSimpArgs false
set_option linter.unusedVariables false
namespace Go.Proofs.YtikkdkacflkifaaDoor
open Go.RowKit

theorem ResolvePost.open {R : Tr × Int} {w w' : World} {e : Ending} (h : ResolvePost R w e w') : ∃ x c, e = .returned (.tuple #[nodeV R.1 (.slice x R.1.kids.length c), .int .i64 R.2]) ∧ Lies w' R.1 (.slice x R.1.kids.length c) ∧ Below w.heap.size w w' := by
  obtain ⟨kv, he, hl, hb⟩ := h
  obtain ⟨x, c, rfl⟩ := hl.shape
  exact ⟨x, c, he, hl, hb⟩
set_option maxRecDepth 20000 in
set_option maxHeartbeats 4000000 in
theorem fixityResolves_walk (env : List Fx) (xa : Option Addr) (cap b o : Nat) (t : Tr) (kv : Value) (w : World) (hs : ∀ (i : Nat) (h : i < t.kids.length), (t.kids[i]).mid.text.size ≤ 1152921504606846976) (hxa : 0 < env.length → xa = some ⟨b, o, none⟩) (hE : Fixes w b o env) (hl : Lies w t kv) (hT : Tabs16 w) :
    Calls Tryd.prog 5 #[.slice xa env.length cap, nodeV t kv] w fun e w' => e = .returned (.bool true) ∧ Below w.heap.size w w' := by
  obtain ⟨x, c, rfl⟩ := hl.shape
  have hshort := hl.short
  have helen := hE.len
  have R1 := fun w hE hl hT => resolve_any env t xa cap b o (.slice x t.kids.length c) w hs hxa hE hl hT
  have R2 := fun w hE hl => refResolve_any env t xa cap b o (.slice x t.kids.length c) w hs hxa hE hl
  obtain ⟨⟨N, er⟩, hR⟩ : ∃ R, resolveX env t = R := ⟨_, rfl⟩
  rw [hR] at R1 R2
  have S1 := fun kv jv w => refAll_any N.size N N kv jv w (Nat.le_refl _)
  rw [alike_refl N.size N (Nat.le_refl _)] at S1
  have R1 := Lib.hid R1
  have R2 := Lib.hid R2
  have S1 := Lib.hid S1
  have HN := Lib.hid (rowN_new w t (.slice x t.kids.length c))
  have HB := Lib.hid ((Below.refl w.heap.size w).alloc (Nat.le_refl _) (.cells #[.int .i64 t.kind, .int .i64 t.form, .string t.text, .int .i64 t.line, .int .i64 t.col, .slice x t.kids.length c] 32))
  have HL := Lib.hid hl
  have HT := Lib.hid hT
  have HE := Lib.hid hE
  obtain ⟨d0, d1, d2, d3, d4, d5⟩ := HN.out.cells
  have t0 : (er == er) = true := by simp
  clear hl hT hE hxa hs hR
  unfold nodeV
  by_cases hbig : 2000 < t.kids.length ∨ 200 < env.length
  · have hq : decide ((2000 : Int) < t.kids.length) = true ∨ (decide ((2000 : Int) < t.kids.length) = false ∧ decide ((200 : Int) < env.length) = true) := by
      by_cases h1 : 2000 < t.kids.length
      · left; simp; omega
      · right; refine ⟨?_, ?_⟩ <;> simp <;> omega
    clear hbig
    rcases hq with q1 | ⟨q1, q2⟩
    all_goals
      go_enter Tryd.func5, Tryd.ntmps5
      go_wp2_with fail
      refine (awake_any _ (HT.out.below HB.out)).mono ?_
      rintro e w1 ⟨rfl, hb1⟩
      have HB1 := Lib.hid (Below.then HB.out hb1)
      clear hb1
      go_wp2_with fail
      go_ret
      exact ⟨rfl, HB1.out⟩
  · have q1 : decide ((2000 : Int) < t.kids.length) = false := by simp; omega
    have q2 : decide ((200 : Int) < env.length) = false := by simp; omega
    clear hbig
    go_enter Tryd.func5, Tryd.ntmps5
    go_wp2_with fail
    refine (R1.out _ (HE.out.below HB.out) (HL.out.keep HB.out) (HT.out.below HB.out)).mono ?_
    rintro e w1 hp1
    obtain ⟨x1, c1, rfl, hl1, hb1⟩ := hp1.open
    simp only at hl1
    have HB1' := Lib.hid (Below.then HB.out hb1)
    have HN1 := Lib.hid ((HN.out.keep (hb1.block w.heap.size HN.out.lt)).alloc (.cells #[.int .i64 N.kind, .int .i64 N.form, .string N.text, .int .i64 N.line, .int .i64 N.col, .slice x1 N.kids.length c1] 32))
    have HB1 := Lib.hid (HB1'.out.alloc (Below.size HB1'.out) (.cells #[.int .i64 N.kind, .int .i64 N.form, .string N.text, .int .i64 N.line, .int .i64 N.col, .slice x1 N.kids.length c1] 32))
    have HA1 := Lib.hid (rowN_new w1 N (.slice x1 N.kids.length c1))
    have HL1 := Lib.hid (hl1.keep ((Below.refl _ _).alloc (Nat.le_refl _) (.cells #[.int .i64 N.kind, .int .i64 N.form, .string N.text, .int .i64 N.line, .int .i64 N.col, .slice x1 N.kids.length c1] 32)))
    obtain ⟨e0, e1, e2, e3, e4, e5⟩ := HN1.out.cells
    clear hp1 hl1 hb1 d0 d1 d2 d3 d4 d5
    unfold nodeV
    go_wp2_with fail
    refine (R2.out _ (HE.out.below HB1.out) (HL.out.keep HB1.out)).mono ?_
    rintro e w2 hp2
    obtain ⟨x2, c2, rfl, hl2, hb2⟩ := hp2.open
    simp only at hl2
    have HB2' := Lib.hid (Below.then HB1.out hb2)
    have HA2 := Lib.hid ((HA1.out.keep (hb2.block w1.heap.size HA1.out.lt)).alloc (.cells #[.int .i64 N.kind, .int .i64 N.form, .string N.text, .int .i64 N.line, .int .i64 N.col, .slice x2 N.kids.length c2] 32))
    have HB2 := Lib.hid (HB2'.out.alloc (Below.size HB2'.out) (.cells #[.int .i64 N.kind, .int .i64 N.form, .string N.text, .int .i64 N.line, .int .i64 N.col, .slice x2 N.kids.length c2] 32))
    have HC2 := Lib.hid (rowN_new w2 N (.slice x2 N.kids.length c2))
    have hnew := (Below.refl w2.heap.size w2).alloc (Nat.le_refl _) (.cells #[.int .i64 N.kind, .int .i64 N.form, .string N.text, .int .i64 N.line, .int .i64 N.col, .slice x2 N.kids.length c2] 32)
    have HL2 := Lib.hid (hl2.keep hnew)
    have HL1' := Lib.hid ((HL1.out.keep hb2).keep hnew)
    clear hp2 hl2 hb2 hnew e0 e1 e2 e3 e4 e5
    unfold nodeV
    go_wp2_with fail
    refine (awake_any _ (HT.out.below HB2.out)).mono ?_
    rintro e w3 ⟨rfl, hb3⟩
    have HB3 := Lib.hid (Below.then HB2.out hb3)
    have HA3 := Lib.hid (HA2.out.keep (hb3.block w1.heap.size HA2.out.lt))
    have HC3 := Lib.hid (HC2.out.keep (hb3.block w2.heap.size HC2.out.lt))
    have HL3 := Lib.hid (HL1'.out.keep hb3)
    have HM3 := Lib.hid (HL2.out.keep hb3)
    obtain ⟨a0, a1, a2, a3, a4, a5⟩ := HA3.out.cells
    obtain ⟨e0, e1, e2, e3, e4, e5⟩ := HC3.out.cells
    clear hb3
    go_wp2_with fail
    refine (S1.out _ _ _ HL3.out HM3.out).mono ?_
    rintro e w4 ⟨rfl, hb4⟩
    have HB4 := Lib.hid (Below.then HB3.out hb4)
    clear hb4
    go_wp2_with fail
    go_ret
    exact ⟨rfl, HB4.out⟩
#print axioms fixityResolves_walk
end Go.Proofs.YtikkdkacflkifaaDoor
