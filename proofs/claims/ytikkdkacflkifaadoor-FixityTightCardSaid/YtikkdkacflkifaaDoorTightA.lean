/- DERIVED. The walk of under, of the law FixityTight. -/
import Derived.Test.YtikkdkacflkifaaDoorFixTi
import Derived.Test.YtikkdkacflkifaaDoorL16Awake
import Derived.Test.YtikkdkacflkifaaDoorTreeF
set_option linter.unusedSimpArgs false
set_option linter.unusedVariables false
namespace Go.Proofs.YtikkdkacflkifaaDoor
open Go.RowKit

/-- The kid in the middle of three. -/
def Tr.op (t : Tr) : Tr := (t.kids[1]?).getD zeroT
/-- The fixity that counts for a tree within an operator's. -/
def underX (env : List Fx) (t : Tr) : Fx × Bool :=
  if t.kind = 21 then (⟨⟨#[]⟩, 1, 6⟩, true) else if t.kind = 20 ∧ t.kids.length = 3 then (fixOf env t.op, (nameX t.op).isSome) else (⟨⟨#[]⟩, 0, 0⟩, false)
def underV (p : Fx × Bool) : Value := .tuple #[.agg #[.string p.1.op, .int .i64 p.1.side, .int .i64 p.1.prec], .bool p.2]
theorem nameV_get (env : List Fx) (t : Tr) : ∃ nm, nameV (nameX t) = .tuple #[.string nm, .bool (nameX t).isSome] ∧ findX env nm = fixOf env t := by
  unfold fixOf
  cases nameX t with
  | none => exact ⟨_, rfl, rfl⟩
  | some s => exact ⟨s, rfl, rfl⟩
theorem fix_laid (w1 : World) (op : ByteArray) (a b : Int) (n : Nat) (hn : n = w1.heap.size) : (w1.alloc (.cells #[.string op, .int .i64 a, .int .i64 b] 25)).heap[n]? = some (.cells #[.string op, .int .i64 a, .int .i64 b] 25 (0, 0)) := by subst hn; exact heap_alloc_new _ _
set_option maxRecDepth 20000 in
set_option maxHeartbeats 4000000 in
theorem under_any (env : List Fx) (xa : Option Addr) (ec eb eo : Nat) (t : Tr) (kv : Value) (w : World) (hxa : 0 < env.length → xa = some ⟨eb, eo, none⟩) (hE : Fixes w eb eo env) (hl : Lies w t kv) (hT : Tabs16 w) (hs : t.kind = 20 → t.op.mid.text.size ≤ 1152921504606846976) :
    Calls Tryd.prog 40 #[.slice xa env.length ec, nodeV t kv] w fun e w' => e = .returned (underV (underX env t)) ∧ Below w.heap.size w w' := by
  obtain ⟨R, hR⟩ : ∃ R, underX env t = R := ⟨_, rfl⟩
  rw [hR]
  unfold underX at hR
  have helen := hE.len
  have hshort := hl.short
  obtain ⟨ka, cap, b, o, K, rfl, hka, hk⟩ := hl.kidsOf
  have HE := Lib.hid hE
  have HX := Lib.hid hxa
  have HT := Lib.hid hT
  have HK := Lib.hid hk
  have HN0 := Lib.hid ((rowN_new w t (.slice ka t.kids.length cap)).alloc (.cells #[.string ⟨#[]⟩, .int .i64 0, .int .i64 0] 25))
  have hx0 := rowX_new (w.alloc (.cells #[.int .i64 t.kind, .int .i64 t.form, .string t.text, .int .i64 t.line, .int .i64 t.col, .slice ka t.kids.length cap] 32)) zeroX
  rw [show (w.alloc (.cells #[.int .i64 t.kind, .int .i64 t.form, .string t.text, .int .i64 t.line, .int .i64 t.col, .slice ka t.kids.length cap] 32)).heap.size = w.heap.size + 1 from by simp] at hx0
  have HX0 := Lib.hid hx0
  have HBN := Lib.hid (fun o => (((Below.refl w.heap.size w).alloc (Nat.le_refl _) (.cells #[.int .i64 t.kind, .int .i64 t.form, .string t.text, .int .i64 t.line, .int .i64 t.col, .slice ka t.kids.length cap] 32)).alloc (by simp) o))
  have HB0 := Lib.hid (((Below.refl w.heap.size w).alloc (Nat.le_refl _) (.cells #[.int .i64 t.kind, .int .i64 t.form, .string t.text, .int .i64 t.line, .int .i64 t.col, .slice ka t.kids.length cap] 32)).alloc (by simp) (.cells #[.string ⟨#[]⟩, .int .i64 0, .int .i64 0] 25))
  obtain ⟨d0, d1, d2, d3, d4, d5⟩ := HN0.out.cells
  obtain ⟨x0, x1, x2⟩ := HX0.out.cells
  have z := HX0.out.frozen
  clear hE hxa hT hl hk hx0
  unfold nodeV
  by_cases h21 : t.kind = 21
  · have t1 : (t.kind == 21) = true := by simp; exact h21
    have HR := Lib.hid (show R = (⟨⟨#[]⟩, 1, 6⟩, true) from by rw [← hR, if_pos h21])
    clear hR h21 hs
    go_enter Tryd.func40, Tryd.ntmps40
    go_wp2_with fail
    refine bodyPost_ret (results_ct_row rfl _ _ (w.heap.size + 1) 25 _ (0, 0) _ rfl (fix_laid _ ⟨#[]⟩ 1 6 _ (by simp)) Tryd.underlying25 rfl (by kernel_rfl)) rfl ?_
    exact ⟨by rw [HR.out]; rfl, HBN.out _⟩
  · have t1 : (t.kind == 21) = false := by simp; exact h21
    by_cases h20 : t.kind = 20
    · have t2 : (t.kind != 20) = false := by simp; exact h20
      have hs := hs h20
      by_cases h3 : t.kids.length = 3
      · have t3 : ((t.kids.length : Int) != 3) = false := by simp; omega
        have hR2 : R = (fixOf env t.op, (nameX t.op).isSome) := by rw [← hR, if_neg h21, if_pos ⟨h20, h3⟩]
        have hx := hka (by omega)
        subst hx
        have h1 : 1 < t.kids.length := by omega
        obtain ⟨x, c, hc', hlk, hbl⟩ := kid_at HK.out HB0.out h1
        have hop : t.kids[1] = t.op := by unfold Tr.op; rw [List.getElem?_eq_getElem h1]; rfl
        rw [hop] at hc' hlk
        rw [Nat.one_mul] at hc'
        have c0 := hc'.c0; have c1 := hc'.c1; have c2 := hc'.c2; have c3 := hc'.c3; have c4 := hc'.c4; have c5 := hc'.c5
        simp only [Nat.add_assoc, Nat.reduceAdd] at c1 c2 c3 c4 c5
        obtain ⟨nm, hnv, hfx⟩ := nameV_get env t.op
        have N1 := fun w hl hT => opName_any t.op (.slice x t.op.kids.length c) w hs hl hT
        rw [hnv] at N1
        have N1 := Lib.hid N1
        have F1 := fun w hE hT => find_any env xa ec eb eo nm w HX.out hE hT
        rw [hfx] at F1
        generalize t.op = k at *
        generalize fixOf env k = fx at *
        have F1 := Lib.hid F1
        have HR := Lib.hid hR2
        have HL := Lib.hid hlk
        clear hR hR2 hnv hfx hlk hc' h20 h21 h3 hs hop
        go_enter Tryd.func40, Tryd.ntmps40
        go_wp2_with fail
        refine (N1.out _ HL.out (HT.out.below HB0.out)).mono ?_
        rintro e w1 ⟨rfl, hb1⟩
        have HB1 := Lib.hid (Below.then HB0.out hb1)
        have HX1 := Lib.hid (HX0.out.below hb1)
        clear hb1
        go_wp2_with fail
        refine (F1.out _ (HE.out.below HB1.out) (HT.out.below HB1.out)).mono ?_
        rintro e w2 ⟨rfl, hb2⟩
        have HB2 := Lib.hid (Below.then HB1.out hb2)
        have HX2 := Lib.hid (HX1.out.below hb2)
        clear hb2 x0 x1 x2 z
        obtain ⟨x0, x1, x2⟩ := HX2.out.cells
        have z := HX2.out.frozen
        unfold fxV
        go_wp2_with fail
        refine bodyPost_ret (results_ct_row rfl _ _ (w.heap.size + 1) 25 _ (0, 0) _ rfl (HX2.out.set fx) Tryd.underlying25 rfl (by kernel_rfl)) rfl ?_
        exact ⟨by rw [HR.out]; rfl, set3_below HB2.out _ (by omega) _⟩
      · have t3 : ((t.kids.length : Int) != 3) = true := by simp; omega
        have HR := Lib.hid (show R = (⟨⟨#[]⟩, 0, 0⟩, false) from by rw [← hR, if_neg h21, if_neg (fun h => h3 h.2)])
        clear hR h21 h20 h3 hs
        go_enter Tryd.func40, Tryd.ntmps40
        go_wp2_with fail
        refine bodyPost_ret (results_ct_row rfl _ _ (w.heap.size + 1) 25 _ (0, 0) _ rfl (fix_laid _ ⟨#[]⟩ 0 0 _ (by simp)) Tryd.underlying25 rfl (by kernel_rfl)) rfl ?_
        exact ⟨by rw [HR.out]; rfl, HBN.out _⟩
    · have t2 : (t.kind != 20) = true := by simp; exact h20
      have HR := Lib.hid (show R = (⟨⟨#[]⟩, 0, 0⟩, false) from by rw [← hR, if_neg h21, if_neg (fun h => h20 h.1)])
      clear hR h21 h20 hs
      go_enter Tryd.func40, Tryd.ntmps40
      go_wp2_with fail
      refine bodyPost_ret (results_ct_row rfl _ _ (w.heap.size + 1) 25 _ (0, 0) _ rfl (fix_laid _ ⟨#[]⟩ 0 0 _ (by simp)) Tryd.underlying25 rfl (by kernel_rfl)) rfl ?_
      exact ⟨by rw [HR.out]; rfl, HBN.out _⟩
end Go.Proofs.YtikkdkacflkifaaDoor
