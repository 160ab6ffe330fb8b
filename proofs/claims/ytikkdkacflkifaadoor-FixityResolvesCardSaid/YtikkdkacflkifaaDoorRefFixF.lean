/- DERIVED. The walk of the document's then, given what first does further on. -/
import Derived.Test.YtikkdkacflkifaaDoorRefFixE
import Derived.Deep.DeepCutAuto
set_option linter.unusedSimpArgs false
set_option linter.unusedVariables false
namespace Go.Proofs.YtikkdkacflkifaaDoor
open Go.RowKit

/-- Where then has come to. -/
structure ThenAt (W0 : World) (b o : Nat) (ks : List Tr) (env : List Fx) (y : Fx) (B : Nat) (w : World) (F : Nat) (R : Tr × Nat × Bool) (n : Tr) (nv : Value) (k : Nat) (sv : Value) (f : Nat) (W : World) : Prop where
  bel : Below w.heap.size w W
  big : w.heap.size + 3 ≤ W.heap.size
  box : RowX W w.heap.size y
  cur : RowN W (w.heap.size + 1) n nv
  res : RowP W (w.heap.size + 2) zeroT (.slice none 0 0) (.slice none 0 0) false
  lie : LiesP (fun g => (g < W0.heap.size ∨ B ≤ g) ∧ g ≠ w.heap.size + 1 ∧ g ≠ w.heap.size + 2) W n nv
  at_ : RestAt b o ks k sv
  le : k ≤ ks.length
  row : rowOk false (ks.drop k) = true
  fuel : 2 * (ks.length - k) ≤ f
  most : f ≤ F
  val : pGo env ks f y n k false = R
def ThenRel (W0 : World) (b o : Nat) (ks : List Tr) (env : List Fx) (y : Fx) (B : Nat) (w : World) (F : Nat) (R : Tr × Nat × Bool) (g : Nat) (sv : Value) (W : World) : Prop :=
  ∃ n nv k f, g = ks.length - k ∧ ThenAt W0 b o ks env y B w F R n nv k sv f W
/-- What a call of first has left, in a variable. -/
def PartCut (W0 : World) (b o : Nat) (ks : List Tr) (Q : Tr × Nat × Bool) (w0 : World) (s : Value) (wx : World) : Prop :=
  ∃ (g : Nat) (T : Tr) (x : Option Addr) (c : Nat) (y : Option Addr) (m d : Nat), s = .pointer (some ⟨g, 0, none⟩) ∧ w0.heap.size ≤ g ∧ RowP wx g T (.slice x T.kids.length c) (.slice y m d) (!Q.2.2) ∧ Below w0.heap.size w0 wx ∧
    (Q.2.2 = false → T = Q.1 ∧ LiesP (fun j => (j < W0.heap.size ∨ w0.heap.size ≤ j)) wx T (.slice x T.kids.length c) ∧ RestAt b o ks Q.2.1 (.slice y m d))

theorem keep9 {W : World} {b off g g2 : Nat} {t u : Tr} {kv xv lv : Value} {ok : Bool} (hC : Cells6 W b off t kv) (hP : RowP W g2 u xv lv ok) (hb : b ≠ g) (hg : g2 ≠ g) (v0 v1 v2 v3 v4 v5 : Value) :
    Cells6 (World.drew ((((((W.setCell ⟨g, 0, none⟩ v0).setCell ⟨g, 1, none⟩ v1).setCell ⟨g, 2, none⟩ v2).setCell ⟨g, 3, none⟩ v3).setCell ⟨g, 4, none⟩ v4).setCell ⟨g, 5, none⟩ v5)) b off t kv ∧ RowP (World.drew ((((((W.setCell ⟨g, 0, none⟩ v0).setCell ⟨g, 1, none⟩ v1).setCell ⟨g, 2, none⟩ v2).setCell ⟨g, 3, none⟩ v3).setCell ⟨g, 4, none⟩ v4).setCell ⟨g, 5, none⟩ v5)) g2 u xv lv ok := by
  have h1 := hC.same (other6 W g v0 v1 v2 v3 v4 v5 b hb)
  have h2 := hP.keep (other6 W g v0 v1 v2 v3 v4 v5 g2 hg)
  generalize ((((((W.setCell ⟨g, 0, none⟩ v0).setCell ⟨g, 1, none⟩ v1).setCell ⟨g, 2, none⟩ v2).setCell ⟨g, 3, none⟩ v3).setCell ⟨g, 4, none⟩ v4).setCell ⟨g, 5, none⟩ v5) = X at *
  exact ⟨h1.below (Below.refl _ _).drew, h2⟩
theorem part_cut {W0 : World} {b o : Nat} {ks : List Tr} {N T : Tr} {kq : Nat} {q : Bool} {wf w3 : World} {x3 y3 : Option Addr} {c3 m3 d3 : Nat} {PZ : Obj}
    (hb3 : Below (wf.alloc PZ).drew.heap.size (wf.alloc PZ).drew w3) (hX : RowP w3 wf.heap.size zeroT (.slice none 0 0) (.slice none 0 0) false)
    (hq3 : q = false → T = N ∧ LiesP (fun g => g < W0.heap.size ∨ (wf.alloc PZ).drew.heap.size ≤ g) w3 T (.slice x3 T.kids.length c3) ∧ RestAt b o ks kq (.slice y3 m3 d3)) (hW : W0.heap.size ≤ wf.heap.size) :
    PartCut W0 b o ks (N, kq, q) wf (.pointer (some ⟨wf.heap.size, 0, none⟩)) (set8 w3 wf.heap.size (.int .i64 T.kind) (.int .i64 T.form) (.string T.text) (.int .i64 T.line) (.int .i64 T.col) (.slice x3 T.kids.length c3) (.slice y3 m3 d3) (.bool (!q))) := by
  have hs : (wf.alloc PZ).drew.heap.size = wf.heap.size + 1 := by simp
  have hb := set8_below w3 wf.heap.size (.int .i64 T.kind) (.int .i64 T.form) (.string T.text) (.int .i64 T.line) (.int .i64 T.col) (.slice x3 T.kids.length c3) (.slice y3 m3 d3) (.bool (!q))
  have hB : Below wf.heap.size wf w3 := Below.then (((Below.refl wf.heap.size wf).alloc (Nat.le_refl _) PZ).drew) hb3
  refine ⟨wf.heap.size, T, x3, c3, y3, m3, d3, rfl, Nat.le_refl _, part_set hX .., below_fresh hB (g := wf.heap.size) (Nat.le_refl _) (fun j hj => other8 _ _ _ _ _ _ _ _ _ _ _ hj) (by simp [set8]) hb.os hb.tape hb.output, fun h => ⟨(hq3 h).1, ((hq3 h).2.1.keep (fun j _ hP => other8 _ _ _ _ _ _ _ _ _ _ _ ?_)).mono (fun j _ hP => ?_), (hq3 h).2.2⟩⟩
  · have h : j < W0.heap.size ∨ (wf.alloc PZ).drew.heap.size ≤ j := hP
    omega
  · have h : j < W0.heap.size ∨ (wf.alloc PZ).drew.heap.size ≤ j := hP
    omega
set_option maxRecDepth 20000 in
set_option maxHeartbeats 16000000 in
theorem then_step (W0 : World) (b o : Nat) (ks : List Tr) (K : Nat → Value) (env : List Fx) (ea : Option Addr) (ec eb eo : Nat) (F : Nat) (hG : RGround W0 b o ks K env ea eb eo)
    (hFi : ∀ f, f < F → FirstDoes W0 b o ks env (.slice ea env.length ec) f) : ThenDoes W0 b o ks env (.slice ea env.length ec) F := by
  intro y n nv k sv B w hk hr hf hW hB1 hB2 hl hRest
  obtain ⟨R, hR⟩ : ∃ R, pGo env ks F y n k false = R := ⟨_, rfl⟩
  rw [hR]
  obtain ⟨xa, c, rfl⟩ := hl.shape
  have HG := Lib.hid hG
  have HW := Lib.hid hW
  have HFI := Lib.hid hFi
  have hst := hW.size
  have HS : Hid (ThenAt W0 b o ks env y B w F R n (.slice xa n.kids.length c) k sv F (((w.alloc (.cells #[.string y.op, .int .i64 y.side, .int .i64 y.prec] 25)).alloc (.cells #[.int .i64 n.kind, .int .i64 n.form, .string n.text, .int .i64 n.line, .int .i64 n.col, .slice xa n.kids.length c] 32)).alloc (.cells #[.int .i64 0, .int .i64 0, .string ⟨#[]⟩, .int .i64 0, .int .i64 0, .slice none 0 0, .slice none 0 0, .bool false] 68))) := by
    refine Lib.hid ⟨(((Below.refl w.heap.size w).alloc (Nat.le_refl _) _).alloc (by simp) _).alloc (by simp; omega) _, by simp, ((rowX_new w y).alloc _).alloc _, ?_, ?_, ?_, hRest, hk, hr, hf, Nat.le_refl _, hR⟩
    · have h := (rowN_new (w.alloc (.cells #[.string y.op, .int .i64 y.side, .int .i64 y.prec] 25)) n (.slice xa n.kids.length c)).alloc (.cells #[.int .i64 0, .int .i64 0, .string ⟨#[]⟩, .int .i64 0, .int .i64 0, .slice none 0 0, .slice none 0 0, .bool false] 68)
      rw [show (w.alloc (.cells #[.string y.op, .int .i64 y.side, .int .i64 y.prec] 25)).heap.size = w.heap.size + 1 from by simp] at h
      exact h
    · exact rowP_new ((w.alloc (.cells #[.string y.op, .int .i64 y.side, .int .i64 y.prec] 25)).alloc (.cells #[.int .i64 n.kind, .int .i64 n.form, .string n.text, .int .i64 n.line, .int .i64 n.col, .slice xa n.kids.length c] 32)) zeroT (.slice none 0 0) (.slice none 0 0) false _ (by simp)
    · refine (hl.mono (Q := (fun g => (g < W0.heap.size ∨ B ≤ g) ∧ g ≠ w.heap.size + 1 ∧ g ≠ w.heap.size + 2)) (fun j hj hP => ⟨hP, by omega, by omega⟩)).keep (fun j hj _ => ?_)
      rw [Below.heap_alloc _ _ j (by simp; omega), Below.heap_alloc _ _ j (by simp; omega), Below.heap_alloc _ _ j hj]
  obtain ⟨sy, sm, sd, rfl⟩ : ∃ sy sm sd, sv = .slice sy sm sd := by obtain ⟨a, c, h, _⟩ := hRest; exact ⟨_, _, _, h⟩
  clear hG hW hFi hl hRest hr hR
  unfold fxV nodeV
  go_enter Tryd.func53, Tryd.ntmps53
  go_wp2_with fail
  go_loopg [3] (ks.length - k) (fun g s W => ThenRel W0 b o ks env y B w F R g s W)
  case atStart => exact ⟨n, _, k, F, rfl, HS.out⟩
  case round =>
    obtain ⟨n, nv, k, f, hgk, bel, big, box, cur, res, lie, at_, hk, row, fuel, most, val⟩ := hrel
    obtain ⟨xa, c, rfl⟩ := lie.shape
    clear HS
    have HB := Lib.hid bel; have HX := Lib.hid box; have HN := Lib.hid cur; have HZ := Lib.hid res; have HL := Lib.hid lie; have HRow := Lib.hid row
    have HGK := Lib.hid hgk
    have HHW := Lib.hid (HW.out.trans (bel.mono hst))
    have hst2 := bel.size
    clear bel box cur res lie row hgk
    obtain ⟨ra, cap, rfl, hra, hcap, hcm⟩ := at_
    by_cases hkl : k < ks.length
    · have hra := hra hkl
      subst hra
      obtain ⟨m, hm⟩ : ∃ m, ks.length - k = m + 1 := ⟨ks.length - k - 1, by omega⟩
      rw [hm] at hcap ⊢
      obtain ⟨f, rfl⟩ : ∃ g, f = g + 1 := ⟨f - 1, by omega⟩
      rw [pGo_s env ks f k y n hkl] at val
      have hrow := HRow.out
      rw [rowOk_at ks k true hkl, rowOk_f] at hrow
      obtain ⟨x, d, hc, hl, hbl⟩ := kid_at (t := nodeOf 0 ks) HG.out.kid HHW.out hkl
      obtain ⟨x', d', hc', hl', _⟩ := kid_at (t := nodeOf 0 ks) HG.out.kid (Below.refl _ _) hkl
      have hmk : (nodeOf 0 ks).kids[k] = ks[k] := rfl
      rw [hmk] at hc hl hc' hl'
      have hcc := hc'.c5
      have hcc2 := hc.c5
      rw [(HHW.out.cell (p := ⟨b, o + k * 6 + 5, none⟩) hbl)] at hcc2
      rw [hcc2] at hcc
      simp only [Option.some.injEq, Value.slice.injEq, true_and] at hcc
      obtain ⟨rfl, rfl⟩ := hcc
      have hlow := hl'.low
      have htx := HG.out.text k hkl
      clear hc' hl' hcc2 hmk
      have hfx : fixOf env ks[k] = findX env ((nameX ks[k]).getD ⟨#[]⟩) := rfl
      generalize ks[k] = kk at *
      have hsome : (nameX kk).isSome = true := by
        split at hrow
        · assumption
        · cases hrow
      have hro : rowOk true (ks.drop (k + 1)) = true := by rw [if_pos hsome] at hrow; exact hrow
      have hne := nameR_eq kk
      have hn2 : (nameR kk).2 = true := by
        cases h : (nameR kk).2 with
        | true => rfl
        | false => rw [hne, h] at hsome; simp at hsome
      rw [hn2, if_pos rfl] at hne
      rw [hne, Option.getD_some] at hfx
      have N1 := refOpName_any kk (.slice x kk.kids.length d) wr htx hl
      obtain ⟨⟨nm, ok⟩, hnm⟩ : ∃ p, nameR kk = p := ⟨_, rfl⟩
      rw [hnm] at hfx hn2 N1
      simp only at hn2
      subst hn2
      obtain ⟨p, hp⟩ : ∃ p, fixOf env kk = p := ⟨_, rfl⟩
      rw [hp] at val hfx
      have FI := fun w hE => refFind_any env ea ec eb eo nm w HG.out.ea hE
      rw [← hfx] at FI
      have hk1 : k + 1 < ks.length := by
        by_cases hh : k + 1 < ks.length
        · exact hh
        · rw [List.drop_eq_nil_of_le (by omega)] at hro; simp [rowOk] at hro
      have hcap1 : 1 < cap := by omega
      have hcap2 : (1 : Int) ≤ (cap : Int) := by omega
      have hcap3 : (1 : Int) ≤ (m : Int) + 1 := by omega
      have hcap4 : ¬ cap = 1 := by omega
      have hcap5 : (m : Int) + 1 ≤ cap := by omega
      have N1 := Lib.hid N1
      have FI := Lib.hid FI
      have HRO := Lib.hid hro
      have HV := Lib.hid val
      have HLow := Lib.hid hlow
      have HC := Lib.hid hc
      have HM := Lib.hid hm
      unfold maxLen at hcm
      have HREST1 := Lib.hid (show RestAt b o ks (k + 1) (.slice (some ⟨b, o + k * 6 + 6, none⟩) m (cap - 1)) from ⟨some ⟨b, o + k * 6 + 6, none⟩, cap - 1, by rw [show ks.length - (k + 1) = m from by omega], fun _ => by rw [show o + (k + 1) * 6 = o + k * 6 + 6 from by omega], by omega, by unfold maxLen; omega⟩)
      have HREST := Lib.hid (show RestAt b o ks k (.slice (some ⟨b, o + k * 6, none⟩) (m + 1) cap) from ⟨some ⟨b, o + k * 6, none⟩, cap, by rw [hm], fun _ => rfl, by omega, by unfold maxLen; omega⟩)
      have c0 := hc.c0; have c1 := hc.c1; have c2 := hc.c2; have c3 := hc.c3; have c4 := hc.c4; have c5 := hc.c5
      clear hp hfx hnm hne hsome htx hrow val hlow hl hro hc hm
      go_wp2_with fail
      refine N1.out.mono ?_
      rintro e w1 ⟨rfl, hb1⟩
      have HB1 := Lib.hid (HB.out.trans (hb1.mono hst2))
      have hE1 : Fixes w1 eb eo env := HG.out.env.below (HHW.out.trans (hb1.mono (by have := HHW.out.size; exact this)))
      have HBB1 := Lib.hid hb1
      clear hb1 c0 c1 c2 c3 c4 c5
      unfold nameRV
      go_wp2_with fail
      refine (FI.out _ hE1).mono ?_
      rintro e w2 ⟨rfl, hb2⟩
      have HBB2 := Lib.hid (show Below wr.heap.size wr (w2.alloc (.cells #[.string p.op, .int .i64 p.side, .int .i64 p.prec] 25)) from (Below.then HBB1.out hb2).alloc (by have := (Below.then HBB1.out hb2).size; exact this) _)
      have hpn := rowX_new w2 p
      have hs2 : wr.heap.size ≤ w2.heap.size := (Below.then HBB1.out hb2).size
      obtain ⟨wf, hwc⟩ : ∃ wf, w2.alloc (.cells #[.string p.op, .int .i64 p.side, .int .i64 p.prec] 25) = wf := ⟨_, rfl⟩
      obtain ⟨g, hg⟩ : ∃ g, w2.heap.size = g := ⟨_, rfl⟩
      rw [hwc] at HBB2 hpn
      rw [hg] at hpn hs2
      have HP := Lib.hid hpn
      have hgl := hpn.lt
      have hsz4 := HBB2.out.size
      have HB4 := Lib.hid (HB.out.trans (HBB2.out.mono hst2))
      have HX4 := Lib.hid (HX.out.below HBB2.out)
      have HN4 := Lib.hid (HN.out.keep (HBB2.out.block (w.heap.size + 1) (by omega)))
      have HZ4 := Lib.hid (HZ.out.keep (HBB2.out.block (w.heap.size + 2) (by omega)))
      have HL4 := Lib.hid (HL.out.keep (fun j hj _ => HBB2.out.block j hj))
      have HC4 := Lib.hid (HC.out.below HBB2.out)
      have HW4 := Lib.hid (HHW.out.trans (HBB2.out.mono (by have := HHW.out.size; exact this)))
      have HLK := Lib.hid (HLow.out.keep (fun j _ hP => HW4.out.block j hP))
      obtain ⟨p0, p1, p2⟩ := hpn.cells
      obtain ⟨x0, x1, x2⟩ := HX4.out.cells
      have HWC := Lib.hid hwc
      have HGG := Lib.hid hg
      clear hwc hg hpn hb2 hE1
      unfold fxV
      go_upto_region 4 with fail
      rw [HWC.out, HGG.out]
      rcases go_case y p (A := R = (n, k, true)) (B := R = (n, k, false)) (C := R = pGo env ks f y (nodeOf 20 [n, kk, (pBegin env ks f p (k + 1)).1]) (pBegin env ks f p (k + 1)).2.1 (pBegin env ks f p (k + 1)).2.2) (fun h => by rw [← HV.out, if_pos h]) (fun h h2 => by rw [← HV.out, if_neg h, if_pos h2]) (fun h h2 => by rw [← HV.out, if_neg h, if_neg h2]) with ⟨hR, c1, hq⟩ | ⟨hR, hq⟩ | ⟨hR, hq⟩
      · have HR := Lib.hid hR
        clear hR
        obtain ⟨e0, e1, e2, e3, e4, e5, e6, e7⟩ := HZ4.out.cells
        have z := HZ4.out.frozen
        rcases hq with c2 | ⟨c2, c3⟩
        all_goals
          go_wp2_with fail
          obtain ⟨wN, hwN, hN9, ho9, hz9, ho1, ho2, ho3⟩ := store_part HZ4.out (.int .i64 0) (.int .i64 0) (.string ⟨#[]⟩) (.int .i64 0) (.int .i64 0) (.slice none 0 0) (.slice none 0 0) (.bool false)
          rw [hwN]
          refine bodyPost_ret (results_cell_row rfl _ _ (w.heap.size + 2) 68 _ (0, 0) _ rfl hN9 Tryd.underlying68 rfl (by kernel_rfl)) rfl ?_
          exact ⟨below_fresh HB4.out (g := w.heap.size + 2) (by omega) ho9 hz9 ho1 ho2 ho3, zeroT, none, 0, none, 0, 0, by rw [HR.out]; rfl, fun h => by rw [HR.out] at h; cases h⟩
      · have HR := Lib.hid hR
        clear hR
        obtain ⟨d0, d1, d2, d3, d4, d5⟩ := HN4.out.cells
        obtain ⟨e0, e1, e2, e3, e4, e5, e6, e7⟩ := HZ4.out.cells
        have z := HZ4.out.frozen
        rcases hq with ⟨c1, c2, c3, c4, c5⟩ | ⟨c1, c2⟩
        all_goals
          go_wp2_with fail
          obtain ⟨wN, hwN, hN9, ho9, hz9, ho1, ho2, ho3⟩ := store_part HZ4.out (.int .i64 n.kind) (.int .i64 n.form) (.string n.text) (.int .i64 n.line) (.int .i64 n.col) (.slice xa n.kids.length c) (.slice (some ⟨b, o + k * 6, none⟩) (m + 1) cap) (.bool true)
          rw [hwN]
          refine bodyPost_ret (results_cell_row rfl _ _ (w.heap.size + 2) 68 _ (0, 0) _ rfl hN9 Tryd.underlying68 rfl (by kernel_rfl)) rfl ?_
          exact ⟨below_fresh HB4.out (g := w.heap.size + 2) (by omega) ho9 hz9 ho1 ho2 ho3, n, xa, c, some ⟨b, o + k * 6, none⟩, m + 1, cap, by rw [HR.out]; rfl, fun _ => by
            rw [HR.out]
            exact ⟨rfl, (HL4.out.keep (fun j _ hP => ho9 j (by have h : (j < W0.heap.size ∨ B ≤ j) ∧ j ≠ w.heap.size + 1 ∧ j ≠ w.heap.size + 2 := hP; omega))).mono (fun j _ hP => hP.1), HREST.out⟩⟩
      · obtain ⟨⟨N, kq, q⟩, hQ⟩ : ∃ Q, pBegin env ks f p (k + 1) = Q := ⟨_, rfl⟩
        rw [hQ] at hR
        have HR := Lib.hid (show R = pGo env ks f y (nodeOf 20 [n, kk, N]) kq q from hR)
        have hfin := (p_fine env ks f).1 p (k + 1) (by omega) HRO.out
        rw [hQ] at hfin
        have HF := Lib.hid hfin
        have hWd : Below W0.heap.size W0 wf.drew := HW4.out.drew
        have hWa : Below W0.heap.size W0 (wf.alloc (.cells #[.int .i64 0, .int .i64 0, .string ⟨#[]⟩, .int .i64 0, .int .i64 0, .slice none 0 0, .slice none 0 0, .bool false] 68)).drew := (HW4.out.alloc (by have := HW4.out.size; exact this) _).drew
        have F1 := HFI.out f (by omega) p (k + 1) (.slice (some ⟨b, o + k * 6 + 6, none⟩) m (cap - 1)) wf.drew hk1 HRO.out (by omega) hWd HREST1.out
        have F2 := HFI.out f (by omega) p (k + 1) (.slice (some ⟨b, o + k * 6 + 6, none⟩) m (cap - 1)) (wf.alloc (.cells #[.int .i64 0, .int .i64 0, .string ⟨#[]⟩, .int .i64 0, .int .i64 0, .slice none 0 0, .slice none 0 0, .bool false] 68)).drew hk1 HRO.out (by omega) hWa HREST1.out
        rw [hQ] at F1 F2
        have F1 := Lib.hid F1
        have F2 := Lib.hid F2
        have HS0 := Lib.hid (show RowX wf.drew g p from HP.out)
        have HSA := Lib.hid (show RowX (wf.alloc (.cells #[.int .i64 0, .int .i64 0, .string ⟨#[]⟩, .int .i64 0, .int .i64 0, .slice none 0 0, .slice none 0 0, .bool false] 68)).drew g p from HP.out.alloc _)
        have HXA := Lib.hid (show RowP (wf.alloc (.cells #[.int .i64 0, .int .i64 0, .string ⟨#[]⟩, .int .i64 0, .int .i64 0, .slice none 0 0, .slice none 0 0, .bool false] 68)).drew wf.heap.size zeroT (.slice none 0 0) (.slice none 0 0) false from rowP_new wf zeroT _ _ false _ rfl)
        have hne0 : g ≠ wf.heap.size := by omega
        have rx0 := fun w' (h : RowX w' g p) => h.cells.1
        have rx1 := fun w' (h : RowX w' g p) => h.cells.2.1
        have rx2 := fun w' (h : RowX w' g p) => h.cells.2.2
        have hW4s := HW4.out.size
        clear hR hQ hfin hWd hWa
        rcases hq with ⟨c1, c2, c3, c4, c5⟩ | ⟨c1, c2⟩
        all_goals
          go_upto_region 7 with fail
          go_cut [12] (fun s12 wx => PartCut W0 b o ks (N, kq, q) wf s12 wx)
          case first =>
            go_region_held3 (fun w' => RowX w' g p)
              (first
                | with_reducible exact HS3.out
                | with_reducible exact HS0.out
                | with_reducible exact HSA.out
                | with_reducible exact HS4.out
                | exact HS5.out)
              (first
                | (go_at_call 39; refine F1.out.mono ?_; rintro e w3 ⟨hb3, T, x3, c3, y3, m3, d3, rfl, hq3⟩; have hs3 : wf.heap.size ≤ w3.heap.size := hb3.size; have HS3 := Lib.hid (show RowX w3 g p from HS0.out.below hb3); have HS4 := Lib.hid (show RowX (w3.alloc (.cells #[.int .i64 0, .int .i64 0, .string ⟨#[]⟩, .int .i64 0, .int .i64 0, .slice none 0 0, .slice none 0 0, .bool false] 68)) g p from HS3.out.alloc _); have HS5 := Lib.hid (show RowX (w3.alloc (.cells #[.int .i64 T.kind, .int .i64 T.form, .string T.text, .int .i64 T.line, .int .i64 T.col, .slice x3 T.kids.length c3, .slice y3 m3 d3, .bool (!q)] 68)) g p from HS3.out.alloc _); have HM1 := Lib.hid (show PartCut W0 b o ks (N, kq, q) wf (.pointer (some ⟨w3.heap.size, 0, none⟩)) (w3.alloc (.cells #[.int .i64 T.kind, .int .i64 T.form, .string T.text, .int .i64 T.line, .int .i64 T.col, .slice x3 T.kids.length c3, .slice y3 m3 d3, .bool (!q)] 68)) from ⟨_, T, x3, c3, y3, m3, d3, rfl, hs3, rowP_new w3 T _ _ _ _ rfl, (Below.then (Below.refl _ wf).drew hb3).alloc hs3 _, fun h => ⟨(hq3 h).1, ((hq3 h).2.1.keep (fun j hj _ => Below.heap_alloc w3 _ j hj)).mono (fun j _ hP => hP), (hq3 h).2.2⟩⟩); clear hb3 hq3 hs3; unfold partV)
                | (go_at_call 39; refine F2.out.mono ?_; rintro e w3 ⟨hb3, T, x3, c3, y3, m3, d3, rfl, hq3⟩; have HS3 := Lib.hid (show RowX w3 g p from HSA.out.below hb3); have HX3 := Lib.hid (show RowP w3 wf.heap.size zeroT (.slice none 0 0) (.slice none 0 0) false from HXA.out.below hb3); have HS5 := Lib.hid (show RowX (set8 w3 wf.heap.size (.int .i64 T.kind) (.int .i64 T.form) (.string T.text) (.int .i64 T.line) (.int .i64 T.col) (.slice x3 T.kids.length c3) (.slice y3 m3 d3) (.bool (!q))) g p from HS3.out.keep (other8 _ _ _ _ _ _ _ _ _ _ _ hne0)); have HM1 := Lib.hid (show PartCut W0 b o ks (N, kq, q) wf (.pointer (some ⟨wf.heap.size, 0, none⟩)) (set8 w3 wf.heap.size (.int .i64 T.kind) (.int .i64 T.form) (.string T.text) (.int .i64 T.line) (.int .i64 T.col) (.slice x3 T.kids.length c3) (.slice y3 m3 d3) (.bool (!q))) from part_cut hb3 HX3.out hq3 hW4s); obtain ⟨e0, e1, e2, e3, e4, e5, e6, e7⟩ := HX3.out.cells; have z := HX3.out.frozen; clear hb3 hq3; unfold partV))
            all_goals
              go_wp2_with fail
              go_meet
              exact HM1.out
          case rest =>
            obtain ⟨g2, T, x3, c3, y3, m3, d3, rfl, hg2, hp2, hb5, hq3⟩ := hcut
            have hs5 := hb5.size
            have HB5 := Lib.hid (HB4.out.trans (hb5.mono (by have := HB4.out.size; exact this)))
            have HX5 := Lib.hid (HX4.out.below hb5)
            have HN5 := Lib.hid (HN4.out.keep (hb5.block (w.heap.size + 1) (by omega)))
            have HZ5 := Lib.hid (HZ4.out.keep (hb5.block (w.heap.size + 2) (by omega)))
            have HL5 := Lib.hid (HL4.out.keep (fun j hj _ => hb5.block j hj))
            have HC5 := Lib.hid (HC4.out.below hb5)
            have HLK5 := Lib.hid (HLK.out.keep (fun j hj _ => hb5.block j hj))
            have HP2 := Lib.hid hp2
            have HQ3 := Lib.hid hq3
            have hg2l := hp2.lt
            obtain ⟨q0, q1, q2, q3, q4, q5, q6, q7⟩ := hp2.cells
            clear hb5 hp2 hq3 HS0 HSA HXA F1 F2 rx0 rx1 rx2 p0 p1 p2 x0 x1 x2
            cases q with
            | true =>
              have HR2 := Lib.hid (show R = (nodeOf 20 [n, kk, N], kq, true) by rw [HR.out, pGo_w])
              obtain ⟨e0, e1, e2, e3, e4, e5, e6, e7⟩ := HZ5.out.cells
              have z := HZ5.out.frozen
              simp only [Bool.not_true] at q7
              go_wp2_with fail
              obtain ⟨wN, hwN, hN9, ho9, hz9, ho1, ho2, ho3⟩ := store_part HZ5.out (.int .i64 T.kind) (.int .i64 T.form) (.string T.text) (.int .i64 T.line) (.int .i64 T.col) (.slice x3 T.kids.length c3) (.slice y3 m3 d3) (.bool false)
              rw [hwN]
              refine bodyPost_ret (results_cell_row rfl _ _ (w.heap.size + 2) 68 _ (0, 0) _ rfl hN9 Tryd.underlying68 rfl (by kernel_rfl)) rfl ?_
              exact ⟨below_fresh HB5.out (g := w.heap.size + 2) (by omega) ho9 hz9 ho1 ho2 ho3, T, x3, c3, y3, m3, d3, by rw [HR2.out]; rfl, fun h => by rw [HR2.out] at h; cases h⟩
            | false =>
              obtain ⟨hT, hlT, hrT⟩ := HQ3.out rfl
              simp only at hT hlT hrT
              have hT := hT.symm
              subst hT
              simp only [Bool.not_false] at q7
              have hk5 : LiesP (fun g => (g < W0.heap.size ∨ B ≤ g) ∧ g ≠ w.heap.size + 1 ∧ g ≠ w.heap.size + 2) wc kk (.slice x kk.kids.length d) := HLK5.out.mono (fun j _ hP => by have h : j < W0.heap.size := hP; omega)
              have hN5 : LiesP (fun g => (g < W0.heap.size ∨ B ≤ g) ∧ g ≠ w.heap.size + 1 ∧ g ≠ w.heap.size + 2) wc N (.slice x3 N.kids.length c3) := hlT.mono (fun j _ hP => by have h : j < W0.heap.size ∨ wf.heap.size ≤ j := hP; omega)
              have h3 := three_lies 32 20 HL5.out hk5 hN5 ⟨.inr (by omega), by omega, by omega⟩
              obtain ⟨d0, d1, d2, d3', d4, d5⟩ := HN5.out.cells
              have z3 := fun o => (HN5.out.alloc o).frozen
              have y0 := fun o => (HN5.out.alloc o).cells.1
              have y1 := fun o => (HN5.out.alloc o).cells.2.1
              have y2 := fun o => (HN5.out.alloc o).cells.2.2.1
              have y3' := fun o => (HN5.out.alloc o).cells.2.2.2.1
              have y4 := fun o => (HN5.out.alloc o).cells.2.2.2.2.1
              have y5 := fun o => (HN5.out.alloc o).cells.2.2.2.2.2
              have HS0 := Lib.hid (show Cells6 wc.drew b (o + k * 6) kk (.slice x kk.kids.length d) ∧ RowP wc.drew g2 N (.slice x3 N.kids.length c3) (.slice y3 m3 d3) true from ⟨HC5.out.below (Below.refl _ _).drew, HP2.out⟩)
              have HS8 := Lib.hid (show Cells6 (wc.alloc (.cells #[.int .i64 n.kind, .int .i64 n.form, .string n.text, .int .i64 n.line, .int .i64 n.col, .slice xa n.kids.length c, .int .i64 kk.kind, .int .i64 kk.form, .string kk.text, .int .i64 kk.line, .int .i64 kk.col, .slice x kk.kids.length d, .int .i64 N.kind, .int .i64 N.form, .string N.text, .int .i64 N.line, .int .i64 N.col, .slice x3 N.kids.length c3] 32)).drew b (o + k * 6) kk (.slice x kk.kids.length d) ∧ RowP (wc.alloc (.cells #[.int .i64 n.kind, .int .i64 n.form, .string n.text, .int .i64 n.line, .int .i64 n.col, .slice xa n.kids.length c, .int .i64 kk.kind, .int .i64 kk.form, .string kk.text, .int .i64 kk.line, .int .i64 kk.col, .slice x kk.kids.length d, .int .i64 N.kind, .int .i64 N.form, .string N.text, .int .i64 N.line, .int .i64 N.col, .slice x3 N.kids.length c3] 32)).drew g2 N (.slice x3 N.kids.length c3) (.slice y3 m3 d3) true from ⟨(HC5.out.alloc _).below (Below.refl _ _).drew, HP2.out.alloc _⟩)
              have u0 := fun w' (h : Cells6 w' b (o + k * 6) kk (.slice x kk.kids.length d)) => h.c0
              have u1 := fun w' (h : Cells6 w' b (o + k * 6) kk (.slice x kk.kids.length d)) => h.c1
              have u2 := fun w' (h : Cells6 w' b (o + k * 6) kk (.slice x kk.kids.length d)) => h.c2
              have u3 := fun w' (h : Cells6 w' b (o + k * 6) kk (.slice x kk.kids.length d)) => h.c3
              have u4 := fun w' (h : Cells6 w' b (o + k * 6) kk (.slice x kk.kids.length d)) => h.c4
              have u5 := fun w' (h : Cells6 w' b (o + k * 6) kk (.slice x kk.kids.length d)) => h.c5
              have rp0 := fun w' (h : RowP w' g2 N (.slice x3 N.kids.length c3) (.slice y3 m3 d3) true) => h.cells.1
              have rp1 := fun w' (h : RowP w' g2 N (.slice x3 N.kids.length c3) (.slice y3 m3 d3) true) => h.cells.2.1
              have rp2 := fun w' (h : RowP w' g2 N (.slice x3 N.kids.length c3) (.slice y3 m3 d3) true) => h.cells.2.2.1
              have rp3 := fun w' (h : RowP w' g2 N (.slice x3 N.kids.length c3) (.slice y3 m3 d3) true) => h.cells.2.2.2.1
              have rp4 := fun w' (h : RowP w' g2 N (.slice x3 N.kids.length c3) (.slice y3 m3 d3) true) => h.cells.2.2.2.2.1
              have rp5 := fun w' (h : RowP w' g2 N (.slice x3 N.kids.length c3) (.slice y3 m3 d3) true) => h.cells.2.2.2.2.2.1
              have hneb : b ≠ w.heap.size + 1 := by have := HHW.out.size; omega
              have hneg : g2 ≠ w.heap.size + 1 := by omega
              have HS9 := Lib.hid (keep9 (HC5.out.alloc (.cells #[.int .i64 n.kind, .int .i64 n.form, .string n.text, .int .i64 n.line, .int .i64 n.col, .slice xa n.kids.length c, .int .i64 kk.kind, .int .i64 kk.form, .string kk.text, .int .i64 kk.line, .int .i64 kk.col, .slice x kk.kids.length d, .int .i64 N.kind, .int .i64 N.form, .string N.text, .int .i64 N.line, .int .i64 N.col, .slice x3 N.kids.length c3] 32)) (HP2.out.alloc (.cells #[.int .i64 n.kind, .int .i64 n.form, .string n.text, .int .i64 n.line, .int .i64 n.col, .slice xa n.kids.length c, .int .i64 kk.kind, .int .i64 kk.form, .string kk.text, .int .i64 kk.line, .int .i64 kk.col, .slice x kk.kids.length d, .int .i64 N.kind, .int .i64 N.form, .string N.text, .int .i64 N.line, .int .i64 N.col, .slice x3 N.kids.length c3] 32)) hneb hneg)
              go_wp2_with fail
              refine wp_region_noPanic ?_
              refine wp_region_held_drew (S := (fun w' => Cells6 w' b (o + k * 6) kk (.slice x kk.kids.length d) ∧ RowP w' g2 N (.slice x3 N.kids.length c3) (.slice y3 m3 d3) true)) (by kernel_rfl) HS0.out (fun hHeld => ?_)
              refine wpAnyH_take (i := 1) (v := ?_) rfl (by kernel_rfl) (by kernel_rfl) (by kernel_rfl) (fun _ _ _ h => h) (Or.inl ⟨by rfl, ?_⟩) (by assumption) ?_
              rotate_left
              · (intro w hSw; (try dsimp only at hSw); go_simp; try with_reducible rfl)
              (try simp only [Act.put, List.setIfInBounds_toArray, List.set_cons_zero, List.set_cons_succ])
              refine wpAnyH_take (i := 2) (v := ?_) rfl (by kernel_rfl) (by kernel_rfl) (by kernel_rfl) (fun _ _ _ h => h) (Or.inl ⟨by rfl, ?_⟩) (by assumption) ?_
              rotate_left
              · (intro w hSw; (try dsimp only at hSw); go_simp; try with_reducible rfl)
              (try simp only [Act.put, List.setIfInBounds_toArray, List.set_cons_zero, List.set_cons_succ])
              refine wpAnyH_take (i := 3) (v := ?_) rfl (by kernel_rfl) (by kernel_rfl) (by kernel_rfl) (fun _ _ _ h => h) (Or.inl ⟨by rfl, ?_⟩) (by assumption) ?_
              rotate_left
              · (intro w hSw; (try dsimp only at hSw); go_simp; try with_reducible rfl)
              (try simp only [Act.put, List.setIfInBounds_toArray, List.set_cons_zero, List.set_cons_succ])
              refine wpAnyH_take (i := 4) (v := ?_) rfl (by kernel_rfl) (by kernel_rfl) (by kernel_rfl) (fun _ _ _ h => h) (Or.inl ⟨by rfl, ?_⟩) (by assumption) ?_
              rotate_left
              · (intro w hSw; (try dsimp only at hSw); go_simp; try with_reducible rfl)
              (try simp only [Act.put, List.setIfInBounds_toArray, List.set_cons_zero, List.set_cons_succ])
              refine wpAnyH_take (i := 5) (v := ?_) rfl (by kernel_rfl) (by kernel_rfl) (by kernel_rfl) (fun _ _ _ h => h) (Or.inl ⟨by rfl, ?_⟩) (by assumption) ?_
              rotate_left
              · (intro w hSw; (try dsimp only at hSw); go_simp; try with_reducible rfl)
              (try simp only [Act.put, List.setIfInBounds_toArray, List.set_cons_zero, List.set_cons_succ])
              refine wpAnyH_ready (rs := [0]) (by kernel_rfl) (by simp) ?_
              refine AllReadyH.cons rfl (fun K hK => ?_) AllReadyH.nil
              go_simp
              refine hK.out _ _ HS0.out (fun hHeld => ?_)
              clear hK K
              (try simp only [Act.put, List.setIfInBounds_toArray, List.set_cons_zero, List.set_cons_succ])
              refine wpAnyH_ready (rs := [6]) (by kernel_rfl) (by simp) ?_
              refine AllReadyH.cons rfl (fun K hK => ?_) AllReadyH.nil
              go_simp
              refine hK.out _ _ HS8.out (fun hHeld => ?_)
              clear hK K
              (try simp only [Act.put, List.setIfInBounds_toArray, List.set_cons_zero, List.set_cons_succ])
              refine wpAnyH_take (i := 7) (v := ?_) rfl (by kernel_rfl) (by kernel_rfl) (by kernel_rfl) (fun _ _ _ h => h) (Or.inl ⟨by rfl, ?_⟩) (by assumption) ?_
              rotate_left
              · (intro w hSw; (try dsimp only at hSw); go_simp; try with_reducible rfl)
              (try simp only [Act.put, List.setIfInBounds_toArray, List.set_cons_zero, List.set_cons_succ])
              refine wpAnyH_ready (rs := [8]) (by kernel_rfl) (by simp) ?_
              refine AllReadyH.cons rfl (fun K hK => ?_) AllReadyH.nil
              go_simp
              refine hK.out _ _ (HS9.out _ _ _ _ _ _) (fun hHeld => ?_)
              clear hK K
              (try simp only [Act.put, List.setIfInBounds_toArray, List.set_cons_zero, List.set_cons_succ])
              refine wpAnyH_done (by kernel_rfl) ?_ _
              refine NoPanic.normal ?_
              obtain ⟨wN, hwN, hR9, ho9, hz9, ho1, ho2, ho3⟩ := store_node (HN5.out.alloc (.cells #[.int .i64 n.kind, .int .i64 n.form, .string n.text, .int .i64 n.line, .int .i64 n.col, .slice xa n.kids.length c, .int .i64 kk.kind, .int .i64 kk.form, .string kk.text, .int .i64 kk.line, .int .i64 kk.col, .slice x kk.kids.length d, .int .i64 N.kind, .int .i64 N.form, .string N.text, .int .i64 N.line, .int .i64 N.col, .slice x3 N.kids.length c3] 32)) 20 0 0 0 ⟨#[]⟩ (.slice (some ⟨wc.heap.size, 0, none⟩) 3 3)
              rw [hwN]
              have HP9 := Lib.hid (show RowP wN.drew g2 N (.slice x3 N.kids.length c3) (.slice y3 m3 d3) true from (HP2.out.alloc (.cells #[.int .i64 n.kind, .int .i64 n.form, .string n.text, .int .i64 n.line, .int .i64 n.col, .slice xa n.kids.length c, .int .i64 kk.kind, .int .i64 kk.form, .string kk.text, .int .i64 kk.line, .int .i64 kk.col, .slice x kk.kids.length d, .int .i64 N.kind, .int .i64 N.form, .string N.text, .int .i64 N.line, .int .i64 N.col, .slice x3 N.kids.length c3] 32)).keep (ho9 _ (by omega)))
              have HB9 := Lib.hid ((below_fresh (HB5.out.alloc (by have := HB5.out.size; exact this) (.cells #[.int .i64 n.kind, .int .i64 n.form, .string n.text, .int .i64 n.line, .int .i64 n.col, .slice xa n.kids.length c, .int .i64 kk.kind, .int .i64 kk.form, .string kk.text, .int .i64 kk.line, .int .i64 kk.col, .slice x kk.kids.length d, .int .i64 N.kind, .int .i64 N.form, .string N.text, .int .i64 N.line, .int .i64 N.col, .slice x3 N.kids.length c3] 32)) (g := w.heap.size + 1) (by omega) ho9 hz9 ho1 ho2 ho3).drew)
              have HGo := Lib.hid (show ThenRel W0 b o ks env y B w F R (ks.length - kq) (.slice y3 m3 d3) wN.drew from ⟨_, _, _, f, rfl, HB9.out, by simp only [World.drew]; rw [hz9]; simp; omega,
                (HX5.out.alloc (.cells #[.int .i64 n.kind, .int .i64 n.form, .string n.text, .int .i64 n.line, .int .i64 n.col, .slice xa n.kids.length c, .int .i64 kk.kind, .int .i64 kk.form, .string kk.text, .int .i64 kk.line, .int .i64 kk.col, .slice x kk.kids.length d, .int .i64 N.kind, .int .i64 N.form, .string N.text, .int .i64 N.line, .int .i64 N.col, .slice x3 N.kids.length c3] 32)).keep (ho9 _ (by omega)), hR9 (nodeOf 20 [n, kk, N]) rfl rfl rfl rfl rfl, (HZ5.out.alloc (.cells #[.int .i64 n.kind, .int .i64 n.form, .string n.text, .int .i64 n.line, .int .i64 n.col, .slice xa n.kids.length c, .int .i64 kk.kind, .int .i64 kk.form, .string kk.text, .int .i64 kk.line, .int .i64 kk.col, .slice x kk.kids.length d, .int .i64 N.kind, .int .i64 N.form, .string N.text, .int .i64 N.line, .int .i64 N.col, .slice x3 N.kids.length c3] 32)).keep (ho9 _ (by omega)),
                (h3.keep (fun j _ hP => ho9 j (by have h : (j < W0.heap.size ∨ B ≤ j) ∧ j ≠ w.heap.size + 1 ∧ j ≠ w.heap.size + 2 := hP; omega))).keep (fun j _ _ => rfl), hrT, HF.out.2.1, HF.out.2.2.resolve_left (by simp), by have := HF.out.1; simp only at this; omega, by omega, HR.out.symm⟩)
              have hms : ks.length - kq < gk := by have h1 := HF.out.1; have h2 := HGK.out; simp only at h1; omega
              obtain ⟨q0, q1, q2, q3, q4, q5, q6, q7⟩ := HP9.out.cells
              clear h3 hk5 hN5 hlT hrT hwN hR9 ho9 hz9 ho1 ho2 ho3 d0 d1 d2 d3' d4 d5 y0 y1 y2 y3' y4 y5 z3 u0 u1 u2 u3 u4 u5 rp0 rp1 rp2 rp3 rp4 rp5
              go_wp2_with fail
              go_roundg (ks.length - kq)
              case measure => exact hms
              case rel => exact HGo.out
    · have hl0 : ks.length - k = 0 := by omega
      rw [hl0] at hcap ⊢
      rw [pGo_e _ _ _ _ _ _ (by omega)] at val
      have HV := Lib.hid val
      clear val
      obtain ⟨d0, d1, d2, d3, d4, d5⟩ := HN.out.cells
      obtain ⟨e0, e1, e2, e3, e4, e5, e6, e7⟩ := HZ.out.cells
      have z := HZ.out.frozen
      have HREST := Lib.hid (show RestAt b o ks k (.slice ra 0 cap) from ⟨ra, cap, by rw [hl0], fun h => absurd h hkl, by omega, hcm⟩)
      clear hl0 hra
      go_wp2_with fail
      obtain ⟨wN, hwN, hN9, ho9, hz9, ho1, ho2, ho3⟩ := store_part HZ.out (.int .i64 n.kind) (.int .i64 n.form) (.string n.text) (.int .i64 n.line) (.int .i64 n.col) (.slice xa n.kids.length c) (.slice ra 0 cap) (.bool true)
      rw [hwN]
      refine bodyPost_ret (results_cell_row rfl _ _ (w.heap.size + 2) 68 _ (0, 0) _ rfl hN9 Tryd.underlying68 rfl (by kernel_rfl)) rfl ?_
      exact ⟨below_fresh HB.out (g := w.heap.size + 2) (by omega) ho9 hz9 ho1 ho2 ho3, n, xa, c, ra, 0, cap, by rw [← HV.out]; rfl, fun _ => by
        rw [← HV.out]
        exact ⟨rfl, (HL.out.keep (fun j _ hP => ho9 j (by have h : (j < W0.heap.size ∨ B ≤ j) ∧ j ≠ w.heap.size + 1 ∧ j ≠ w.heap.size + 2 := hP; omega))).mono (fun j _ hP => hP.1), HREST.out⟩⟩
#print axioms then_step
end Go.Proofs.YtikkdkacflkifaaDoor
