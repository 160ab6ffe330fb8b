/- DERIVED. The walk of the law FixityLefts. -/
import Derived.Test.YtikkdkacflkifaaDoorLawFLeftsA
set_option linter.unusedSimpArgs false
set_option linter.unusedVariables false
namespace Go.Proofs.YtikkdkacflkifaaDoor
open Go.RowKit

set_option maxRecDepth 20000 in
set_option maxHeartbeats 8000000 in
theorem fixityLefts_walk (names : List ByteArray) (xa : Option Addr) (cap b o : Nat) (w : World) (hxa : 0 < names.length → xa = some ⟨b, o, none⟩) (hN : NamesAt w b o names) (hT : Tabs16 w) :
    Calls Tryd.prog 7 #[.slice xa names.length cap] w fun e w' => e = .returned (.bool true) ∧ Below w.heap.size w w' := by
  have HT := Lib.hid hT
  have HN := Lib.hid hN
  have hlen := hN.len
  by_cases hbig : names.length < 2 ∨ 200 < names.length
  · have hq : decide ((names.length : Int) < 2) = true ∨ (decide ((names.length : Int) < 2) = false ∧ decide ((200 : Int) < names.length) = true) := by
      by_cases h1 : names.length < 2
      · left; simp; omega
      · right; refine ⟨?_, ?_⟩ <;> simp <;> omega
    clear hbig hxa hT hN
    rcases hq with q1 | ⟨q1, q2⟩
    all_goals
      go_enter Tryd.func7, Tryd.ntmps7
      go_wp2_with fail
      refine (awake_any _ HT.out).mono ?_
      rintro e w1 ⟨rfl, hb1⟩
      have HB1 := Lib.hid hb1
      clear hb1
      go_wp2_with fail
      go_ret
      exact ⟨rfl, HB1.out⟩
  · have hx := hxa (by omega)
    subst hx
    have q1 : decide ((names.length : Int) < 2) = false := by simp; omega
    have q2 : decide ((200 : Int) < names.length) = false := by simp; omega
    have h2 : 2 ≤ names.length := by omega
    have h3 : names.length ≤ 200 := by omega
    have hn0 := hN.at_ 0 (by omega)
    rw [Nat.add_zero] at hn0
    obtain ⟨n0, hn00⟩ : ∃ n0, names[0] = n0 := ⟨_, rfl⟩
    rw [hn00] at hn0
    clear hbig hxa hT hN hn00
    have HC0 := Lib.hid hn0
    clear hn0
    go_enter Tryd.func7, Tryd.ntmps7
    go_wp2_with fail
    refine (awake_any _ HT.out).mono ?_
    rintro e w0 ⟨rfl, hb0⟩
    have HB0 := Lib.hid hb0
    have c0 : w0.cell? ⟨b, o, none⟩ = some (.string n0) := (hb0.cell (p := ⟨b, o, none⟩) (lt_of_cell HC0.out)).trans HC0.out
    clear hb0
    go_wp2_with fail
    refine (leaf_any 1 n0 _).mono ?_
    rintro e w1 ⟨rfl, hb1⟩
    have HB1 := Lib.hid (Below.then HB0.out hb1)
    have hs1 := HB1.out.size
    have HB2 := Lib.hid ((HB1.out.alloc hs1 (.cells #[.int .i64 (leafT 1 n0).kind, .int .i64 (leafT 1 n0).form, .string (leafT 1 n0).text, .int .i64 (leafT 1 n0).line, .int .i64 (leafT 1 n0).col, .slice none 0 0] 32)).alloc (by simp; omega) (.cells #[.int .i64 (leafT 1 n0).kind, .int .i64 (leafT 1 n0).form, .string (leafT 1 n0).text, .int .i64 (leafT 1 n0).line, .int .i64 (leafT 1 n0).col, .slice none 0 0] 32))
    have HST := Lib.hid (show BaseAt w ((w1.alloc (.cells #[.int .i64 (leafT 1 n0).kind, .int .i64 (leafT 1 n0).form, .string (leafT 1 n0).text, .int .i64 (leafT 1 n0).line, .int .i64 (leafT 1 n0).col, .slice none 0 0] 32)).alloc (.cells #[.int .i64 (leafT 1 n0).kind, .int .i64 (leafT 1 n0).form, .string (leafT 1 n0).text, .int .i64 (leafT 1 n0).line, .int .i64 (leafT 1 n0).col, .slice none 0 0] 32)) (w1.heap.size + 1) (.slice (some ⟨w1.heap.size, 0, none⟩) 1 1) [(leafT 1 n0, .slice none 0 0)] (leafT 1 n0) none 0 from by
      refine ⟨(made_node w1 (leafT 1 n0) (.slice none 0 0) _ _ _ hs1 rfl (LiesP.leaf ..)).below ((Below.refl _ _).alloc (Nat.le_refl _) _), ?_, LiesP.leaf .., by simp [Value.ownBlock]⟩
      have h := rowN_new (w1.alloc (.cells #[.int .i64 (leafT 1 n0).kind, .int .i64 (leafT 1 n0).form, .string (leafT 1 n0).text, .int .i64 (leafT 1 n0).line, .int .i64 (leafT 1 n0).col, .slice none 0 0] 32)) (leafT 1 n0) (.slice none 0 0)
      rw [show (w1.alloc (.cells #[.int .i64 (leafT 1 n0).kind, .int .i64 (leafT 1 n0).form, .string (leafT 1 n0).text, .int .i64 (leafT 1 n0).line, .int .i64 (leafT 1 n0).col, .slice none 0 0] 32)).heap.size = w1.heap.size + 1 from by simp] at h
      exact h)
    clear hb1 c0
    unfold nodeV
    go_wp2_with fail
    go_loopw [4, 6] (fun v a wr => ∃ (j : Nat) (ts : List (Tr × Value)) (W : Tr) (x : Option Addr) (c : Nat), a = .int .i64 j ∧ 1 ≤ j ∧ j ≤ names.length ∧ Below w.heap.size w wr ∧ BaseAt w wr (w1.heap.size + 1) v ts W x c ∧ ts.map (·.1) = leafT 1 n0 :: flatK (rj names j) ∧ W = leftT (leafT 1 n0) (rj names j)) (fun _ a _ => names.length - (intOf a).toNat)
    case atStart => exact ⟨1, [(leafT 1 n0, .slice none 0 0)], leafT 1 n0, none, 0, rfl, by omega, by omega, HB2.out, HST.out, by rw [rj_one names (by omega)]; rfl, by rw [rj_one names (by omega)]; rfl⟩
    case round =>
      obtain ⟨j, ts, W, x, c, rfl, h1, hj, hb, hS, hK, hW⟩ := hrel
      have HB := Lib.hid hb
      have HS := Lib.hid hS
      have HK := Lib.hid hK
      have HW := Lib.hid hW
      obtain ⟨va, vc, rfl⟩ := hS.row.shape
      have hst := hb.size
      have hbwl := hS.box.lt
      have hown0 := Lib.hid hS.row.lt
      by_cases hlt : j < names.length
      · have cj : wr.cell? ⟨b, o + j, none⟩ = some (.string names[j]) := (HN.out.below hb).at_ j hlt
        have HR := Lib.hid (rj_succ names j h1 hlt)
        have htl : ts.length ≤ 401 := by
          have h := congrArg List.length hK
          rw [List.length_map, List.length_cons, flatK_len] at h
          have := rj_len names j; omega
        clear hb hS hK hW
        generalize hsn : names[j] = s at *
        have HSN := Lib.hid hsn
        clear hsn
        go_wp2_with fail
        refine (leaf_any 1 s _).mono ?_
        rintro e w2 ⟨rfl, hb2⟩
        have hs2 := hb2.size
        have HB2 := Lib.hid (Below.then HB.out hb2)
        have hs22 := HB2.out.size
        have HB3 := Lib.hid (HB2.out.alloc hs22 (.cells #[.int .i64 (leafT 1 s).kind, .int .i64 (leafT 1 s).form, .string (leafT 1 s).text, .int .i64 (leafT 1 s).line, .int .i64 (leafT 1 s).col, .slice none 0 0] 32))
        have HS3 := Lib.hid ((HS.out.below hb2).alloc (.cells #[.int .i64 (leafT 1 s).kind, .int .i64 (leafT 1 s).form, .string (leafT 1 s).text, .int .i64 (leafT 1 s).line, .int .i64 (leafT 1 s).col, .slice none 0 0] 32))
        have HX3 := Lib.hid (rowN_new w2 (leafT 1 s) (.slice none 0 0))
        clear hb2 cj
        unfold nodeV
        go_wp2_with fail
        refine (oper_new ⟨#[60, 43, 62]⟩ _).mono ?_
        rintro e w4 ⟨y, d, rfl, hl4, hb4⟩
        have hs4 : w2.heap.size + 1 ≤ w4.heap.size := by have h := hb4.size; simp at h; omega
        have HB4 := Lib.hid ((Below.then HB3.out hb4).alloc (by omega) (.cells #[.int .i64 (operT ⟨#[60, 43, 62]⟩).kind, .int .i64 (operT ⟨#[60, 43, 62]⟩).form, .string (operT ⟨#[60, 43, 62]⟩).text, .int .i64 (operT ⟨#[60, 43, 62]⟩).line, .int .i64 (operT ⟨#[60, 43, 62]⟩).col, .slice y 1 d] 32))
        have HS4 := Lib.hid ((HS3.out.below hb4).alloc (.cells #[.int .i64 (operT ⟨#[60, 43, 62]⟩).kind, .int .i64 (operT ⟨#[60, 43, 62]⟩).form, .string (operT ⟨#[60, 43, 62]⟩).text, .int .i64 (operT ⟨#[60, 43, 62]⟩).line, .int .i64 (operT ⟨#[60, 43, 62]⟩).col, .slice y 1 d] 32))
        have HX4 := Lib.hid ((HX3.out.keep (hb4.block w2.heap.size (by simp))).alloc (.cells #[.int .i64 (operT ⟨#[60, 43, 62]⟩).kind, .int .i64 (operT ⟨#[60, 43, 62]⟩).form, .string (operT ⟨#[60, 43, 62]⟩).text, .int .i64 (operT ⟨#[60, 43, 62]⟩).line, .int .i64 (operT ⟨#[60, 43, 62]⟩).col, .slice y 1 d] 32))
        have HL4 := Lib.hid ((hl4.keep (fun k hk _ => Below.heap_alloc w4 (.cells #[.int .i64 (operT ⟨#[60, 43, 62]⟩).kind, .int .i64 (operT ⟨#[60, 43, 62]⟩).form, .string (operT ⟨#[60, 43, 62]⟩).text, .int .i64 (operT ⟨#[60, 43, 62]⟩).line, .int .i64 (operT ⟨#[60, 43, 62]⟩).col, .slice y 1 d] 32) k hk)).mono (Q := fun k => w1.heap.size + 1 + 1 ≤ k ∧ some k ≠ (Value.slice va ts.length vc).ownBlock) (fun k _ hk => by
          have hk : w2.heap.size + 1 ≤ k := by simpa using hk
          exact ⟨by omega, fun e => by have := (hown0.out k e.symm).2; omega⟩))
        obtain ⟨i0, z0, hi0, hz0, hz1, hz2, hz3⟩ := node_info
        clear hb4 hl4
        unfold nodeV
        go_upto_region 11 with (at_builtin; refine wpList_append_lies _ rfl _ _ 30 rfl (w.heap.size) 32 i0 z0 6 72 Tryd.underlying30 hi0 hz0 hz1 hz2 hz3 (by decide) _ _ _ rfl HS4.out.row.row ⟨w4.heap.size, 0, none⟩ 1 1 ([((operT ⟨#[60, 43, 62]⟩), Value.slice y 1 d)].flatMap nodeCells) rfl rfl (new_node _ (operT ⟨#[60, 43, 62]⟩) _ _ rfl) (node_one _ _ _ _) (by omega) (by simp only [maxLen]; omega) (by omega) (by simp; omega) _ rfl ?_; rintro g cap5 w5 hown hgrow hat hlt5; have HS5 := Lib.hid (BaseAt.pushed (y := ((operT ⟨#[60, 43, 62]⟩), Value.slice y 1 d)) HS4.out hown rfl hgrow hat rfl HL4.out); have HB5 := Lib.hid (HB4.out.grown hgrow (by simp; omega) (fun k hk => (HS4.out.row.lt k hk).1)); have hx5 := HX4.out.keep (hgrow.block w2.heap.size (by simp; omega) (fun e => by have := (hown0.out _ e.symm).2; omega)); have hgx : g ≠ w2.heap.size := (by rcases hat with h | h <;> first | (have h9 := (hown0.out g h).2; omega) | (simp at h; omega)); have hs5 : w4.heap.size + 1 ≤ w5.heap.size := (by have h := hgrow.size; simp at h; omega); have HX5 := Lib.hid hx5; clear hown hgrow hat hx5)
        obtain ⟨ts2, hts2⟩ : ∃ t, ts ++ [((operT ⟨#[60, 43, 62]⟩), Value.slice y 1 d)] = t := ⟨_, rfl⟩
        rw [hts2] at HS5
        have htl2 : ts2.length ≤ 402 := by rw [← hts2]; simp; omega
        have hn2 : ts.length + 1 = ts2.length := by rw [← hts2]; simp
        rw [hn2] at HS5 ⊢
        have hown5 := Lib.hid HS5.out.row.lt
        have HS6 := Lib.hid (HS5.out.alloc (.cells #[.int .i64 (leafT 1 s).kind, .int .i64 (leafT 1 s).form, .string (leafT 1 s).text, .int .i64 (leafT 1 s).line, .int .i64 (leafT 1 s).col, .slice none 0 0] 32))
        have hs55 := HB5.out.size
        have HB6 := Lib.hid (HB5.out.alloc hs55 (.cells #[.int .i64 (leafT 1 s).kind, .int .i64 (leafT 1 s).form, .string (leafT 1 s).text, .int .i64 (leafT 1 s).line, .int .i64 (leafT 1 s).col, .slice none 0 0] 32))
        have HX6 := Lib.hid (HX5.out.alloc (.cells #[.int .i64 (leafT 1 s).kind, .int .i64 (leafT 1 s).form, .string (leafT 1 s).text, .int .i64 (leafT 1 s).line, .int .i64 (leafT 1 s).col, .slice none 0 0] 32))
        have HT2 := Lib.hid hts2
        obtain ⟨x0, x1, x2, x3, x4, x5⟩ := HX5.out.cells
        clear hn2 hts2
        go_upto_region 12 with (at_builtin; refine wpList_append_lies _ rfl _ _ 30 rfl (w.heap.size) 32 i0 z0 6 72 Tryd.underlying30 hi0 hz0 hz1 hz2 hz3 (by decide) _ _ _ rfl HS6.out.row.row ⟨w5.heap.size, 0, none⟩ 1 1 ([(leafT 1 s, Value.slice none 0 0)].flatMap nodeCells) rfl rfl (new_node _ (leafT 1 s) _ _ rfl) (node_one _ _ _ _) (by omega) (by simp only [maxLen]; omega) (by omega) (by simp; omega) _ rfl ?_; rintro g2 cap7 w7 hown hgrow hat hlt7; have HS7 := Lib.hid (BaseAt.pushed (y := (leafT 1 s, Value.slice none 0 0)) HS6.out hown rfl hgrow hat rfl (LiesP.leaf ..)); have HB7 := Lib.hid (HB6.out.grown hgrow (by simp; omega) (fun k hk => (HS6.out.row.lt k hk).1)); have hx7 := HX6.out.keep (hgrow.block w2.heap.size (by simp; omega) (fun e => hgx (Option.some.inj (show some w2.heap.size = some g from e)).symm)); have HX7 := Lib.hid hx7; have hs7 : w5.heap.size + 1 ≤ w7.heap.size := (by have h := hgrow.size; simp at h; omega); clear hown hgrow hat hx7)
        obtain ⟨ts3, hts3⟩ : ∃ t, ts2 ++ [(leafT 1 s, Value.slice none 0 0)] = t := ⟨_, rfl⟩
        rw [hts3] at HS7
        have hn3 : ts2.length + 1 = ts3.length := by rw [← hts3]; simp
        rw [hn3] at HS7 ⊢
        have HT3 := Lib.hid hts3
        have HM7 := Lib.hid HS7.out.box
        obtain ⟨d0, d1, d2, d3, d4, d5⟩ := HM7.out.cells
        clear hn3 hts3 x0 x1 x2 x3 x4 x5
        obtain ⟨x0, x1, x2, x3, x4, x5⟩ := HX7.out.cells
        have hbw7 := HM7.out.lt
        have HS7d := Lib.hid (HS7.out.below (Below.refl _ _).drew)
        go_region_with (go_at_call 23; refine (oper_new ⟨#[60, 43, 62]⟩ _).mono ?_; rintro e w8 ⟨y2, c2, rfl, hl8, hb8⟩; have HS8 := Lib.hid (HS7d.out.below hb8); have HM8 := Lib.hid HS8.out.box; obtain ⟨f0, f1, f2, f3, f4, f5⟩ := HM8.out.cells; have HX8 := Lib.hid (show RowN w8 w2.heap.size (leafT 1 s) (.slice none 0 0) from HX7.out.keep (hb8.block w2.heap.size HX7.out.lt)); obtain ⟨u0, u1, u2, u3, u4, u5⟩ := HX8.out.cells; have z3 := fun o => (HM8.out.alloc o).frozen; have y0 := fun o => (HM8.out.alloc o).cells.1; have y1 := fun o => (HM8.out.alloc o).cells.2.1; have y2' := fun o => (HM8.out.alloc o).cells.2.2.1; have y3 := fun o => (HM8.out.alloc o).cells.2.2.2.1; have y4 := fun o => (HM8.out.alloc o).cells.2.2.2.2.1; have y5 := fun o => (HM8.out.alloc o).cells.2.2.2.2.2; unfold nodeV)
        all_goals
          have hs8 : w7.heap.size ≤ w8.heap.size := hb8.size
          have hP : ∀ k, w7.heap.size ≤ k → w1.heap.size + 1 + 1 ≤ k ∧ some k ≠ (Value.slice (some ⟨g2, 0, none⟩) ts3.length cap7).ownBlock := fun k hk => ⟨by omega, fun e => by simp only [Value.ownBlock, Option.some.injEq] at e; omega⟩
          have h3 := three_lies 32 20 HS8.out.lies (show LiesP _ w8 (operT ⟨#[60, 43, 62]⟩) (.slice y2 (operT ⟨#[60, 43, 62]⟩).kids.length c2) from hl8.mono (fun k _ hk => hP k hk)) (show LiesP _ w8 (leafT 1 s) (.slice none (leafT 1 s).kids.length 0) from LiesP.leaf ..) (hP _ hs8)
          obtain ⟨wN, hwN, hR9, ho9, hz9, ho1, ho2, ho3⟩ := store_node (HM8.out.alloc (.cells #[.int .i64 W.kind, .int .i64 W.form, .string W.text, .int .i64 W.line, .int .i64 W.col, .slice x W.kids.length c, .int .i64 (operT ⟨#[60, 43, 62]⟩).kind, .int .i64 (operT ⟨#[60, 43, 62]⟩).form, .string (operT ⟨#[60, 43, 62]⟩).text, .int .i64 (operT ⟨#[60, 43, 62]⟩).line, .int .i64 (operT ⟨#[60, 43, 62]⟩).col, .slice y2 1 c2, .int .i64 (leafT 1 s).kind, .int .i64 (leafT 1 s).form, .string (leafT 1 s).text, .int .i64 (leafT 1 s).line, .int .i64 (leafT 1 s).col, .slice none 0 0] 32)) 20 0 0 0 ⟨#[]⟩ (.slice (some ⟨w8.heap.size, 0, none⟩) 3 3)
          rw [hwN]
          have HSB := Lib.hid (BaseAt.stored (W2 := nodeOf 20 [W, (operT ⟨#[60, 43, 62]⟩), leafT 1 s]) (HS8.out.alloc (.cells #[.int .i64 W.kind, .int .i64 W.form, .string W.text, .int .i64 W.line, .int .i64 W.col, .slice x W.kids.length c, .int .i64 (operT ⟨#[60, 43, 62]⟩).kind, .int .i64 (operT ⟨#[60, 43, 62]⟩).form, .string (operT ⟨#[60, 43, 62]⟩).text, .int .i64 (operT ⟨#[60, 43, 62]⟩).line, .int .i64 (operT ⟨#[60, 43, 62]⟩).col, .slice y2 1 c2, .int .i64 (leafT 1 s).kind, .int .i64 (leafT 1 s).form, .string (leafT 1 s).text, .int .i64 (leafT 1 s).line, .int .i64 (leafT 1 s).col, .slice none 0 0] 32)) (hR9 (nodeOf 20 [W, (operT ⟨#[60, 43, 62]⟩), leafT 1 s]) rfl rfl rfl rfl rfl) ho9 h3)
          have HBN := Lib.hid (below_fresh ((Below.then HB7.out.drew hb8).alloc (by have := HB7.out.size; omega) (.cells #[.int .i64 W.kind, .int .i64 W.form, .string W.text, .int .i64 W.line, .int .i64 W.col, .slice x W.kids.length c, .int .i64 (operT ⟨#[60, 43, 62]⟩).kind, .int .i64 (operT ⟨#[60, 43, 62]⟩).form, .string (operT ⟨#[60, 43, 62]⟩).text, .int .i64 (operT ⟨#[60, 43, 62]⟩).line, .int .i64 (operT ⟨#[60, 43, 62]⟩).col, .slice y2 1 c2, .int .i64 (leafT 1 s).kind, .int .i64 (leafT 1 s).form, .string (leafT 1 s).text, .int .i64 (leafT 1 s).line, .int .i64 (leafT 1 s).col, .slice none 0 0] 32)) (g := w1.heap.size + 1) (by omega) ho9 hz9 ho1 ho2 ho3)
          have HK2 := Lib.hid (show ts3.map (·.1) = leafT 1 n0 :: flatK (rj names (j + 1)) from by rw [← HT3.out, ← HT2.out, List.map_append, List.map_append, HK.out, HR.out, flatK_snoc]; simp [opP])
          have HW2 := Lib.hid (show nodeOf 20 [W, (operT ⟨#[60, 43, 62]⟩), leafT 1 s] = leftT (leafT 1 n0) (rj names (j + 1)) from by rw [HR.out, leftT_snoc, ← HW.out]; rfl)
          clear hwN hR9 ho9 hz9 ho1 ho2 ho3 h3 hb8 hl8 d0 d1 d2 d3 d4 d5 x0 x1 x2 x3 x4 x5 f0 f1 f2 f3 f4 f5 u0 u1 u2 u3 u4 u5 z3 y0 y1 y2' y3 y4 y5
          go_wp2_with fail
          go_roundw
          case rel => exact ⟨j + 1, ts3, nodeOf 20 [W, (operT ⟨#[60, 43, 62]⟩), leafT 1 s], some ⟨w8.heap.size, 0, none⟩, 3, by go_num, by omega, by omega, HBN.out, HSB.out, HK2.out, HW2.out⟩
          case measure => simp [intOf]; omega
      · have hjn : j = names.length := by omega
        have HKE := Lib.hid (lefts_res (W0 := w) (W := wr) HK.out HT.out hb (hS.row.kids 17 0 ⟨#[]⟩ 0 0))
        have hkids := hS.row.kids
        obtain ⟨d0, d1, d2, d3, d4, d5⟩ := hS.box.cells
        have t3 : decide ((j : Int) < names.length) = false := by simp; omega
        have HLW := Lib.hid hS.lies.lies
        have HM := Lib.hid hS.box
        have S1 := fun kv jv w => same_any W.size W W kv jv w (Nat.le_refl _)
        rw [same_self W.size W (Nat.le_refl _)] at S1
        have S1 := Lib.hid S1
        clear hjn hb hS hK hW hkids
        go_wp2_with fail
        refine HKE.out.mono ?_
        rintro e w9 ⟨N, x9, c9, rfl, hN9, hl9, hb9⟩
        obtain rfl : N = W := by rw [hN9, HW.out]
        have HB9 := Lib.hid (Below.then HB.out hb9)
        have hs9 := HB9.out.size
        have HBA := Lib.hid (HB9.out.alloc hs9 (.cells #[.int .i64 N.kind, .int .i64 N.form, .string N.text, .int .i64 N.line, .int .i64 N.col, .slice x9 N.kids.length c9] 32))
        have HL9 := Lib.hid (hl9.keep ((Below.refl _ _).alloc (Nat.le_refl _) (.cells #[.int .i64 N.kind, .int .i64 N.form, .string N.text, .int .i64 N.line, .int .i64 N.col, .slice x9 N.kids.length c9] 32)))
        have HLW9 := Lib.hid ((HLW.out.keep hb9).keep ((Below.refl _ _).alloc (Nat.le_refl _) (.cells #[.int .i64 N.kind, .int .i64 N.form, .string N.text, .int .i64 N.line, .int .i64 N.col, .slice x9 N.kids.length c9] 32)))
        have HM9 := Lib.hid ((HM.out.keep (hb9.block _ HM.out.lt)).alloc (.cells #[.int .i64 N.kind, .int .i64 N.form, .string N.text, .int .i64 N.line, .int .i64 N.col, .slice x9 N.kids.length c9] 32))
        clear hN9 hl9 hb9 d0 d1 d2 d3 d4 d5
        obtain ⟨d0, d1, d2, d3, d4, d5⟩ := HM9.out.cells
        unfold nodeV
        go_wp2_with fail
        refine (S1.out _ _ _ HL9.out HLW9.out).mono ?_
        rintro e w10 ⟨rfl, hb10⟩
        have HB10 := Lib.hid (Below.then HBA.out hb10)
        clear hb10
        go_wp2_with fail
        go_ret
        exact ⟨rfl, HB10.out⟩
#print axioms fixityLefts_walk
end Go.Proofs.YtikkdkacflkifaaDoor
