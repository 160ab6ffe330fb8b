/- DERIVED. The walk of the law FixityTight. -/
import Derived.Test.YtikkdkacflkifaaDoorTightD
set_option linter.unusedSimpArgs false
set_option linter.unusedVariables false
namespace Go.Proofs.YtikkdkacflkifaaDoor
open Go.RowKit

theorem ResolvePost.laid {R : Tr × Int} {w w' : World} {e : Ending} (h : ResolvePost R w e w') : ∃ x c, e = .returned (.tuple #[nodeV R.1 (.slice x R.1.kids.length c), .int .i64 R.2]) ∧ Lies w' R.1 (.slice x R.1.kids.length c) ∧ Below w.heap.size w w' := by
  obtain ⟨kv, he, hl, hb⟩ := h
  obtain ⟨x, c, rfl⟩ := hl.shape
  exact ⟨x, c, he, hl, hb⟩
set_option maxRecDepth 20000 in
set_option maxHeartbeats 8000000 in
theorem fixityTight_walk (env : List Fx) (xa : Option Addr) (ec eb eo : Nat) (t : Tr) (kv : Value) (w : World) (hs : ∀ (i : Nat) (h : i < t.kids.length), (t.kids[i]).mid.text.size ≤ 1152921504606846976) (hxa : 0 < env.length → xa = some ⟨eb, eo, none⟩) (hE : Fixes w eb eo env) (hl : Lies w t kv) (hT : Tabs16 w) :
    Calls Tryd.prog 6 #[.slice xa env.length ec, nodeV t kv] w fun e w' => e = .returned (.bool true) ∧ Below w.heap.size w w' := by
  have hshort := hl.short
  have helen := hE.len
  obtain ⟨ka, cap, b, o, K, rfl, hka, hkk⟩ := hl.kidsOf
  have R1 := fun w hE hl hT => resolve_any env t xa ec eb eo (.slice ka t.kids.length cap) w hs hxa hE hl hT
  have HK := Lib.hid hkk
  have HKA := Lib.hid hka
  have HL := Lib.hid hl
  have HT := Lib.hid hT
  have HE := Lib.hid hE
  have HXA := Lib.hid hxa
  have HS := Lib.hid hs
  have HN := Lib.hid (rowN_new w t (.slice ka t.kids.length cap))
  have HB := Lib.hid ((Below.refl w.heap.size w).alloc (Nat.le_refl _) (.cells #[.int .i64 t.kind, .int .i64 t.form, .string t.text, .int .i64 t.line, .int .i64 t.col, .slice ka t.kids.length cap] 32))
  clear hl hT hE hxa hs hkk hka
  unfold nodeV
  by_cases hbig : t.kind ≠ 17 ∨ 100 < t.kids.length ∨ 200 < env.length
  · have hq : (t.kind != 17) = true ∨ ((t.kind != 17) = false ∧ decide ((100 : Int) < t.kids.length) = true) ∨ ((t.kind != 17) = false ∧ decide ((100 : Int) < t.kids.length) = false ∧ decide ((200 : Int) < env.length) = true) := by
      by_cases h1 : t.kind = 17
      · right
        by_cases h2 : 100 < t.kids.length
        · left; exact ⟨by simpa using h1, by simp; omega⟩
        · right; exact ⟨by simpa using h1, by simp; omega, by simp; omega⟩
      · left; simpa using h1
    clear hbig R1
    rcases hq with q1 | ⟨q1, q2⟩ | ⟨q1, q2, q3⟩
    all_goals
      go_enter Tryd.func6, Tryd.ntmps6
      go_wp2_with fail
      refine (awake_any _ (HT.out.below HB.out)).mono ?_
      rintro e w1 ⟨rfl, hb1⟩
      have HB1 := Lib.hid (Below.then HB.out hb1)
      have HN1 := Lib.hid (HN.out.keep (hb1.block w.heap.size HN.out.lt))
      obtain ⟨d0, d1, d2, d3, d4, d5⟩ := HN1.out.cells
      clear hb1
      go_wp2_with fail
      go_ret
      exact ⟨rfl, HB1.out⟩
  · have h17 : t.kind = 17 := by omega
    have q1 : (t.kind != 17) = false := by simpa using h17
    have q2 : decide ((100 : Int) < t.kids.length) = false := by simp; omega
    have q3 : decide ((200 : Int) < env.length) = false := by simp; omega
    have hk100 : t.kids.length ≤ 100 := by omega
    have hRT := resolve_tight MidOk env t h17 (fun x hx => by obtain ⟨i, hi, rfl⟩ := List.getElem_of_mem hx; exact HS.out i hi)
    obtain ⟨⟨N, er⟩, hR⟩ : ∃ R, resolveX env t = R := ⟨_, rfl⟩
    rw [hR] at R1 hRT
    have R1 := Lib.hid R1
    have HRT := Lib.hid hRT
    clear hbig hR hRT h17
    by_cases her : er = 0
    · subst her
      have t0 : ((0 : Int) != 0) = false := by decide
      go_enter Tryd.func6, Tryd.ntmps6
      go_wp2_with fail
      refine (awake_any _ (HT.out.below HB.out)).mono ?_
      rintro e w0 ⟨rfl, hb0⟩
      have HB0 := Lib.hid (Below.then HB.out hb0)
      have HN0 := Lib.hid (HN.out.keep (hb0.block w.heap.size HN.out.lt))
      obtain ⟨d0, d1, d2, d3, d4, d5⟩ := HN0.out.cells
      clear hb0
      go_wp2_with fail
      refine (R1.out _ (HE.out.below HB0.out) (HL.out.keep HB0.out) (HT.out.below HB0.out)).mono ?_
      rintro e w1 hp1
      obtain ⟨x1, c1, rfl, hl1, hb1⟩ := hp1.laid
      simp only at hl1
      have HB1' := Lib.hid (Below.then HB0.out hb1)
      have hs1 := HB1'.out.size
      have HB1 := Lib.hid (HB1'.out.alloc (Below.size HB1'.out) (.cells #[.int .i64 N.kind, .int .i64 N.form, .string N.text, .int .i64 N.line, .int .i64 N.col, .slice x1 N.kids.length c1] 32))
      have HN1 := Lib.hid ((HN0.out.keep (hb1.block w.heap.size HN0.out.lt)).alloc (.cells #[.int .i64 N.kind, .int .i64 N.form, .string N.text, .int .i64 N.line, .int .i64 N.col, .slice x1 N.kids.length c1] 32))
      have HA1 := Lib.hid (rowN_new w1 N (.slice x1 N.kids.length c1))
      have HL1 := Lib.hid (hl1.keep ((Below.refl _ _).alloc (Nat.le_refl _) (.cells #[.int .i64 N.kind, .int .i64 N.form, .string N.text, .int .i64 N.line, .int .i64 N.col, .slice x1 N.kids.length c1] 32)))
      have hwl : w.heap.size < w1.heap.size := by have h := HN0.out.lt; have h2 := hb1.size; omega
      clear hp1 hl1 hb1 d0 d1 d2 d3 d4 d5
      unfold nodeV
      go_wp2_with fail
      generalize hwA : w1.alloc (.cells #[.int .i64 N.kind, .int .i64 N.form, .string N.text, .int .i64 N.line, .int .i64 N.col, .slice x1 N.kids.length c1] 32) = wA at *
      have HWA := Lib.hid hwA
      clear hwA
      go_loopw [8, 9] (fun v a wr => ∃ (i : Nat) (ts : List (Tr × Value)) (va : Option Addr) (vc : Nat), a = .int .i64 i ∧ v = .slice va ts.length vc ∧ i ≤ t.kids.length ∧ Below wA.heap.size wA wr ∧ wr.ownsRow wA.heap.size 32 6 (.slice va ts.length vc) ts.length (ts.flatMap nodeCells) ∧ (∀ x ∈ ts, Lies w x.1 x.2) ∧ ts.map (·.1) = opds (t.kids.take i) ∧ ∀ j, j < i → ∀ h : j < t.kids.length, t.kids[j].kind ≠ 20 ∧ t.kids[j].kind ≠ 21) (fun _ a _ => t.kids.length - (intOf a).toNat)
      case atStart => exact ⟨0, [], none, 0, rfl, rfl, by omega, Below.refl _ _, ⟨rfl, .inl ⟨rfl, rfl⟩⟩, (fun x hx => by cases hx), rfl, fun j hj => by omega⟩
      case round =>
        obtain ⟨i, ts, va, vc, rfl, rfl, hi, hb, hO, hTS, hM, hKi⟩ := hrel
        have HBA := Lib.hid hb
        have HBr := Lib.hid (Below.then HB1.out hb)
        have HNr := Lib.hid (HN1.out.keep (hb.block _ HN1.out.lt))
        have HAr := Lib.hid (HA1.out.keep (hb.block _ HA1.out.lt))
        have HNL := Lib.hid (HL1.out.keep hb)
        have HO := Lib.hid hO
        have HTS := Lib.hid hTS
        have HM := Lib.hid hM
        have HKI := Lib.hid hKi
        have hst := hb.size
        have hown := Lib.hid hO.lt
        have htl : ts.length ≤ 100 := by
          have h := congrArg List.length hM
          rw [List.length_map] at h
          have h2 : (opds (t.kids.take i)).length ≤ (t.kids.take i).length := List.length_filter_le _ _
          rw [List.length_take] at h2; omega
        have n0 := HNr.out.cells.1
        have n5 := HNr.out.cells.2.2.2.2.2
        clear hb hO hTS hM hKi
        by_cases hin : i < t.kids.length
        · have hx := HKA.out (by omega)
          subst hx
          obtain ⟨kx, kc, hcW, hkl, hbl⟩ := kid_at HK.out (Below.refl _ _) hin
          have HC := Lib.hid hcW
          have hc' := hcW.below HBr.out
          have c0 := hc'.c0; have c1 := hc'.c1; have c2 := hc'.c2; have c3 := hc'.c3; have c4 := hc'.c4; have c5 := hc'.c5
          have HKL := Lib.hid hkl
          have HD := Lib.hid (opds_take t.kids i hin)
          have hstep : ∀ k : Tr, t.kids[i] = k → (k.kind ≠ 20 ∧ k.kind ≠ 21) → Hid (∀ j, j < i + 1 → ∀ h : j < t.kids.length, t.kids[j].kind ≠ 20 ∧ t.kids[j].kind ≠ 21) := fun k hk h9 => Lib.hid (fun j hj h => by
            by_cases e : j = i
            · subst e; rw [hk]; exact h9
            · exact HKI.out j (by omega) h)
          obtain ⟨k, hk⟩ : ∃ k, t.kids[i] = k := ⟨_, rfl⟩
          have hstep := hstep k hk
          rw [hk] at c0 c1 c2 c3 c4 c5 HC HKL HD
          clear hc' hcW hkl hk
          by_cases h20 : k.kind = 20 ∨ k.kind = 21
          · have hq : (k.kind == 20) = true ∨ ((k.kind == 20) = false ∧ (k.kind == 21) = true) := by
              by_cases h : k.kind = 20
              · left; simpa using h
              · right; exact ⟨by simpa using h, by simpa using h20.resolve_left h⟩
            clear h20 hstep
            rcases hq with k1 | ⟨k1, k2⟩
            all_goals
              go_wp2_with fail
              go_ret
              exact ⟨rfl, HBr.out⟩
          · have k1 : (k.kind == 20) = false := by simp; omega
            have k2 : (k.kind == 21) = false := by simp; omega
            have HKI2 := hstep (by omega)
            clear h20 hstep
            cases hop : isOpd k with
            | false =>
              rw [hop] at HD
              have hq : (k.kind != 18) = false ∨ ((k.kind != 18) = true ∧ (k.kind != 19) = false) := by
                unfold isOpd at hop
                by_cases h : k.kind = 18
                · left; simpa using h
                · right; refine ⟨by simpa using h, ?_⟩; simp [h] at hop; simpa using hop
              clear hop
              rcases hq with k3 | ⟨k3, k4⟩
              all_goals
                go_wp2_with fail
                go_roundw
                case rel => exact ⟨i + 1, ts, va, vc, by go_num, rfl, by omega, HBA.out, HO.out, HTS.out, by rw [HD.out, HM.out]; simp, HKI2.out⟩
                case measure => simp [intOf]; omega
            | true =>
              rw [hop] at HD
              have k3 : (k.kind != 18) = true := by unfold isOpd at hop; simp at hop; simpa using hop.1
              have k4 : (k.kind != 19) = true := by unfold isOpd at hop; simp at hop; simpa using hop.2
              obtain ⟨i0, z0, hi0, hz0, hz1, hz2, hz3⟩ := node_info
              clear hop
              have HO2 := Lib.hid (HO.out.alloc (.cells #[.int .i64 k.kind, .int .i64 k.form, .string k.text, .int .i64 k.line, .int .i64 k.col, .slice kx k.kids.length kc] 32))
              have HB2 := Lib.hid (HBA.out.alloc hst (.cells #[.int .i64 k.kind, .int .i64 k.form, .string k.text, .int .i64 k.line, .int .i64 k.col, .slice kx k.kids.length kc] 32))
              go_wp2_with (at_builtin; refine wpList_append_lies _ rfl _ _ 30 rfl wA.heap.size 32 i0 z0 6 72 Tryd.underlying30 hi0 hz0 hz1 hz2 hz3 (by decide) _ _ _ rfl HO2.out ⟨wr.heap.size, 0, none⟩ 1 1 ([(k, Value.slice kx k.kids.length kc)].flatMap nodeCells) rfl rfl (new_node _ k _ _ rfl) (node_one _ _ _ _) (by omega) (by simp only [maxLen]; omega) (by omega) (by simp; omega) _ rfl ?_; rintro g cp w5 hw5 hgrow hat hlt5; have HO5 := Lib.hid hw5; have HGR := Lib.hid hgrow; have HAT := Lib.hid hat; clear hw5 hgrow hat)
              go_roundw
              case rel =>
                refine ⟨i + 1, ts ++ [(k, Value.slice kx k.kids.length kc)], some ⟨g, 0, none⟩, cp, by go_num, by rw [List.length_append]; rfl, by omega, HB2.out.grown HGR.out (by simp; omega) (fun k hk => (HO2.out.lt k hk).1), ?_, fun x hx => ?_, ?_, HKI2.out⟩
                · rw [List.length_append, List.flatMap_append]; exact HO5.out
                · rw [List.mem_append, List.mem_singleton] at hx
                  rcases hx with hx | rfl
                  · exact HTS.out x hx
                  · exact HKL.out
                · rw [HD.out, List.map_append, HM.out]; rfl
              case measure => simp [intOf]; omega
        · have hi' : i = t.kids.length := by omega
          subst hi'
          have t3 : decide ((t.kids.length : Int) < t.kids.length) = false := by simp
          have hM2 := HM.out
          rw [List.take_length] at hM2
          have hKK : ∀ x ∈ t.kids, x.kind ≠ 20 ∧ x.kind ≠ 21 := fun x hx => by obtain ⟨j, hj, rfl⟩ := List.getElem_of_mem hx; exact HKI.out j hj hj
          have hTi := HRT.out hKK (by simp)
          obtain ⟨oa, oc, ob, oo, OK, hv, hoa, hOO⟩ := row_ground HO.out HTS.out HBr.out
          have hG : TGround wr env xa eb eo (ts.map (·.1)) oa ob oo OK := ⟨HXA.out, HE.out.below HBr.out, HT.out.below HBr.out, hoa, hOO, by rw [List.length_map]; omega⟩
          rw [← hM2] at hTi
          have hF := tight_does env xa ec eb eo (ts.map (·.1)) oa oc ob oo OK (by rw [hM2]; exact opds_kinds _ hKK) hTi (.slice x1 N.kids.length c1) wr hG HNL.out
          rw [← hv, List.length_map] at hF
          have HF := Lib.hid (show Calls Tryd.prog 21 #[.slice xa env.length ec, nodeV N (.slice x1 N.kids.length c1), .slice va ts.length vc, .int .i64 0] wr fun e w' => e = .returned (.tuple #[.int .i64 (ts.length : Int), .bool true]) ∧ Below wr.heap.size wr w' from hF)
          obtain ⟨e0, e1, e2, e3, e4, e5⟩ := HAr.out.cells
          have t5 : ((ts.length : Int) == ts.length) = true := by simp
          clear hM2 hKK hTi hoa hOO hG hF hv
          go_wp2_with fail
          refine HF.out.mono ?_
          rintro e w5 ⟨rfl, hb5⟩
          have HB5 := Lib.hid (Below.then HBr.out hb5)
          clear hb5
          go_wp2_with fail
          go_ret
          exact ⟨rfl, HB5.out⟩
    · have t0 : (er != 0) = true := by simpa using her
      clear her
      go_enter Tryd.func6, Tryd.ntmps6
      go_wp2_with fail
      refine (awake_any _ (HT.out.below HB.out)).mono ?_
      rintro e w0 ⟨rfl, hb0⟩
      have HB0 := Lib.hid (Below.then HB.out hb0)
      have HN0 := Lib.hid (HN.out.keep (hb0.block w.heap.size HN.out.lt))
      obtain ⟨d0, d1, d2, d3, d4, d5⟩ := HN0.out.cells
      clear hb0
      go_wp2_with fail
      refine (R1.out _ (HE.out.below HB0.out) (HL.out.keep HB0.out) (HT.out.below HB0.out)).mono ?_
      rintro e w1 hp1
      obtain ⟨x1, c1, rfl, hl1, hb1⟩ := hp1.laid
      have HB1 := Lib.hid (Below.then HB0.out hb1)
      have hs1 := HB1.out.size
      clear hp1 hl1 hb1 d0 d1 d2 d3 d4 d5
      unfold nodeV
      go_wp2_with fail
      go_ret
      exact ⟨rfl, HB1.out.alloc hs1 _⟩
#print axioms fixityTight_walk
end Go.Proofs.YtikkdkacflkifaaDoor
