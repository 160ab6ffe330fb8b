/- DERIVED. The walks of the document's Name and Row. -/
import Derived.Test.YtikkdkacflkifaaDoorRefFixC
import Derived.Test.YtikkdkacflkifaaDoorFixC
import Derived.Test.YtikkdkacflkifaaDoorRefWordF
set_option linter.unusedSimpArgs false
set_option linter.unusedVariables false
namespace Go.Proofs.YtikkdkacflkifaaDoor
open Go.RowKit

/-- An operator's name, as the document gives it. -/
def nameR (t : Tr) : ByteArray × Bool :=
  if t.kind = 18 ∧ (t.kids.length = 1 ∨ t.kids.length = 3) ∧ t.mid.kind = 1 then
    match splitW t.mid.text.data.toList with
    | some (_, n) => (t.mid.text.extract n t.mid.text.size, true)
    | none => (t.mid.text, decide (t.mid.form = 10 ∧ t.mid.text = ⟨#[58]⟩))
  else (⟨#[]⟩, false)
theorem nameR_eq (t : Tr) : nameX t = if (nameR t).2 = true then some (nameR t).1 else none := by
  unfold nameX nameR
  split
  · cases splitW t.mid.text.data.toList with
    | none =>
      dsimp only
      by_cases h : t.mid.form = 10 ∧ t.mid.text = ⟨#[58]⟩
      · rw [if_pos h, if_pos (by simpa using h)]
      · rw [if_neg h, if_neg (by simpa using h)]
    | some p => rfl
  · rfl
def nameRV (p : ByteArray × Bool) : Value := .tuple #[.string p.1, .bool p.2]
set_option maxHeartbeats 4000000 in
theorem refOpName_any (t : Tr) (kv : Value) (w : World) (hs : t.mid.text.size ≤ 1152921504606846976) (hl : Lies w t kv) :
    Calls Tryd.prog 17 #[nodeV t kv] w fun e w' => e = .returned (nameRV (nameR t)) ∧ Below w.heap.size w w' := by
  have hshort := hl.short
  obtain ⟨xa, cap, b, o, K, rfl, hxa, hk⟩ := hl.kidsOf
  have HK := Lib.hid hk
  have HX := Lib.hid hxa
  have HN0 := Lib.hid (boxed_new w t (.slice xa t.kids.length cap) _ rfl)
  have HB0 := Lib.hid ((Below.refl w.heap.size w).alloc (Nat.le_refl _) (.cells #[.int .i64 t.kind, .int .i64 t.form, .string t.text, .int .i64 t.line, .int .i64 t.col, .slice xa t.kids.length cap] 32))
  clear hk hl hxa
  unfold nodeV
  by_cases h1 : t.kind = 18
  · have t1 : (t.kind != 18) = false := by simp; exact h1
    by_cases h2 : t.kids.length = 1 ∨ t.kids.length = 3
    · have hlt : t.kids.length / 2 < t.kids.length := by omega
      have hpos : 0 < t.kids.length := by omega
      have hx := HX.out hpos
      subst hx
      obtain ⟨x, c, hc', hl, hbl⟩ := kid_at HK.out HB0.out hlt
      have hmg := mid_get t hlt
      rw [hmg] at hc' hl
      have hR : nameR t = if t.mid.kind = 1 then (match splitW t.mid.text.data.toList with | some (_, n) => (t.mid.text.extract n t.mid.text.size, true) | none => (t.mid.text, decide (t.mid.form = 10 ∧ t.mid.text = ⟨#[58]⟩))) else (⟨#[]⟩, false) := by
        unfold nameR
        by_cases h3 : t.mid.kind = 1
        · rw [if_pos ⟨h1, h2, h3⟩, if_pos h3]
        · rw [if_neg (fun h => h3 h.2.2), if_neg h3]
      rw [hR]
      have hq : ((t.kids.length : Int) != 1) = false ∨ (((t.kids.length : Int) != 1) = true ∧ ((t.kids.length : Int) != 3) = false) := by
        rcases h2 with h | h
        · left; simp; omega
        · right; refine ⟨?_, ?_⟩ <;> simp <;> omega
      have i0 : (0 : Int) ≤ (t.kids.length : Int) / 2 := by omega
      have i1 : (t.kids.length : Int) / 2 < t.kids.length := by omega
      have c0 := hc'.c0; have c1 := hc'.c1; have c2 := hc'.c2; have c3 := hc'.c3; have c4 := hc'.c4; have c5 := hc'.c5
      obtain ⟨e0, e1, e2, e3, e4, e5⟩ := HN0.out
      clear hR hc' hl hmg h1 h2
      generalize t.mid = m at *
      have HM := Lib.hid (boxed_new (w.alloc (.cells #[.int .i64 t.kind, .int .i64 t.form, .string t.text, .int .i64 t.line, .int .i64 t.col, .slice (some ⟨b, o, none⟩) t.kids.length cap] 32)) m (.slice x m.kids.length c) (w.heap.size + 1) (by simp))
      have HB1' := Lib.hid (HB0.out.alloc (by simp) (.cells #[.int .i64 m.kind, .int .i64 m.form, .string m.text, .int .i64 m.line, .int .i64 m.col, .slice x m.kids.length c] 32))
      have HBB := HB1'
      by_cases h3 : m.kind = 1
      · rw [if_pos h3]
        have t3 : (m.kind != 1) = false := by simp; exact h3
        have S1 := fun w => refSplit_any m.text w hs
        cases hsp : splitW m.text.data.toList with
        | some qn =>
          obtain ⟨q, n⟩ := qn
          rw [hsp] at S1
          have S1 := Lib.hid S1
          clear hsp h3
          rcases hq with hq | ⟨hq, hq2⟩
          all_goals
            go_enter Tryd.func17, Tryd.ntmps17
            go_wp2_with fail
            refine (S1.out _).mono ?_
            rintro e w1 ⟨rfl, hb1⟩
            have HB1 := Lib.hid (HB1'.out.trans (hb1.mono (by simp; omega)))
            clear hb1
            unfold splitV
            go_wp2_with fail
            go_ret2
            exact ⟨rfl, HB1.out⟩
        | none =>
          rw [hsp] at S1
          have S1 := Lib.hid S1
          clear hsp h3
          have hcase : ((m.form == 10) = true ∧ (m.text.toList == [58]) = true ∧ decide (m.form = 10 ∧ m.text = ⟨#[58]⟩) = true) ∨ ((m.form == 10) = true ∧ (m.text.toList == [58]) = false ∧ decide (m.form = 10 ∧ m.text = ⟨#[58]⟩) = false) ∨ ((m.form == 10) = false ∧ decide (m.form = 10 ∧ m.text = ⟨#[58]⟩) = false) := by
            by_cases hf : m.form = 10
            · by_cases ht : m.text = ⟨#[58]⟩
              · exact .inl ⟨by simp; exact hf, by have := op_eq ht; rwa [colon_list] at this, by simpa using ⟨hf, ht⟩⟩
              · exact .inr (.inl ⟨by simp; exact hf, by have := op_ne ht; rwa [colon_list] at this, by simpa using fun _ => ht⟩)
            · exact .inr (.inr ⟨by simp; exact hf, by simp; exact fun h => absurd h hf⟩)
          dsimp only
          rcases hcase with ⟨f1, f2, hv⟩ | ⟨f1, f2, hv⟩ | ⟨f1, hv⟩
          all_goals
            rw [hv]
            clear hv
            rcases hq with hq | ⟨hq, hq2⟩
            all_goals
              go_enter Tryd.func17, Tryd.ntmps17
              go_wp2_with fail
              refine (S1.out _).mono ?_
              rintro e w1 ⟨rfl, hb1⟩
              have HB1 := Lib.hid (HB1'.out.trans (hb1.mono (by simp; omega)))
              have hM1 := HM.out.below hb1
              have g1 := hM1.c1
              have g2 := hM1.c2
              clear hb1 hM1
              unfold splitV
              go_wp2_with fail
              go_quiet (fail)
              go_wp2_with fail
              go_ret2
              exact ⟨rfl, below_drewN HB1.out _⟩
      · rw [if_neg h3]
        have t3 : (m.kind != 1) = true := by rw [bne_iff_ne]; exact h3
        clear h3
        rcases hq with hq | ⟨hq, hq2⟩
        all_goals
          go_enter Tryd.func17, Tryd.ntmps17
          go_wp2_with fail
          go_ret2
          exact ⟨rfl, HB1'.out⟩
    · have hR : nameR t = (⟨#[]⟩, false) := by unfold nameR; rw [if_neg (fun h => h2 h.2.1)]
      rw [hR]
      have n1 : ((t.kids.length : Int) != 1) = true := by rw [bne_iff_ne]; omega
      have n3 : ((t.kids.length : Int) != 3) = true := by rw [bne_iff_ne]; omega
      clear hR h1 h2
      go_enter Tryd.func17, Tryd.ntmps17
      go_wp2_with fail
      go_ret2
      exact ⟨rfl, HB0.out⟩
  · have hR : nameR t = (⟨#[]⟩, false) := by unfold nameR; rw [if_neg (fun h => h1 h.1)]
    rw [hR]
    have t1 : (t.kind != 18) = true := by rw [bne_iff_ne]; exact h1
    clear hR h1
    go_enter Tryd.func17, Tryd.ntmps17
    go_wp2_with fail
    go_ret2
    exact ⟨rfl, HB0.out⟩

set_option maxRecDepth 20000 in
set_option maxHeartbeats 4000000 in
theorem refRow_any (t : Tr) (kv : Value) (w : World) (hs : ∀ (i : Nat) (h : i < t.kids.length), (t.kids[i]).mid.text.size ≤ 1152921504606846976) (hl : Lies w t kv) :
    Calls Tryd.prog 38 #[kv] w fun e w' => e = .returned (.bool (rowOk true t.kids)) ∧ Below w.heap.size w w' := by
  have hshort := hl.short
  obtain ⟨xa, cap, b, o, K, rfl, hxa, hk⟩ := hl.kidsOf
  have HK := Lib.hid hk
  have HX := Lib.hid hxa
  have HS := Lib.hid hs
  obtain ⟨R, hR⟩ : ∃ R, rowOk true t.kids = R := ⟨_, rfl⟩
  rw [hR]
  have HR := Lib.hid hR
  clear hk hl hxa hs hR
  go_enter Tryd.func38, Tryd.ntmps38
  go_wp2_with fail
  go_loopw [3] (fun a wr => ∃ i : Nat, a = .int .i64 i ∧ i ≤ t.kids.length ∧ Below w.heap.size w wr ∧ rowOk true (t.kids.drop i) = R) (fun a _ => t.kids.length - (intOf a).toNat)
  case atStart => exact ⟨0, rfl, by omega, Below.refl _ _, by simpa using HR.out⟩
  case round =>
    obtain ⟨i0, rfl, hi0, hb0, hF0⟩ := hrel
    have HB0 := Lib.hid hb0
    have HF0 := Lib.hid hF0
    clear hb0 hF0
    generalize wr = W1 at *
    go_wp2_with fail
    go_loopw [3] (fun a wr => ∃ i : Nat, a = .int .i64 i ∧ i0 ≤ i ∧ i ≤ t.kids.length ∧ Below w.heap.size w wr ∧ rowOk true (t.kids.drop i) = R) (fun a _ => t.kids.length - (intOf a).toNat)
    case atStart => exact ⟨i0, rfl, by omega, hi0, HB0.out, HF0.out⟩
    case round =>
      obtain ⟨i, rfl, hii, hi, hb, hF⟩ := hrel
      have HB := Lib.hid hb
      have HF := Lib.hid hF
      have hst := hb.size
      clear hF
      by_cases hin : i < t.kids.length
      · have hx := HX.out (by omega)
        subst hx
        obtain ⟨x, c, hc', hl, hbl⟩ := kid_at HK.out hb hin
        have c0 := hc'.c0
        have HD := Lib.hid (show t.kids.drop i = t.kids[i] :: t.kids.drop (i + 1) from List.drop_eq_getElem_cons hin)
        clear hc' hl hb
        generalize hk : t.kids[i] = k at *
        clear hk
        by_cases h19 : k.kind = 19
        · have t1 : (k.kind == 19) = true := by simp; exact h19
          have HR2 := Lib.hid (show rowOk true (t.kids.drop (i + 1)) = R by rw [← HF.out, HD.out, rowOk_m _ _ h19])
          clear h19
          go_wp2_with fail
          go_roundw
          case rel => exact ⟨i + 1, by go_num, by omega, by omega, HB.out, HR2.out⟩
          case measure => simp [intOf]; omega
        · have t1 : (k.kind == 19) = false := by simp; exact h19
          by_cases h18 : k.kind = 18
          · have t2 : (k.kind == 18) = true := by simp; exact h18
            have HR2 := Lib.hid (show R = false by rw [← HF.out, HD.out, rowOk_o _ _ h18])
            clear h19 h18
            go_wp2_with fail
            go_ret
            exact ⟨by rw [HR2.out]; rfl, HB.out⟩
          · have t2 : (k.kind == 18) = false := by simp; exact h18
            have HR2 := Lib.hid (show rowOk false (t.kids.drop (i + 1)) = R by rw [← HF.out, HD.out, rowOk_n _ _ h19 h18])
            clear h19 h18
            by_cases hend : i + 1 = t.kids.length
            · have t4 : (((i + 1 : Nat) : Int) == t.kids.length) = true := by simp; omega
              have t5 : ((i : Int) + 1 == t.kids.length) = true := by simp; omega
              have HR3 := Lib.hid (show R = true by rw [← HR2.out, hend, List.drop_length]; rfl)
              clear hend
              go_wp2_with fail
              go_ret
              exact ⟨by rw [HR3.out]; rfl, HB.out⟩
            · have t4 : (((i + 1 : Nat) : Int) == t.kids.length) = false := by simp; omega
              have t5 : ((i : Int) + 1 == t.kids.length) = false := by simp; omega
              have hin2 : i + 1 < t.kids.length := by omega
              obtain ⟨x2, d2, hc2, hl2, _⟩ := kid_at HK.out HB.out hin2
              have hms := HS.out (i + 1) hin2
              have HD2 := Lib.hid (show t.kids.drop (i + 1) = t.kids[i + 1] :: t.kids.drop (i + 1 + 1) from List.drop_eq_getElem_cons hin2)
              have q0 := hc2.c0; have q1 := hc2.c1; have q2 := hc2.c2; have q3 := hc2.c3; have q4 := hc2.c4; have q5 := hc2.c5
              have HL2 := Lib.hid hl2
              clear hc2 hl2 hend
              generalize hk : t.kids[i + 1] = k2 at *
              clear hk
              have N1 := Lib.hid (refOpName_any k2 (.slice x2 k2.kids.length d2) wr hms HL2.out)
              clear hms
              have HNE := Lib.hid (nameR_eq k2)
              generalize hnm : nameR k2 = p at *
              obtain ⟨nm, ok⟩ := p
              clear hnm
              cases ok with
              | false =>
                have HR3 := Lib.hid (show R = false by rw [← HR2.out, HD2.out, rowOk_f, HNE.out]; rfl)
                go_wp2_with fail
                refine N1.out.mono ?_
                rintro e w1 ⟨rfl, hb1⟩
                have HB1 := Lib.hid (Below.then HB.out hb1)
                clear hb1
                unfold nameRV
                go_wp2_with fail
                go_ret
                exact ⟨by rw [HR3.out]; rfl, HB1.out⟩
              | true =>
                have HR3 := Lib.hid (show rowOk true (t.kids.drop (i + 1 + 1)) = R by rw [← HR2.out, HD2.out, rowOk_f, HNE.out]; rfl)
                go_wp2_with fail
                refine N1.out.mono ?_
                rintro e w1 ⟨rfl, hb1⟩
                have HB1 := Lib.hid (Below.then HB.out hb1)
                clear hb1
                unfold nameRV
                go_wp2_with fail
                go_roundw
                case rel => exact ⟨i + 1 + 1, by go_num, by omega, HB1.out, HR3.out⟩
                case measure => simp [intOf]; omega
      · have hi' : i = t.kids.length := by omega
        subst hi'
        have HR2 := Lib.hid (show R = false by rw [← HF.out, List.drop_length, rowOk_e]; rfl)
        clear hb
        go_wp2_with fail
        go_ret
        exact ⟨by rw [HR2.out]; rfl, HB.out⟩
end Go.Proofs.YtikkdkacflkifaaDoor
