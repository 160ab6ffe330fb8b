/- DERIVED. The walk of the document's Own. -/
import Derived.Test.YtikkdkacflkifaaDoorOwnD
import Derived.Test.YtikkdkacflkifaaDoorRefFixD
import Derived.Test.YtikkdkacflkifaaDoorRefNumV
import Derived.Deep.DeepCutAuto
set_option linter.unusedSimpArgs false
set_option linter.unusedVariables false
namespace Go.Proofs.YtikkdkacflkifaaDoor
open Go.RowKit

def intLeaf (k : Tr) : Bool := decide (k.kind = 1) && decide (k.form = 11)
theorem intLeaf_cases (k : Tr) : ((k.kind == 1) = false ∧ intLeaf k = false) ∨ ((k.kind == 1) = true ∧ (k.form == 11) = false ∧ intLeaf k = false) ∨ ((k.kind == 1) = true ∧ (k.form == 11) = true ∧ intLeaf k = true) := by
  unfold intLeaf
  by_cases h1 : k.kind = 1
  · by_cases h2 : k.form = 11
    · exact .inr (.inr ⟨by simp; exact h1, by simp; exact h2, by simp [h1, h2]⟩)
    · exact .inr (.inl ⟨by simp; exact h1, by simpa using h2, by simp [h2]⟩)
  · exact .inl ⟨by simpa using h1, by simp [h1]⟩
theorem intLeaf_iff (k : Tr) : intLeaf k = true ↔ k.kind = 1 ∧ k.form = 11 := by unfold intLeaf; simp
theorem precX_no (k : Tr) (h : intLeaf k = false) : precX k = some (9, 1) := by
  unfold precX; rw [if_neg]
  intro h2; rw [(intLeaf_iff k).2 h2] at h; cases h
theorem precX_yes (k : Tr) (h : intLeaf k = true) (v c : Int) (hv : valueX k.text.data.toList = (v, c)) (ho : c = 0 ∧ v ≤ 9) : precX k = some (v, 2) := by
  unfold precX; rw [if_pos ((intLeaf_iff k).1 h), hv, if_pos ho]
theorem precX_over (k : Tr) (h : intLeaf k = true) (v c : Int) (hv : valueX k.text.data.toList = (v, c)) (ho : ¬ (c = 0 ∧ v ≤ 9)) : precX k = none := by
  unfold precX; rw [if_pos ((intLeaf_iff k).1 h), hv, if_neg ho]
def PrecAt (k : Tr) (w0 : World) (pv iv : Value) (wx : World) : Prop := ∃ (pr : Int) (n : Nat), pv = .int .i64 pr ∧ iv = .int .i64 n ∧ precX k = some (pr, n) ∧ w0 = wx
/-- The loop. -/
def RefOwnAt (ks : List Tr) (n : Nat) (sd pr : Int) (R : Option (List Fx)) (W : World) (ov iv : Value) (wr : World) : Prop :=
  ∃ (i : Nat) (acc : List Fx), iv = .int .i64 ((n + i : Nat) : Int) ∧ i ≤ ks.length ∧ acc.length ≤ i ∧ OwnsX wr W.heap.size ov acc ∧ Below W.heap.size W wr ∧ ownGo sd pr (decide (i % 2 = 1)) (ks.drop i) acc = R
theorem precX_n (k : Tr) (pr : Int) (n : Nat) (h : precX k = some (pr, n)) : n = 1 ∨ n = 2 := by
  unfold precX at h
  split at h
  · split at h
    · injection h with h; injection h with _ h; exact .inr h.symm
    · cases h
  · injection h with h; injection h with _ h; exact .inl h.symm
theorem ownX_word (t : Tr) (h1 : t.kind = 35) (h2 : 2 ≤ t.kids.length) (hk1 : (t.kid 0).kind = 1) (hk2 : (t.kid 0).form = 9) : ownX t = if sideW (t.kid 0).text ≠ 0 then (match precX (t.kid 1) with | none => none | some (pr, n) => ownTail (sideW (t.kid 0).text) pr (t.kids.drop n)) else none := by
  unfold ownX
  have e : sideX (t.kid 0) = sideW (t.kid 0).text := by unfold sideX; rw [if_pos ⟨hk1, hk2⟩]
  rw [e]
  by_cases h : sideW (t.kid 0).text ≠ 0
  · rw [if_pos ⟨h1, h2, h⟩, if_pos h]
    cases precX (t.kid 1) with
    | none => rfl
    | some p => rfl
  · rw [if_neg (fun h' => h h'.2.2), if_neg h]
set_option maxRecDepth 20000 in
set_option maxHeartbeats 8000000 in
theorem refOwn_1 (t : Tr) (kv : Value) (w : World) (hl : Lies w t kv) (h1 : t.kind = 35) (h2 : 2 ≤ t.kids.length) (hlen : t.kids.length ≤ 2199023255552) (hk1 : (t.kid 0).kind = 1) (hk2 : (t.kid 0).form = 9) (hts : (t.kid 1).text.size ≤ 1152921504606846976) (hm : ∀ i (h : i < t.kids.length), (t.kids[i]).mid.text.size ≤ 1152921504606846976) (hsd : sideW (t.kid 0).text = 1) (q1 : ((t.kid 0).text.toList == [105, 110, 102, 105, 120, 108]) = true) :
    Calls Tryd.prog 28 #[nodeV t kv] w (OwnPost (ownX t) w) := by
  have hR := ownX_word t h1 h2 hk1 hk2
  rw [hsd] at hR
  obtain ⟨R, hRe⟩ : ∃ R, ownX t = R := ⟨_, rfl⟩
  rw [hRe] at hR ⊢
  obtain ⟨xa, cap, b, o, K, rfl, hxa, hk⟩ := hl.kidsOf
  have hx := hxa (by omega)
  subst hx
  have HM := Lib.hid hm
  have HK := Lib.hid hk
  have HN0 := Lib.hid (boxed_new w t (.slice (some ⟨b, o, none⟩) t.kids.length cap) _ rfl)
  have HB0 := Lib.hid ((Below.refl w.heap.size w).alloc (Nat.le_refl _) (.cells #[.int .i64 t.kind, .int .i64 t.form, .string t.text, .int .i64 t.line, .int .i64 t.col, .slice (some ⟨b, o, none⟩) t.kids.length cap] 32))
  have t1 : (t.kind != 35) = false := by simp; exact h1
  have t2 : decide ((t.kids.length : Int) < 2) = false := by simp; omega
  have t2b : decide (t.kids.length < 2) = false := by simp; omega
  obtain ⟨k0, hk0⟩ : ∃ k, t.kid 0 = k := ⟨_, rfl⟩
  obtain ⟨k1, hk1e⟩ : ∃ k, t.kid 1 = k := ⟨_, rfl⟩
  obtain ⟨x0, c0, hc0, hl0⟩ := kid_w HK.out (show 0 < t.kids.length by omega) hk0
  obtain ⟨x1, c1, hc1, hl1⟩ := kid_w HK.out (show 1 < t.kids.length by omega) hk1e
  rw [hk0] at hsd hk1 hk2 q1
  rw [hk1e] at hR hts
  simp only [Nat.zero_mul, Nat.add_zero, Nat.one_mul] at hc0 hc1
  have t3 : (k0.kind != 1) = false := by simp; exact hk1
  have t4 : (k0.form != 9) = false := by simp; exact hk2
  obtain ⟨i0, z0, hi0, iz0, iz1, iz2, iz3⟩ := fix_info
  have C0 := Lib.hid hc0
  have C1 := Lib.hid hc1
  have HR := Lib.hid hR
  clear hk hl hxa h1 hc0 hc1 hl0 hl1 hm hk0 hk1e hk1 hk2 hR hRe hsd
  obtain ⟨e0, e1, e2, e3, e4, e5⟩ := HN0.out
  have hc := C0.out.below HB0.out
  have a0 := hc.c0; have a1 := hc.c1; have a2 := hc.c2
  have hc := C1.out.below HB0.out
  have b0 := hc.c0; have b1 := hc.c1; have b2 := hc.c2
  clear hc
  unfold nodeV
  have v1 := fun w => refValue_any k1.text w hts
  unfold valueV at v1
  have V1 := Lib.hid v1
  clear v1 hts
  go_enter Tryd.func28, Tryd.ntmps28
  go_upto_region 13 with fail
  go_cut [65] (fun c wx => c = .bool (intLeaf k1) ∧ wx = w.alloc (.cells #[.int .i64 t.kind, .int .i64 t.form, .string t.text, .int .i64 t.line, .int .i64 t.col, .slice (some ⟨b, o, none⟩) t.kids.length cap] 32))
  case first =>
    rcases intLeaf_cases k1 with ⟨p1, he⟩ | ⟨p1, p2, he⟩ | ⟨p1, p2, he⟩
    all_goals
      have HE := Lib.hid he
      clear he
      go_wp2_with fail
      go_meet
      exact ⟨by rw [HE.out], rfl⟩
  case rest =>
  obtain ⟨rfl, rfl⟩ := hcut
  generalize (w.alloc (.cells #[.int .i64 t.kind, .int .i64 t.form, .string t.text, .int .i64 t.line, .int .i64 t.col, .slice (some ⟨b, o, none⟩) t.kids.length cap] 32)) = w0 at *
  go_upto_if 65 with fail
  go_cut [6, 7] (fun pv iv wx => PrecAt k1 w0 pv iv wx)
  case first =>
    obtain ⟨⟨v, c⟩, hv⟩ : ∃ p, valueX k1.text.data.toList = p := ⟨_, rfl⟩
    have V2 := V1
    rw [hv] at V2
    cases hi : intLeaf k1 with
    | false =>
      have hP := Lib.hid (precX_no k1 hi)
      clear hv
      go_wp2_with fail
      go_meet
      exact ⟨9, 1, rfl, rfl, hP.out, rfl⟩
    | true =>
      by_cases hvo : c = 0 ∧ v ≤ 9
      · have hP := Lib.hid (precX_yes k1 hi v c hv hvo)
        obtain ⟨rfl, hv9⟩ := hvo
        have q1 : decide (9 < v) = false := by simp; omega
        clear hv
        go_wp2_with fail
        refine (V2.out _).mono ?_
        rintro e w4 ⟨rfl, rfl⟩
        go_wp2_with fail
        go_meet
        exact ⟨v, 2, rfl, rfl, hP.out, rfl⟩
      · have hP := Lib.hid (precX_over k1 hi v c hv hvo)
        have hq : (c != 0) = true ∨ ((c != 0) = false ∧ decide (9 < v) = true) := by
          by_cases h : c = 0
          · exact .inr ⟨by simp; exact h, by simp; apply Classical.byContradiction; intro h3; exact hvo ⟨h, by omega⟩⟩
          · exact .inl (by rw [bne_iff_ne]; exact h)
        have hr := HR.out
        rw [hP.out] at hr
        simp only [ite_self] at hr
        have HRn := Lib.hid hr
        clear hv hvo hr
        rcases hq with q1 | ⟨q1, q2⟩
        all_goals
          go_wp2_with fail
          refine (V2.out _).mono ?_
          rintro e w4 ⟨rfl, rfl⟩
          go_wp2_with fail
          go_ret2
          exact (show OwnPost R w _ _ by rw [HRn.out]; exact ⟨rfl, HB0.out⟩)
  case rest =>
  obtain ⟨pr, n, rfl, rfl, hp, rfl⟩ := hcut
  have hn := precX_n k1 pr n hp
  have hr0 := HR.out
  rw [hp] at hr0
  obtain ⟨ks, hksd⟩ : ∃ ks, t.kids.drop n = ks := ⟨_, rfl⟩
  have hksl : ks.length = t.kids.length - n := by rw [← hksd, List.length_drop]
  have hr : R = ownTail 1 pr ks := by rw [hr0, ← hksd]; rfl
  clear hr0
  unfold ownTail at hr
  by_cases he : ks.length % 2 = 0
  · rw [if_pos he] at hr
    have HR := Lib.hid hr
    have t6 : (((t.kids.length : Int) - (n : Int)) % 2 == 0) = true := by simp; omega
    clear hr he hp hksd hksl
    go_wp2_with fail
    go_ret2
    exact (show OwnPost R w _ _ by rw [HR.out]; exact ⟨rfl, HB0.out⟩)
  · rw [if_neg he] at hr
    have HR := Lib.hid hr
    have t6 : (((t.kids.length : Int) - (n : Int)) % 2 == 0) = false := by simp; omega
    have HKS : Hid (∀ i (h : i < ks.length), ∃ x c, Cells6 w b (o + (n + i) * 6) ks[i] (.slice x ks[i].kids.length c) ∧ Lies w ks[i] (.slice x ks[i].kids.length c)) := Lib.hid (fun i h => by
      obtain ⟨x, c, h3, h4, _⟩ := kid_at HK.out (Below.refl _ _) (show n + i < t.kids.length by omega)
      have e : ks[i] = t.kids[n + i]'(by omega) := by subst hksd; rw [List.getElem_drop]
      rw [e]
      exact ⟨x, c, h3, h4⟩)
    have HMS : Hid (∀ i (h : i < ks.length), (ks[i]).mid.text.size ≤ 1152921504606846976) := Lib.hid (fun i h => by
      have e : ks[i] = t.kids[n + i]'(by omega) := by subst hksd; rw [List.getElem_drop]
      rw [e]; exact HM.out _ _)
    have hkb : ks.length ≤ 2199023255552 := by omega
    have hkn : n + ks.length ≤ t.kids.length := by omega
    have hkm : t.kids.length ≤ n + ks.length := by omega
    have HN0 := Lib.hid (HN0.out)
    clear hr he hp hksd a0 a1 a2 b0 b1 b2 hksl e0 e1 e2 e3 e4 e5
    go_wp2_with fail
    go_loopw [10, 11] (fun ov iv wr => RefOwnAt ks n 1 pr R w0 ov iv wr) (fun _ iv _ => t.kids.length - (intOf iv).toNat)
    case atStart => exact ⟨0, [], rfl, Nat.zero_le _, Nat.le_refl _, World.ownsRow_nil _ _ _ _, Below.refl _ _, by simpa using HR.out.symm⟩
    case round =>
      obtain ⟨i, acc, rfl, hi, hal, hO, hB, hF⟩ := hrel
      have HO := Lib.hid hO
      have HB := Lib.hid hB
      have hst := hB.size
      have HBw := Lib.hid (Below.then HB0.out hB)
      have hst2 := HBw.out.size
      obtain ⟨va, vc, rfl⟩ := hO.shape
      obtain ⟨e0, e1, e2, e3, e4, e5⟩ := HN0.out.below hB
      clear hO hB HR
      by_cases hin : i < ks.length
      · obtain ⟨x, c, hc1, hl1⟩ := HKS.out i hin
        have hms := HMS.out i hin
        have hdrop := List.drop_eq_getElem_cons hin
        rw [hdrop] at hF
        have hc := hc1.below HBw.out
        have HL := Lib.hid (hl1.keep (HBw.out.alloc hst2 (.cells #[.int .i64 ks[i].kind, .int .i64 ks[i].form, .string ks[i].text, .int .i64 ks[i].line, .int .i64 ks[i].col, .slice x ks[i].kids.length c] 32)))
        clear hdrop hc1 hl1
        have HMN := Lib.hid (show n + (i + 1) = n + i + 1 from by omega)
        have t7 : decide (n + i < t.kids.length) = true := by simp; omega
        have hmk : n + i < t.kids.length := by omega
        have t8 : i % 2 = 1 → (((n + i : Nat) : Int) - (n : Int)) % 2 == 1 := by intro h; simp; omega
        have t9 : ¬ i % 2 = 1 → ((((n + i : Nat) : Int) - (n : Int)) % 2 == 1) = false := by intro h; simp; omega
        have hmn : n ≤ n + i := by omega
        generalize n + i = m at *
        generalize ks[i] = k at *
        have a0 := hc.c0; have a1 := hc.c1; have a2 := hc.c2; have a3 := hc.c3; have a4 := hc.c4; have a5 := hc.c5
        have HOn := Lib.hid (HO.out.alloc (.cells #[.int .i64 k.kind, .int .i64 k.form, .string k.text, .int .i64 k.line, .int .i64 k.col, .slice x k.kids.length c] 32))
        have HBn := Lib.hid (HB.out.alloc hst (.cells #[.int .i64 k.kind, .int .i64 k.form, .string k.text, .int .i64 k.line, .int .i64 k.col, .slice x k.kids.length c] 32))
        clear hc
        by_cases hp : i % 2 = 1
        · have t8 := t8 hp
          clear t9
          rw [decide_eq_true hp, ownGo_comma] at hF
          by_cases hk : k.kind = 1 ∧ k.form = 15 ∧ k.text = commaB
          · rw [if_pos hk] at hF
            have q5 : (k.kind != 1) = false := by simp; exact hk.1
            have q6 : (k.form != 15) = false := by simp; exact hk.2.1
            have q7 : (k.text.toList == [44]) = true := by rw [← comma_list]; exact op_eq hk.2.2
            have HF := Lib.hid (show ownGo 1 pr (decide ((i + 1) % 2 = 1)) (ks.drop (i + 1)) acc = R from by rw [decide_eq_false (by omega)]; exact hF)
            clear hk hF hp
            go_wp2_with fail
            go_roundw
            case rel => exact ⟨i + 1, acc, by rw [HMN.out]; go_num, by omega, by omega, HOn.out, HBn.out, HF.out⟩
            case measure => simp [intOf]; omega
          · rw [if_neg hk] at hF
            have HF := Lib.hid hF
            have hq : (k.kind != 1) = true ∨ ((k.kind != 1) = false ∧ (k.form != 15) = true) ∨ ((k.kind != 1) = false ∧ (k.form != 15) = false ∧ (k.text.toList == [44]) = false) := by
              by_cases h1 : k.kind = 1
              · by_cases h2 : k.form = 15
                · exact .inr (.inr ⟨by simp; exact h1, by simp; exact h2, by rw [← comma_list]; exact op_ne (fun h => hk ⟨h1, h2, h⟩)⟩)
                · exact .inr (.inl ⟨by simp; exact h1, by rw [bne_iff_ne]; exact h2⟩)
              · exact .inl (by rw [bne_iff_ne]; exact h1)
            clear hk hF hp
            rcases hq with q5 | ⟨q5, q6⟩ | ⟨q5, q6, q7⟩
            all_goals
              go_wp2_with fail
              go_ret2
              exact (show OwnPost R w _ _ by rw [← HF.out]; exact ⟨rfl, Below.then HB0.out HBn.out⟩)
        · have t9 := t9 hp
          clear t8
          rw [decide_eq_false hp, ownGo_name, nameR_eq] at hF
          have N1 := fun w hl => refOpName_any k (.slice x k.kids.length c) w hms hl
          unfold nodeV at N1
          obtain ⟨⟨s, ok⟩, hnk⟩ : ∃ p, nameR k = p := ⟨_, rfl⟩
          rw [hnk] at hF N1
          unfold nameRV at N1
          cases ok with
          | false =>
            have HF := Lib.hid (show none = R from hF)
            have N1 := Lib.hid N1
            clear hF hnk hp
            go_wp2_with fail
            refine (N1.out _ HL.out).mono ?_
            rintro e w6 ⟨rfl, hb6⟩
            have HB6 := Lib.hid (Below.then HBn.out hb6)
            clear hb6
            go_wp2_with fail
            go_ret2
            exact (show OwnPost R w _ _ by rw [← HF.out]; exact ⟨rfl, Below.then HB0.out HB6.out⟩)
          | true =>
            have HF := Lib.hid (show ownGo 1 pr (decide ((i + 1) % 2 = 1)) (ks.drop (i + 1)) (acc ++ [⟨s, 1, pr⟩]) = R from by rw [decide_eq_true (by omega)]; exact hF)
            have N1 := Lib.hid N1
            clear hF hnk hp
            go_wp2_with fail
            refine (N1.out _ HL.out).mono ?_
            rintro e w6 ⟨rfl, hb6⟩
            have HB6 := Lib.hid (Below.then HBn.out hb6)
            have HO6 := Lib.hid (HOn.out.below hb6)
            clear hb6
            have hs6 := HB6.out.size
            go_wp2_with (at_builtin; refine wpList_append_own _ rfl _ _ 22 rfl w0.heap.size 25 i0 z0 3 32 Tryd.underlying22 hi0 iz0 iz1 iz2 iz3 (by decide) _ _ _ rfl (HO6.out.alloc _) ⟨w6.heap.size, 0, none⟩ 1 1 ([(⟨s, 1, pr⟩ : Fx)].flatMap fxCells) rfl rfl (new_fix _ ⟨s, 1, pr⟩ _ rfl) (fix_one _) (by simp only [maxLen]; omega) (by omega) (by simp; omega) ?_; rintro v' w8 hown' hgrow -; have HOw := Lib.hid hown'; have HGw := Lib.hid hgrow; clear hown' hgrow)
            have HO8 := Lib.hid (OwnsX.more HOw.out rfl)
            have HB8 := Lib.hid ((HB6.out.alloc hs6 _).grown HGw.out (by simp; omega) (fun k hk => (HO6.out.lt k hk).1))
            go_roundw
            case rel => exact ⟨i + 1, acc ++ [⟨s, 1, pr⟩], by rw [HMN.out]; go_num, by omega, by rw [List.length_append]; simp; omega, HO8.out, HB8.out, HF.out⟩
            case measure => simp [intOf]; omega
      · have hi' : i = ks.length := by omega
        subst hi'
        rw [List.drop_length, ownGo_nil] at hF
        have HF := Lib.hid hF
        have t7 : decide (n + ks.length < t.kids.length) = false := by simp; omega
        have HBF := Lib.hid (Below.then HB0.out HB.out)
        have hsw := HB0.out.size
        generalize n + ks.length = m at *
        clear hF hin
        go_wp2_with fail
        go_ret2
        exact (show OwnPost R w _ _ by rw [← HF.out]; exact ⟨_, rfl, HO.out.base hsw, HBF.out⟩)
end Go.Proofs.YtikkdkacflkifaaDoor
