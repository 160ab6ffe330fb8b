/- DERIVED. The walks of Name and row. DERIVED. The walk of row. -/
import Derived.Test.YtikkdkacflkifaaDoorFixB
import Derived.Test.YtikkdkacflkifaaDoorWordE
import Derived.Test.YtikkdkacflkifaaDoorTreeA
set_option linter.unusedSimpArgs false
set_option linter.unusedVariables false
namespace Go.Proofs.YtikkdkacflkifaaDoor
open Go.RowKit

/-- The middle kid. -/
def Tr.mid (t : Tr) : Tr := (t.kids[t.kids.length / 2]?).getD (.mk 0 0 ⟨#[]⟩ 0 0 [])
/-- An operator's name. -/
def nameX (t : Tr) : Option ByteArray :=
  if t.kind = 18 ∧ (t.kids.length = 1 ∨ t.kids.length = 3) ∧ t.mid.kind = 1 then
    match splitW t.mid.text.data.toList with
    | some (_, n) => some (t.mid.text.extract n t.mid.text.size)
    | none => if t.mid.form = 10 ∧ t.mid.text = ⟨#[58]⟩ then some t.mid.text else none
  else none
def nameV : Option ByteArray → Value
  | some s => .tuple #[.string s, .bool true]
  | none => .tuple #[.string ⟨#[]⟩, .bool false]
theorem colon_list : (⟨#[58]⟩ : ByteArray).toList = [58] := by decide +kernel
theorem mid_get (t : Tr) (h : t.kids.length / 2 < t.kids.length) : t.kids[t.kids.length / 2] = t.mid := by
  unfold Tr.mid
  rw [List.getElem?_eq_getElem h]; rfl

set_option maxHeartbeats 4000000 in
theorem opName_any (t : Tr) (kv : Value) (w : World) (hs : t.mid.text.size ≤ 1152921504606846976) (hl : Lies w t kv) (hT : Tabs16 w) :
    Calls Tryd.prog 16 #[nodeV t kv] w fun e w' => e = .returned (nameV (nameX t)) ∧ Below w.heap.size w w' := by
  have hshort := hl.short
  obtain ⟨xa, cap, b, o, K, rfl, hxa, hk⟩ := hl.kidsOf
  have HK := Lib.hid hk
  have HX := Lib.hid hxa
  have HT := Lib.hid hT
  have HN0 := Lib.hid (boxed_new w t (.slice xa t.kids.length cap) _ rfl)
  have HB0 := Lib.hid ((Below.refl w.heap.size w).alloc (Nat.le_refl _) (.cells #[.int .i64 t.kind, .int .i64 t.form, .string t.text, .int .i64 t.line, .int .i64 t.col, .slice xa t.kids.length cap] 32))
  clear hk hl hxa hT
  unfold nodeV
  by_cases h1 : t.kind = 18
  · have t1 : (t.kind != 18) = false := by simp; exact h1
    by_cases h2 : t.kids.length = 1 ∨ t.kids.length = 3
    · have hlt : t.kids.length / 2 < t.kids.length := by omega
      have hpos : 0 < t.kids.length := by omega
      have hx := HX.out hpos
      subst hx
      obtain ⟨x, c, hc', hl, hbl⟩ := kid_at HK.out HB0.out hlt
      have hmg := mid_get t hlt
      rw [hmg] at hc' hl
      have hR : nameX t = if t.mid.kind = 1 then (match splitW t.mid.text.data.toList with | some (_, n) => some (t.mid.text.extract n t.mid.text.size) | none => if t.mid.form = 10 ∧ t.mid.text = ⟨#[58]⟩ then some t.mid.text else none) else none := by
        unfold nameX
        by_cases h3 : t.mid.kind = 1
        · rw [if_pos ⟨h1, h2, h3⟩, if_pos h3]
        · rw [if_neg (fun h => h3 h.2.2), if_neg h3]
      rw [hR]
      have hq : ((t.kids.length : Int) != 1) = false ∨ (((t.kids.length : Int) != 1) = true ∧ ((t.kids.length : Int) != 3) = false) := by
        rcases h2 with h | h
        · left; simp; omega
        · right; refine ⟨?_, ?_⟩ <;> simp <;> omega
      have i0 : (0 : Int) ≤ (t.kids.length : Int) / 2 := by omega
      have i1 : (t.kids.length : Int) / 2 < t.kids.length := by omega
      have c0 := hc'.c0; have c1 := hc'.c1; have c2 := hc'.c2; have c3 := hc'.c3; have c4 := hc'.c4; have c5 := hc'.c5
      obtain ⟨e0, e1, e2, e3, e4, e5⟩ := HN0.out
      clear hR hc' hl hmg h1 h2
      generalize t.mid = m at *
      have HM := Lib.hid (boxed_new (w.alloc (.cells #[.int .i64 t.kind, .int .i64 t.form, .string t.text, .int .i64 t.line, .int .i64 t.col, .slice (some ⟨b, o, none⟩) t.kids.length cap] 32)) m (.slice x m.kids.length c) (w.heap.size + 1) (by simp))
      have HB1' := Lib.hid (HB0.out.alloc (by simp) (.cells #[.int .i64 m.kind, .int .i64 m.form, .string m.text, .int .i64 m.line, .int .i64 m.col, .slice x m.kids.length c] 32))
      have HBB := HB1'
      by_cases h3 : m.kind = 1
      · rw [if_pos h3]
        have t3 : (m.kind != 1) = false := by simp; exact h3
        have S1 := fun w h => split_any m.text w hs h
        cases hsp : splitW m.text.data.toList with
        | some qn =>
          obtain ⟨q, n⟩ := qn
          rw [hsp] at S1
          have S1 := Lib.hid S1
          clear hsp h3
          rcases hq with hq | ⟨hq, hq2⟩
          all_goals
            go_enter Tryd.func16, Tryd.ntmps16
            go_wp2_with fail
            refine (S1.out _ (HT.out.u.below HBB.out)).mono ?_
            rintro e w1 ⟨rfl, hb1⟩
            have HB1 := Lib.hid (HB1'.out.trans (hb1.mono (by simp; omega)))
            clear hb1
            unfold splitV
            go_wp2_with fail
            go_ret2
            exact ⟨rfl, HB1.out⟩
        | none =>
          rw [hsp] at S1
          have S1 := Lib.hid S1
          clear hsp h3
          have hcase : ((m.form == 10) = true ∧ (m.text.toList == [58]) = true ∧ (if m.form = 10 ∧ m.text = ⟨#[58]⟩ then some m.text else none) = some m.text) ∨ ((m.form == 10) = true ∧ (m.text.toList == [58]) = false ∧ (if m.form = 10 ∧ m.text = ⟨#[58]⟩ then some m.text else none) = none) ∨ ((m.form == 10) = false ∧ (if m.form = 10 ∧ m.text = ⟨#[58]⟩ then some m.text else none) = none) := by
            by_cases hf : m.form = 10
            · by_cases ht : m.text = ⟨#[58]⟩
              · exact .inl ⟨by simp; exact hf, by have := op_eq ht; rwa [colon_list] at this, if_pos ⟨hf, ht⟩⟩
              · exact .inr (.inl ⟨by simp; exact hf, by have := op_ne ht; rwa [colon_list] at this, if_neg (fun h => ht h.2)⟩)
            · exact .inr (.inr ⟨by simp; exact hf, if_neg (fun h => hf h.1)⟩)
          dsimp only
          rcases hcase with ⟨f1, f2, hv⟩ | ⟨f1, f2, hv⟩ | ⟨f1, hv⟩
          all_goals
            rw [hv]
            clear hv
            rcases hq with hq | ⟨hq, hq2⟩
            all_goals
              go_enter Tryd.func16, Tryd.ntmps16
              go_wp2_with fail
              refine (S1.out _ (HT.out.u.below HBB.out)).mono ?_
              rintro e w1 ⟨rfl, hb1⟩
              have HB1 := Lib.hid (HB1'.out.trans (hb1.mono (by simp; omega)))
              have hM1 := HM.out.below hb1
              have g1 := hM1.c1
              have g2 := hM1.c2
              clear hb1 hM1
              unfold splitV
              go_wp2_with fail
              go_ret2
              exact ⟨rfl, HB1.out⟩
      · rw [if_neg h3]
        have t3 : (m.kind != 1) = true := by rw [bne_iff_ne]; exact h3
        clear h3
        rcases hq with hq | ⟨hq, hq2⟩
        all_goals
          go_enter Tryd.func16, Tryd.ntmps16
          go_wp2_with fail
          go_ret2
          exact ⟨rfl, HB0.out⟩
    · have hR : nameX t = none := by unfold nameX; rw [if_neg (fun h => h2 h.2.1)]
      rw [hR]
      have n1 : ((t.kids.length : Int) != 1) = true := by rw [bne_iff_ne]; omega
      have n3 : ((t.kids.length : Int) != 3) = true := by rw [bne_iff_ne]; omega
      clear hR h1 h2
      go_enter Tryd.func16, Tryd.ntmps16
      go_wp2_with fail
      go_ret2
      exact ⟨rfl, HB0.out⟩
  · have hR : nameX t = none := by unfold nameX; rw [if_neg (fun h => h1 h.1)]
    rw [hR]
    have t1 : (t.kind != 18) = true := by rw [bne_iff_ne]; exact h1
    clear hR h1
    go_enter Tryd.func16, Tryd.ntmps16
    go_wp2_with fail
    go_ret2
    exact ⟨rfl, HB0.out⟩

/-- Do operands and operators alternate? -/
def rowOk : Bool → List Tr → Bool
  | o, [] => !o
  | true, n :: r => if n.kind = 19 then rowOk true r else if n.kind = 18 then false else rowOk false r
  | false, n :: r => if (nameX n).isSome then rowOk true r else false
end Go.Proofs.YtikkdkacflkifaaDoor

namespace Go.Proofs.YtikkdkacflkifaaDoor
open Go.RowKit

theorem rowOk_m (n : Tr) (r : List Tr) (h : n.kind = 19) : rowOk true (n :: r) = rowOk true r := by rw [rowOk, if_pos h]
theorem rowOk_o (n : Tr) (r : List Tr) (h : n.kind = 18) : rowOk true (n :: r) = false := by rw [rowOk, if_neg (by omega), if_pos h]
theorem rowOk_n (n : Tr) (r : List Tr) (h : ¬ n.kind = 19) (h2 : ¬ n.kind = 18) : rowOk true (n :: r) = rowOk false r := by rw [rowOk, if_neg h, if_neg h2]
theorem rowOk_f (n : Tr) (r : List Tr) : rowOk false (n :: r) = if (nameX n).isSome then rowOk true r else false := by rw [rowOk]
theorem rowOk_e (b : Bool) : rowOk b [] = !b := by cases b <;> rfl

set_option maxRecDepth 20000 in
set_option maxHeartbeats 4000000 in
theorem row_any (t : Tr) (kv : Value) (w : World) (hs : ∀ (i : Nat) (h : i < t.kids.length), (t.kids[i]).mid.text.size ≤ 1152921504606846976) (hl : Lies w t kv) (hT : Tabs16 w) :
    Calls Tryd.prog 34 #[kv] w fun e w' => e = .returned (.bool (rowOk true t.kids)) ∧ Below w.heap.size w w' := by
  have hshort := hl.short
  obtain ⟨xa, cap, b, o, K, rfl, hxa, hk⟩ := hl.kidsOf
  have HK := Lib.hid hk
  have HX := Lib.hid hxa
  have HT := Lib.hid hT
  have HS := Lib.hid hs
  obtain ⟨R, hR⟩ : ∃ R, rowOk true t.kids = R := ⟨_, rfl⟩
  rw [hR]
  have HR := Lib.hid hR
  clear hk hl hxa hT hs hR
  go_enter Tryd.func34, Tryd.ntmps34
  go_wp2_with fail
  go_loopw [3, 10] (fun v a wr => ∃ (i : Nat) (p : Bool), v = .bool p ∧ a = .int .i64 i ∧ i ≤ t.kids.length ∧ Below w.heap.size w wr ∧ rowOk p (t.kids.drop i) = R) (fun _ a _ => t.kids.length - (intOf a).toNat)
  case atStart => exact ⟨0, true, rfl, rfl, by omega, Below.refl _ _, by simpa using HR.out⟩
  case round =>
    obtain ⟨i, p, rfl, rfl, hi, hb, hF⟩ := hrel
    have HB := Lib.hid hb
    have HF := Lib.hid hF
    have hst := hb.size
    clear hF
    by_cases hin : i < t.kids.length
    · have hx := HX.out (by omega)
      subst hx
      obtain ⟨x, c, hc', hl, hbl⟩ := kid_at HK.out hb hin
      have c0 := hc'.c0; have c1 := hc'.c1; have c2 := hc'.c2; have c3 := hc'.c3; have c4 := hc'.c4; have c5 := hc'.c5
      have hms := HS.out i hin
      have HD := Lib.hid (show t.kids.drop i = t.kids[i] :: t.kids.drop (i + 1) from List.drop_eq_getElem_cons hin)
      have HL := Lib.hid hl
      clear hc' hl hb
      generalize hk : t.kids[i] = k at *
      clear hk
      have HMS := Lib.hid hms
      have HBn := Lib.hid (HB.out.alloc hst (.cells #[.int .i64 k.kind, .int .i64 k.form, .string k.text, .int .i64 k.line, .int .i64 k.col, .slice x k.kids.length c] 32))
      have HLn := Lib.hid (HL.out.keep ((Below.refl wr.heap.size wr).alloc (Nat.le_refl _) (.cells #[.int .i64 k.kind, .int .i64 k.form, .string k.text, .int .i64 k.line, .int .i64 k.col, .slice x k.kids.length c] 32)))
      clear hms
      cases p with
      | true =>
        by_cases h19 : k.kind = 19
        · have t1 : (k.kind == 19) = true := by simp; exact h19
          have HR2 := Lib.hid (show rowOk true (t.kids.drop (i + 1)) = R by rw [← HF.out, HD.out, rowOk_m _ _ h19])
          clear h19
          go_wp2_with fail
          go_roundw
          case rel => exact ⟨i + 1, true, rfl, by go_num, by omega, HBn.out, HR2.out⟩
          case measure => simp [intOf]; omega
        · have t1 : (k.kind == 19) = false := by simp; exact h19
          by_cases h18 : k.kind = 18
          · have t2 : (k.kind == 18) = true := by simp; exact h18
            have HR2 := Lib.hid (show R = false by rw [← HF.out, HD.out, rowOk_o _ _ h18])
            clear h19 h18
            go_wp2_with fail
            go_ret
            exact ⟨by rw [HR2.out]; rfl, HBn.out⟩
          · have t2 : (k.kind == 18) = false := by simp; exact h18
            have HR2 := Lib.hid (show rowOk false (t.kids.drop (i + 1)) = R by rw [← HF.out, HD.out, rowOk_n _ _ h19 h18])
            clear h19 h18
            go_wp2_with fail
            go_roundw
            case rel => exact ⟨i + 1, false, rfl, by go_num, by omega, HBn.out, HR2.out⟩
            case measure => simp [intOf]; omega
      | false =>
        go_wp2_with fail
        refine (opName_any k _ _ HMS.out HLn.out (HT.out.below HBn.out)).mono ?_
        cases hnm : nameX k with
        | none =>
          rintro e w1 ⟨rfl, hb1⟩
          have HB1 := Lib.hid (Below.then HBn.out hb1)
          have HR2 := Lib.hid (show R = false by rw [← HF.out, HD.out, rowOk_f, hnm]; rfl)
          clear hb1 hnm
          unfold nameV
          go_wp2_with fail
          go_ret
          exact ⟨by rw [HR2.out]; rfl, HB1.out⟩
        | some nm =>
          rintro e w1 ⟨rfl, hb1⟩
          have HB1 := Lib.hid (Below.then HBn.out hb1)
          have HR2 := Lib.hid (show rowOk true (t.kids.drop (i + 1)) = R by rw [← HF.out, HD.out, rowOk_f, hnm]; rfl)
          clear hb1 hnm
          unfold nameV
          go_wp2_with fail
          go_roundw
          case rel => exact ⟨i + 1, true, rfl, by go_num, by omega, HB1.out, HR2.out⟩
          case measure => simp [intOf]; omega
    · have hi' : i = t.kids.length := by omega
      subst hi'
      have t3 : decide ((t.kids.length : Int) < t.kids.length) = false := by simp
      have HR2 := Lib.hid (show R = !p by rw [← HF.out, List.drop_length, rowOk_e])
      clear hb
      go_wp2_with fail
      go_ret
      exact ⟨by rw [HR2.out]; rfl, HB.out⟩
end Go.Proofs.YtikkdkacflkifaaDoor

