/- DERIVED. The walk of row. -/
import Derived.Test.YtikkdkacflkifaaDoorFixC
set_option linter.unusedSimpArgs false
set_option linter.unusedVariables false
namespace Go.Proofs.YtikkdkacflkifaaDoor
open Go.RowKit

theorem rowOk_m (n : Tr) (r : List Tr) (h : n.kind = 19) : rowOk true (n :: r) = rowOk true r := by rw [rowOk, if_pos h]
theorem rowOk_o (n : Tr) (r : List Tr) (h : n.kind = 18) : rowOk true (n :: r) = false := by rw [rowOk, if_neg (by omega), if_pos h]
theorem rowOk_n (n : Tr) (r : List Tr) (h : ¬ n.kind = 19) (h2 : ¬ n.kind = 18) : rowOk true (n :: r) = rowOk false r := by rw [rowOk, if_neg h, if_neg h2]
theorem rowOk_f (n : Tr) (r : List Tr) : rowOk false (n :: r) = if (nameX n).isSome then rowOk true r else false := by rw [rowOk]
theorem rowOk_e (b : Bool) : rowOk b [] = !b := by cases b <;> rfl

set_option maxRecDepth 20000 in
set_option maxHeartbeats 4000000 in
theorem row_any (t : Tr) (kv : Value) (w : World) (hs : ∀ (i : Nat) (h : i < t.kids.length), (t.kids[i]).mid.text.size ≤ 1152921504606846976) (hl : Lies w t kv) (hT : Tabs16 w) :
    Calls Tryd.prog 34 #[kv] w fun e w' => e = .returned (.bool (rowOk true t.kids)) ∧ Below w.heap.size w w' := by
  have hshort := hl.short
  obtain ⟨xa, cap, b, o, K, rfl, hxa, hk⟩ := hl.kidsOf
  have HK := Lib.hid hk
  have HX := Lib.hid hxa
  have HT := Lib.hid hT
  have HS := Lib.hid hs
  obtain ⟨R, hR⟩ : ∃ R, rowOk true t.kids = R := ⟨_, rfl⟩
  rw [hR]
  have HR := Lib.hid hR
  clear hk hl hxa hT hs hR
  go_enter Tryd.func34, Tryd.ntmps34
  go_wp2_with fail
  go_loopw [3, 10] (fun v a wr => ∃ (i : Nat) (p : Bool), v = .bool p ∧ a = .int .i64 i ∧ i ≤ t.kids.length ∧ Below w.heap.size w wr ∧ rowOk p (t.kids.drop i) = R) (fun _ a _ => t.kids.length - (intOf a).toNat)
  case atStart => exact ⟨0, true, rfl, rfl, by omega, Below.refl _ _, by simpa using HR.out⟩
  case round =>
    obtain ⟨i, p, rfl, rfl, hi, hb, hF⟩ := hrel
    have HB := Lib.hid hb
    have HF := Lib.hid hF
    have hst := hb.size
    clear hF
    by_cases hin : i < t.kids.length
    · have hx := HX.out (by omega)
      subst hx
      obtain ⟨x, c, hc', hl, hbl⟩ := kid_at HK.out hb hin
      have c0 := hc'.c0; have c1 := hc'.c1; have c2 := hc'.c2; have c3 := hc'.c3; have c4 := hc'.c4; have c5 := hc'.c5
      have hms := HS.out i hin
      have HD := Lib.hid (show t.kids.drop i = t.kids[i] :: t.kids.drop (i + 1) from List.drop_eq_getElem_cons hin)
      have HL := Lib.hid hl
      clear hc' hl hb
      generalize hk : t.kids[i] = k at *
      clear hk
      have HMS := Lib.hid hms
      have HBn := Lib.hid (HB.out.alloc hst (.cells #[.int .i64 k.kind, .int .i64 k.form, .string k.text, .int .i64 k.line, .int .i64 k.col, .slice x k.kids.length c] 32))
      have HLn := Lib.hid (HL.out.keep ((Below.refl wr.heap.size wr).alloc (Nat.le_refl _) (.cells #[.int .i64 k.kind, .int .i64 k.form, .string k.text, .int .i64 k.line, .int .i64 k.col, .slice x k.kids.length c] 32)))
      clear hms
      cases p with
      | true =>
        by_cases h19 : k.kind = 19
        · have t1 : (k.kind == 19) = true := by simp; exact h19
          have HR2 := Lib.hid (show rowOk true (t.kids.drop (i + 1)) = R by rw [← HF.out, HD.out, rowOk_m _ _ h19])
          clear h19
          go_wp2_with fail
          go_roundw
          case rel => exact ⟨i + 1, true, rfl, by go_num, by omega, HBn.out, HR2.out⟩
          case measure => simp [intOf]; omega
        · have t1 : (k.kind == 19) = false := by simp; exact h19
          by_cases h18 : k.kind = 18
          · have t2 : (k.kind == 18) = true := by simp; exact h18
            have HR2 := Lib.hid (show R = false by rw [← HF.out, HD.out, rowOk_o _ _ h18])
            clear h19 h18
            go_wp2_with fail
            go_ret
            exact ⟨by rw [HR2.out]; rfl, HBn.out⟩
          · have t2 : (k.kind == 18) = false := by simp; exact h18
            have HR2 := Lib.hid (show rowOk false (t.kids.drop (i + 1)) = R by rw [← HF.out, HD.out, rowOk_n _ _ h19 h18])
            clear h19 h18
            go_wp2_with fail
            go_roundw
            case rel => exact ⟨i + 1, false, rfl, by go_num, by omega, HBn.out, HR2.out⟩
            case measure => simp [intOf]; omega
      | false =>
        go_wp2_with fail
        refine (opName_any k _ _ HMS.out HLn.out (HT.out.below HBn.out)).mono ?_
        cases hnm : nameX k with
        | none =>
          rintro e w1 ⟨rfl, hb1⟩
          have HB1 := Lib.hid (Below.then HBn.out hb1)
          have HR2 := Lib.hid (show R = false by rw [← HF.out, HD.out, rowOk_f, hnm]; rfl)
          clear hb1 hnm
          unfold nameV
          go_wp2_with fail
          go_ret
          exact ⟨by rw [HR2.out]; rfl, HB1.out⟩
        | some nm =>
          rintro e w1 ⟨rfl, hb1⟩
          have HB1 := Lib.hid (Below.then HBn.out hb1)
          have HR2 := Lib.hid (show rowOk true (t.kids.drop (i + 1)) = R by rw [← HF.out, HD.out, rowOk_f, hnm]; rfl)
          clear hb1 hnm
          unfold nameV
          go_wp2_with fail
          go_roundw
          case rel => exact ⟨i + 1, true, rfl, by go_num, by omega, HB1.out, HR2.out⟩
          case measure => simp [intOf]; omega
    · have hi' : i = t.kids.length := by omega
      subst hi'
      have t3 : decide ((t.kids.length : Int) < t.kids.length) = false := by simp
      have HR2 := Lib.hid (show R = !p by rw [← HF.out, List.drop_length, rowOk_e])
      clear hb
      go_wp2_with fail
      go_ret
      exact ⟨by rw [HR2.out]; rfl, HB.out⟩
end Go.Proofs.YtikkdkacflkifaaDoor
