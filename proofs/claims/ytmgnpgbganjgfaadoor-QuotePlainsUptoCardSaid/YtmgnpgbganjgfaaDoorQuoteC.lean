/- DERIVED. The walk of number. -/
import Derived.Test.YtmgnpgbganjgfaaDoorQuoteB
import Derived.Test.YtmgnpgbganjgfaaDoorRun
import Derived.Test.YtmgnpgbganjgfaaDoorDigit
set_option linter.unusedSimpArgs false
set_option linter.unusedVariables false
namespace Go.Proofs.YtmgnpgbganjgfaaDoor
open Go.RowKit

theorem dig_high (c base : Int) (h : 128 ≤ c) : dig c base = -1 := by
  by_cases h0 : base < 2 ∨ base > 16 ∨ digV c ≥ base
  · exact dig_no c base h0
  · rw [dig_yes c base (by omega) (by omega) (by omega), digV3 (by omega)]
theorem dig_dec (l : List UInt8) (base : Int) : dig (dec l).1 base = dig (l.getD 0 0).toNat base ∧ (0 ≤ dig (dec l).1 base → (dec l).2 = 1) := by
  by_cases h : (l.getD 0 0).toNat < 128
  · rw [dec_ascii l h]
    exact ⟨rfl, fun _ => rfl⟩
  · have hc : 128 ≤ (dec l).1 := by
      by_cases h2 : (dec l).1 < 128
      · have := (dec_small l h2).1; omega
      · omega
    rw [dig_high _ base (by omega), dig_high _ base (by omega)]
    exact ⟨rfl, fun h => by omega⟩
/-- What number gives back. -/
def numV3 (base : Int) (l : List UInt8) : Value :=
  .tuple #[.int .i64 (valP base (l.takeWhile (digB base))), .int .i64 ((l.takeWhile (digB base)).length : Int), .bool (decide (l.takeWhile (digB base) ≠ []) && decide (valP base (l.takeWhile (digB base)) ≤ 1114111))]
theorem tw_at (p : UInt8 → Bool) (l : List UInt8) (i : Nat) (hi : i ≤ l.length) (h1 : ∀ b ∈ l.take i, p b = true) (h2 : ∀ b, l[i]? = some b → p b = false) : l.takeWhile p = l.take i := by
  conv => lhs; rw [← List.take_append_drop i l]
  exact tw_app p (l.take i) (l.drop i) h1 (fun b hb => h2 b (by rw [List.head?_drop] at hb; exact hb))
where
  tw_app (p : UInt8 → Bool) (x y : List UInt8) (h1 : ∀ b ∈ x, p b = true) (h2 : ∀ b, y.head? = some b → p b = false) : (x ++ y).takeWhile p = x := by
    induction x with
    | nil =>
      cases y with
      | nil => rfl
      | cons a y => rw [List.nil_append, List.takeWhile_cons, if_neg (by rw [h2 a rfl]; simp)]
    | cons a x ih => rw [List.cons_append, List.takeWhile_cons, if_pos (h1 a List.mem_cons_self), ih fun b hb => h1 b (List.mem_cons_of_mem _ hb)]
theorem valP_take (base : Int) (l : List UInt8) (i : Nat) (h : i < l.length) : valP base (l.take (i + 1)) = min (valP base (l.take i) * base + dig (l[i]).toNat base) 1114112 := by
  unfold valP
  rw [List.take_succ_eq_append_getElem h, List.foldl_append]
  rfl
theorem valP_bd (base : Int) (hb : 0 ≤ base) (l : List UInt8) (h : ∀ b ∈ l, digB base b = true) : 0 ≤ valP base l ∧ valP base l ≤ 1114112 := by
  unfold valP
  have key : ∀ v : Int, 0 ≤ v → v ≤ 1114112 → 0 ≤ l.foldl (numV base) v ∧ l.foldl (numV base) v ≤ 1114112 := by
    induction l with
    | nil => intro v h1 h2; exact ⟨h1, h2⟩
    | cons a t ih =>
      intro v h1 h2
      rw [List.foldl_cons]
      have hd : 0 ≤ dig a.toNat base := of_decide_eq_true (h a List.mem_cons_self)
      have hm : 0 ≤ v * base := Int.mul_nonneg h1 hb
      refine ih (fun b hb => h b (List.mem_cons_of_mem _ hb)) _ ?_ ?_
      · unfold numV; omega
      · unfold numV; omega
  exact key 0 (by omega) (by omega)
theorem numV3_at (base : Int) (l : List UInt8) (pos : Nat) (x : Int) (hi : pos ≤ l.length) (h1 : ∀ b ∈ l.take pos, digB base b = true) (h2 : ∀ b, l[pos]? = some b → digB base b = false) (hx : x = valP base (l.take pos)) :
    numV3 base l = .tuple #[.int .i64 x, .int .i64 (pos : Int), .bool (decide ((0 : Int) < pos) && decide (x ≤ 1114111))] := by
  unfold numV3
  rw [tw_at _ l pos hi h1 h2, ← hx]
  have e : (l.take pos).length = pos := by rw [List.length_take]; omega
  rw [e]
  have e2 : decide (l.take pos ≠ []) = decide ((0 : Int) < pos) := by
    rw [decide_eq_decide]
    constructor
    · intro h
      have := List.length_pos_iff.2 h
      omega
    · intro h h0
      rw [h0] at e
      simp at e
      omega
  rw [e2]
set_option maxHeartbeats 2000000 in
theorem number_any (s : ByteArray) (base : Int) (w : World) (hs : s.size ≤ 16777216) (hb0 : 2 ≤ base ∧ base ≤ 16) :
    Calls Tryd.prog 71 #[.string s, .int .i64 base] w fun e w' => e = .returned (numV3 base s.data.toList) ∧ Below w.heap.size w w' := by
  have hd : ∀ pos, Utf8.decode s pos = dec (s.data.toList.drop pos) := fun pos => decode_eq _ _
  have HD := Lib.hid hd
  obtain ⟨R, hR⟩ : ∃ R, numV3 base s.data.toList = R := ⟨_, rfl⟩
  rw [hR]
  have HR := Lib.hid hR
  clear hd hR
  have HLS := Lib.hid (Lib.size_eq s)
  go_enter Tryd.func71, Tryd.ntmps71
  go_wp2_with fail
  go_loopw [4, 5] (fun v n wr => ∃ (pos : Nat) (x : Int), Iter w s pos wr ∧ x = valP base (s.data.toList.take pos) ∧ v = .int .i64 x ∧ n = .int .i64 (pos : Int) ∧ pos ≤ s.size ∧ ∀ b ∈ s.data.toList.take pos, digB base b = true) (fun _ _ wr => s.size - wr.iterPos w.heap.size)
  case atStart => exact ⟨0, 0, Iter.start _ _, rfl, rfl, rfl, Nat.zero_le _, by simp⟩
  case round =>
    obtain ⟨pos, x, hI, hx, rfl, rfl, hps, hall⟩ := hrel
    have hp' := iterPos_at hI
    have HP := Lib.hid hp'
    have hxb := valP_bd base (by omega) _ hall
    rw [← hx] at hxb
    have HX := Lib.hid hx
    have HA := Lib.hid hall
    clear hp' hx hall
    by_cases hp : pos < s.size
    · have hpl : pos < s.data.toList.length := by rw [← Lib.size_eq]; exact hp
      have hnx : ∀ ty, (Instr.next (.pointer (some ⟨w.heap.size, 0, none⟩)) true ty).run Tryd.prog wr = _ := fun ty => Lib.run_next_any_at wr w.heap.size s pos ty hI.1 hp
      rw [HD.out] at hnx
      have hdl := dec_len _ (drop_ne hpl)
      have hI2 := hI.next (pos + (dec (s.data.toList.drop pos)).2)
      obtain ⟨e1, e2⟩ := dig_dec (s.data.toList.drop pos) base
      have eg : (s.data.toList.drop pos).getD 0 0 = s.data.toList[pos] := by rw [getD_drop, Nat.add_zero, List.getD_eq_getElem?_getD, List.getElem?_eq_getElem hpl]; rfl
      rw [eg] at e1
      have hvt := valP_take base s.data.toList pos hpl
      rw [← HX.out, ← e1] at hvt
      have D1 := Lib.hid fun w => digit_any (dec (s.data.toList.drop pos)).1 base w
      have HVT := Lib.hid hvt
      have HE1 := Lib.hid e1
      have hmb : 0 ≤ x * base ∧ x * base ≤ 17825792 := by
        refine ⟨Int.mul_nonneg hxb.1 (by omega), ?_⟩
        have := Int.mul_le_mul hxb.2 hb0.2 (by omega) (by omega)
        omega
      by_cases hdg : 0 ≤ dig (dec (s.data.toList.drop pos)).1 base
      · have hd2 := e2 hdg
        rw [hd2] at hI2 hnx
        have hd16 : dig (dec (s.data.toList.drop pos)).1 base < 16 := by
          by_cases h0 : base < 2 ∨ base > 16 ∨ digV (dec (s.data.toList.drop pos)).1 ≥ base
          · rw [dig_no _ base h0]; omega
          · rw [dig_yes _ base (by omega) (by omega) (by omega)]; omega
        have HDG := Lib.hid (show digB base s.data.toList[pos] = true from by unfold digB; rw [← HE1.out]; exact decide_eq_true hdg)
        have hq : decide (dig (dec (s.data.toList.drop pos)).1 base < 0) = false := by simp; omega
        have HI2 := Lib.hid hI2
        clear hvt e1 e2 hd2 hdl eg hI2
        generalize (dec (s.data.toList.drop pos)).1 = c at *
        generalize dig c base = dg at *
        generalize hxm : x * base = xm at *
        have HXM := Lib.hid hxm
        go_wp2_with fail
        refine (D1.out _).mono ?_
        rintro e w1 ⟨rfl, rfl⟩
        go_wp2_with fail
        go_roundw
        case rel =>
          refine ⟨pos + 1, _, HI2.out, HVT.out.symm, rfl, by go_num, by omega, ?_⟩
          intro b hb
          rw [List.take_succ_eq_append_getElem hpl] at hb
          rcases List.mem_append.1 hb with hb | hb
          · exact HA.out b hb
          · rw [List.mem_singleton.1 hb]; exact HDG.out
        case measure =>
          rw [HP.out, iterPos_at HI2.out]
          omega
      · have hq : decide (dig (dec (s.data.toList.drop pos)).1 base < 0) = true := by simp; omega
        have hst : ∀ b, s.data.toList[pos]? = some b → digB base b = false := by
          intro b hb
          rw [List.getElem?_eq_getElem hpl] at hb
          injection hb with hb
          unfold digB
          rw [← hb, ← e1]
          exact decide_eq_false hdg
        have hfin := numV3_at base s.data.toList pos x (by omega) HA.out hst HX.out
        rw [HR.out] at hfin
        have HF := Lib.hid hfin
        have HI2 := Lib.hid hI2.2
        clear hvt e1 e2 hdl eg hI2 hst hfin hdg
        generalize dec (s.data.toList.drop pos) = cn at *
        obtain ⟨c, n⟩ := cn
        simp only at *
        generalize dig c base = dg at *
        by_cases hp0 : 0 < pos
        · have t1 : decide ((0 : Int) < pos) = true := by simp; omega
          go_wp2_with fail
          refine (D1.out _).mono ?_
          rintro e w1 ⟨rfl, rfl⟩
          go_wp2_with fail
          go_ret3
          exact ⟨by rw [HF.out, t1]; rfl, HI2.out⟩
        · have t1 : decide ((0 : Int) < pos) = false := by simp; omega
          go_wp2_with fail
          refine (D1.out _).mono ?_
          rintro e w1 ⟨rfl, rfl⟩
          go_wp2_with fail
          go_ret3
          exact ⟨by rw [HF.out, t1]; rfl, HI2.out⟩
    · have hpe : pos = s.size := by omega
      have hfin := numV3_at base s.data.toList pos x (by rw [← Lib.size_eq]; omega) HA.out (fun b hb => by rw [List.getElem?_eq_none (by rw [← Lib.size_eq]; omega)] at hb; cases hb) HX.out
      rw [HR.out] at hfin
      have HF := Lib.hid hfin
      have hnx : ∀ ty, (Instr.next (.pointer (some ⟨w.heap.size, 0, none⟩)) true ty).run Tryd.prog wr = _ := fun ty => Lib.run_next_end_at wr w.heap.size s pos ty hI.1 hp
      have HI2 := Lib.hid hI.2
      clear hfin hpe hI
      by_cases hp0 : 0 < pos
      · have t1 : decide ((0 : Int) < pos) = true := by simp; omega
        go_wp2_with fail
        go_ret3
        exact ⟨by rw [HF.out, t1]; rfl, HI2.out⟩
      · have t1 : decide ((0 : Int) < pos) = false := by simp; omega
        go_wp2_with fail
        go_ret3
        exact ⟨by rw [HF.out, t1]; rfl, HI2.out⟩
end Go.Proofs.YtmgnpgbganjgfaaDoor
