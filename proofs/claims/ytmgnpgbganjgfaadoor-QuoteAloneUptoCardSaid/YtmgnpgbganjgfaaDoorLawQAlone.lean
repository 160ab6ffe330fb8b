/-
The law QuoteAlone returns true for every text of the form's bulk and every number: what is found as a literal in a text is one by itself, of that kind; one character, if it is a character's.
-/
import Derived.Test.YtmgnpgbganjgfaaDoorFrame
import Derived.Test.YtmgnpgbganjgfaaDoorL05Awake
import Derived.Test.YtmgnpgbganjgfaaDoorL05Laid
set_option linter.unusedSimpArgs false
set_option linter.unusedVariables false
namespace Go.Proofs.YtmgnpgbganjgfaaDoor.quoteAlone
open Go.ChangeShapes Go.WideShapes Go.ChangeAt Go.RowKit

theorem readP_kind (l : List UInt8) (i : Int) : (readP l i).1 = 0 ∨ (readP l i).1 = 13 ∨ (readP l i).1 = 14 := by
  unfold readP
  split
  · exact .inr (.inr rfl)
  · split
    · exact .inr (.inl rfl)
    · exact .inl rfl
set_option maxRecDepth 20000 in
set_option maxHeartbeats 4000000 in
theorem walk (s : ByteArray) (i : Int) (w : World) (hs : s.size ≤ 1048576) (hT : Tabs5 w) :
    Calls Tryd.prog 7 #[.string s, .int .i64 i] w fun e w' => e = .returned (.bool true) ∧ Below w.heap.size w w' := by
  have c1 := fun w hT => quoteScan_any s i w (by omega) hT
  have HT := Lib.hid hT
  clear hT
  have hk3 := readP_kind s.data.toList i
  by_cases he : (readP s.data.toList i).2.e = 0
  · by_cases hk : (readP s.data.toList i).1 = 0
    · generalize readP s.data.toList i = R at *
      obtain ⟨k, x, t, out, gaps⟩ := R
      simp only at he hk
      subst he hk
      unfold scanV5 at c1
      simp only [if_pos] at c1
      have C1 := Lib.hid c1
      clear c1 hk3
      go_enter Tryd.func7, Tryd.ntmps7
      go_wp2_with fail
      refine (awake_any _ HT.out).mono ?_
      rintro e w1 ⟨rfl, hb1⟩
      have HB1 := Lib.hid (hb1)
      have HT1 := Lib.hid (HT.out.below hb1)
      clear hb1
      go_wp2_with fail
      refine (C1.out _ HT1.out).mono ?_
      rintro e w2 ⟨rfl, hb2⟩
      have HB2 := Lib.hid (Below.then HB1.out hb2)
      clear hb2
      go_wp2_with fail
      go_ret
      exact ⟨by first | rfl | simp, HB2.out⟩
    · obtain ⟨a, e, rfl, he2, hae, hel, hw, hk2, ht2, he3, hone⟩ := alone_plain s.data.toList i he hk
      rw [← Lib.size_eq] at hel
      have hcs : (s.extract a e).size = e - a := by simp only [ByteArray.size_extract]; omega
      have hcd : (s.extract a e).data.toList = (s.data.toList.take e).drop a := ext_list s a e
      have c2 := fun w hT => runes_any (s.extract a e) w (by omega) hT
      have c3 := fun w hT => quoteScan_any (s.extract a e) 0 w (by omega) hT
      unfold RunesPost at c2
      rw [hcd] at c2 c3
      rw [hw] at c2
      generalize readP ((s.data.toList.take e).drop a) 0 = R2 at *
      generalize readP s.data.toList a = R at *
      obtain ⟨k2, x2, t2, out2, gaps2⟩ := R2
      obtain ⟨k, x, t, out, gaps⟩ := R
      simp only at he hk he2 hk2 ht2 he3 hone hk3
      have he2 := he2.symm; have hk2 := hk2.symm
      subst he he2 hk2 ht2 he3
      unfold scanV5 at c1 c3
      simp only [if_pos] at c1 c3
      have t0 : ((k : Int) == 0) = false := beq_eq_false_iff_ne.2 (by omega)
      have t0b : (k == 0) = false := beq_eq_false_iff_ne.2 hk
      have t1 : decide ((a : Int) < 0) = false := by simp
      have t2 : decide (e ≤ a) = false := by simp; omega
      have t3 : decide (s.size < e) = false := by simp; omega
      have b1 : (a : Int) ≤ e := by omega
      have b2 : (e : Int) ≤ s.size := by omega
      have u1 : ((k : Int) == (k : Int)) = true := by simp
      have u3 : (((e - a : Nat) : Int) == (e : Int) - a) = true := by simp; omega
      have C1 := Lib.hid c1; have C2 := Lib.hid c2; have C3 := Lib.hid c3
      clear c1 c2 c3 hcd hw
      rcases (show k = 13 ∨ k = 14 from by omega) with rfl | rfl
      · have ho := hone rfl
        have u4 : ((out2.length : Int) == 1) = true := by rw [ho]; rfl
        go_enter Tryd.func7, Tryd.ntmps7
        go_wp2_with fail
        refine (awake_any _ HT.out).mono ?_
        rintro e w1 ⟨rfl, hb1⟩
        have HB1 := Lib.hid (hb1)
        have HT1 := Lib.hid (HT.out.below hb1)
        clear hb1
        go_wp2_with fail
        refine (C1.out _ HT1.out).mono ?_
        rintro e w2 ⟨rfl, hb2⟩
        have HB2 := Lib.hid (Below.then HB1.out hb2)
        have HT2 := Lib.hid (HT1.out.below hb2)
        clear hb2
        go_wp2_with fail
        refine (C2.out _ HT2.out).mono ?_
        rintro e w3 ⟨hb3, ⟨_, v, rfl, ho3⟩ | ⟨h0, _⟩⟩
        rotate_left
        · exact absurd rfl h0
        obtain ⟨hi3, hf3⟩ := ints_own ho3
        obtain ⟨va, vc, rfl, _⟩ := hi3
        have HB3 := Lib.hid (Below.then HB2.out hb3); have HT3 := Lib.hid (HT2.out.below hb3)
        clear hb3 ho3 hf3
        go_wp2_with fail
        refine (C3.out _ HT3.out).mono ?_
        rintro e w4 ⟨rfl, hb4⟩
        have HB4 := Lib.hid (Below.then HB3.out hb4)
        clear hb4
        go_wp2_with fail
        go_ret
        exact ⟨by first | rfl | simp, HB4.out⟩
      · have u4 : ((out2.length : Int) == 1) = ((out2.length : Int) == 1) := rfl
        go_enter Tryd.func7, Tryd.ntmps7
        go_wp2_with fail
        refine (awake_any _ HT.out).mono ?_
        rintro e w1 ⟨rfl, hb1⟩
        have HB1 := Lib.hid (hb1)
        have HT1 := Lib.hid (HT.out.below hb1)
        clear hb1
        go_wp2_with fail
        refine (C1.out _ HT1.out).mono ?_
        rintro e w2 ⟨rfl, hb2⟩
        have HB2 := Lib.hid (Below.then HB1.out hb2)
        have HT2 := Lib.hid (HT1.out.below hb2)
        clear hb2
        go_wp2_with fail
        refine (C2.out _ HT2.out).mono ?_
        rintro e w3 ⟨hb3, ⟨_, v, rfl, ho3⟩ | ⟨h0, _⟩⟩
        rotate_left
        · exact absurd rfl h0
        obtain ⟨hi3, hf3⟩ := ints_own ho3
        obtain ⟨va, vc, rfl, _⟩ := hi3
        have HB3 := Lib.hid (Below.then HB2.out hb3); have HT3 := Lib.hid (HT2.out.below hb3)
        clear hb3 ho3 hf3
        go_wp2_with fail
        refine (C3.out _ HT3.out).mono ?_
        rintro e w4 ⟨rfl, hb4⟩
        have HB4 := Lib.hid (Below.then HB3.out hb4)
        clear hb4
        go_wp2_with fail
        go_ret
        exact ⟨by first | rfl | simp, HB4.out⟩
  · generalize readP s.data.toList i = R at *
    obtain ⟨k, x, t, out, gaps⟩ := R
    simp only at he
    unfold scanV5 at c1
    simp only [if_neg he] at c1
    have g3 : (x == 0) = false := beq_eq_false_iff_ne.2 he
    have g4 : (x != 0) = true := by rw [bne_iff_ne]; exact he
    have C1 := Lib.hid c1
    clear c1 hk3
    go_enter Tryd.func7, Tryd.ntmps7
    go_wp2_with fail
    refine (awake_any _ HT.out).mono ?_
    rintro e w1 ⟨rfl, hb1⟩
    have HB1 := Lib.hid (hb1)
    have HT1 := Lib.hid (HT.out.below hb1)
    clear hb1
    go_wp2_with fail
    refine (C1.out _ HT1.out).mono ?_
    rintro e w2 ⟨rfl, hb2⟩
    have HB2 := Lib.hid (Below.then HB1.out hb2)
    clear hb2
    go_wp2_with fail
    go_ret
    exact ⟨by first | rfl | simp, HB2.out⟩

set_option maxRecDepth 100000 in
theorem contract (H : Type) (enc : TypeId × Value → H) (W : World) (base : Nat) (args : Array Value) (ds gs : List (DataW H)) (before : List MemPlace)
    (hval : ∀ (j : Nat) t v, Tryd.f7.params[j]? = some t → args[j]? = some v → Value.okWide Tryd.prog W .any base t v)
    (hW : DataW.Whole enc Tryd.prog Tryd.f7.params.toList Rows.quoteAloneSpec.vars false W args.toList ds gs before)
    (hsz0 : (DataW.weightsEach Tryd.prog (Tryd.f7.params.toList ++ (Rows.OpenSpec.upto Rows.quoteAloneSpec).bare.plain.varTypes Tryd.prog) (ds ++ gs)).all (· ≤ reachBytes) = true)
    (hbulk : Rows.uptoSmall H (ds ++ gs) = true)
    (hL : laidMetH Tryd.prog Rows.quoteAloneUptoRow.laid W) :
    Calls Tryd.prog 7 args W fun e W' => ∃ v, e = .returned v ∧ Rows.quoteAloneSpec.post enc Tryd.prog Tryd.f7 false true false false W args v W' := by
  have hW' := hW
  obtain ⟨p, q, hA0, hV, rfl, hfz, hnd⟩ := hW
  have hlt : ∀ x ∈ p, x.block < W.heap.size := fun x hx => hW'.lt x (List.mem_append_left _ hx)
  have hA : DataW.TrodAll enc Tryd.prog W 0 (fun _ => true) true Tryd.f7.params.toList args.toList ds p := hA0
  have hsz : (DataW.weightsEach Tryd.prog (Tryd.f7.params.toList ++ []) (ds ++ gs)).all (· ≤ reachBytes) = true := hsz0
  rw [Tryd.params7] at hA hval hsz
  have hA1 := hA
  obtain ⟨v0, vs0, d0, ds0, p0, q0, hargs, rfl, rfl, h0, r0⟩ := trodAll_cons hA
  obtain ⟨v1, vs1, d1, ds1, p1, q1, rfl, rfl, rfl, h1, r1⟩ := trodAll_cons r0
  obtain ⟨rfl, rfl, rfl⟩ := trodAll_nil r1
  obtain rfl : args = #[v0, v1] := by cases args; simp_all
  obtain ⟨rfl, rfl⟩ := trodVars_none hV
  clear hA0 hsz0
  obtain ⟨s, rfl, rfl, rfl, wf0⟩ := ChangeMaps.open_string Tryd.underlying9 (hval 0 9 v0 rfl rfl) h0
  obtain ⟨i, rfl, rfl, rfl, wf1⟩ := open_int Tryd.underlying3 (hval 1 3 v1 rfl rfl) h1
  have z0 := sized_string hsz (j := 0) (t := 9) rfl rfl
  rw [← Lib.size_eq] at z0
  simp only [reachBytes] at z0
  have zb := of_decide_eq_true hbulk
  simp only [List.append_nil, Rows.uptoBulkAll, Rows.uptoBulk, ← Lib.size_eq] at zb
  simp only [List.append_nil] at hW'
  rw [MakeChecks.laidMetH_plain _ _ _ (by kernel_rfl)] at hL
  have hT : Tabs5 W := tabs5_of hL (by first | exact .head _ | exact .tail _ (.head _) | exact .tail _ (.tail _ (.head _)) | exact .tail _ (.tail _ (.tail _ (.head _))) | exact .tail _ (.tail _ (.tail _ (.tail _ (.head _)))) | exact .tail _ (.tail _ (.tail _ (.tail _ (.tail _ (.head _))))) | exact .tail _ (.tail _ (.tail _ (.tail _ (.tail _ (.tail _ (.head _)))))) | exact .tail _ (.tail _ (.tail _ (.tail _ (.tail _ (.tail _ (.tail _ (.head _))))))) | exact .tail _ (.tail _ (.tail _ (.tail _ (.tail _ (.tail _ (.tail _ (.tail _ (.head _)))))))) | simp [Rows.quoteAloneUptoRow]) (by first | exact .head _ | exact .tail _ (.head _) | exact .tail _ (.tail _ (.head _)) | exact .tail _ (.tail _ (.tail _ (.head _))) | exact .tail _ (.tail _ (.tail _ (.tail _ (.head _)))) | exact .tail _ (.tail _ (.tail _ (.tail _ (.tail _ (.head _))))) | exact .tail _ (.tail _ (.tail _ (.tail _ (.tail _ (.tail _ (.head _)))))) | exact .tail _ (.tail _ (.tail _ (.tail _ (.tail _ (.tail _ (.tail _ (.head _))))))) | exact .tail _ (.tail _ (.tail _ (.tail _ (.tail _ (.tail _ (.tail _ (.tail _ (.head _)))))))) | simp [Rows.quoteAloneUptoRow]) (by first | exact .head _ | exact .tail _ (.head _) | exact .tail _ (.tail _ (.head _)) | exact .tail _ (.tail _ (.tail _ (.head _))) | exact .tail _ (.tail _ (.tail _ (.tail _ (.head _)))) | exact .tail _ (.tail _ (.tail _ (.tail _ (.tail _ (.head _))))) | exact .tail _ (.tail _ (.tail _ (.tail _ (.tail _ (.tail _ (.head _)))))) | exact .tail _ (.tail _ (.tail _ (.tail _ (.tail _ (.tail _ (.tail _ (.head _))))))) | exact .tail _ (.tail _ (.tail _ (.tail _ (.tail _ (.tail _ (.tail _ (.tail _ (.head _)))))))) | simp [Rows.quoteAloneUptoRow]) (by first | exact .head _ | exact .tail _ (.head _) | exact .tail _ (.tail _ (.head _)) | exact .tail _ (.tail _ (.tail _ (.head _))) | exact .tail _ (.tail _ (.tail _ (.tail _ (.head _)))) | exact .tail _ (.tail _ (.tail _ (.tail _ (.tail _ (.head _))))) | exact .tail _ (.tail _ (.tail _ (.tail _ (.tail _ (.tail _ (.head _)))))) | exact .tail _ (.tail _ (.tail _ (.tail _ (.tail _ (.tail _ (.tail _ (.head _))))))) | exact .tail _ (.tail _ (.tail _ (.tail _ (.tail _ (.tail _ (.tail _ (.tail _ (.head _)))))))) | simp [Rows.quoteAloneUptoRow])
  refine (walk s i W (by omega) hT).mono fun e W' ⟨he, hb⟩ => ?_
  subst he
  exact ⟨_, rfl, _, _, _, [], _, [], hW', trodAll_cons_mk (shut_bool Tryd.underlying4 _) trodAll_mk0, trodAll_stays laid_out _ _ _ _ (by kernel_rfl) hA1 (fun x hx => Below.same hb (hlt x hx)) (fun x hx => by simpa using hlt x hx), rfl, hb.frame _, fun h => by cases h⟩

set_option maxRecDepth 100000 in
theorem lifted (os : Os) (started : os.Started) (H : Type) (enc : TypeId × Value → H) (F : Stop.Interp) :
    ReturnsInHanded {} Tryd.checked os 7 .any ((Rows.OpenSpec.upto Rows.quoteAloneSpec).preRow enc Tryd.prog Tryd.f7 Rows.quoteAloneUptoRow.domain false Rows.quoteAloneUptoRow.laid) (((Rows.OpenSpec.upto Rows.quoteAloneSpec).at F).post enc Tryd.prog Tryd.f7 false true false false) := by
  have hx : DataW.whole enc Tryd.prog ((World.laidAll Tryd.prog os Rows.quoteAloneUptoRow.laid).forCall (fun _ _ => 0) ⟨#[], #[.string ByteArray.empty, .int .i64 0], []⟩).memory Tryd.f7.params.toList Rows.quoteAloneSpec.vars false (#[.string ByteArray.empty, .int .i64 0] : Array Value).toList 8 = some ([.lit (.string []), .lit (.int .i64 0)], [], []) := by kernel_rfl
  refine returnsInHanded_of_row (C := Tryd.checked) (s := (Rows.OpenSpec.upto Rows.quoteAloneSpec)) own started (by kernel_rfl) Tryd.func7
    (witness_row_atRef (enc := enc) (C := Tryd.checked) false (World.laidAll Tryd.prog os Rows.quoteAloneUptoRow.laid) #[.string ByteArray.empty, .int .i64 0] (World.laidAll_os _ _ _) (by kernel_rfl) (by kernel_rfl) (by kernel_rfl)
      (OpenSpec.preRow_of_cond 8 hx (by kernel_rfl) (fun k hk => by cases hk; kernel_rfl) (by kernel_rfl) (by rw [MakeChecks.laidMetH_plain _ _ _ (by kernel_rfl)]; exact laidMet_laidAll _ (by kernel_rfl) (by kernel_rfl)))) ?_
  intro W base args ds gs before hval hW _ hcond hsz hL _ _
  exact contract H enc W base args ds gs before hval hW hsz (hcond _ rfl) hL

theorem said : Rows.QuoteAloneUptoSaid :=
  OpenClaim.holds_of_cond 7 Tryd.f7 rfl rfl rfl rfl rfl rfl rfl ⟨rfl, rfl, rfl, rfl, rfl⟩ rfl rfl rfl rfl rfl (by kernel_rfl) Tryd.func7 (by kernel_rfl)
    (of_decide_eq_true (by kernel_rfl)) (by unfold Func.isWrapper; first | (rw [if_pos (by decide +kernel)]; kernel_rfl) | (rw [if_neg (by decide +kernel)]; exact ⟨rfl, rfl⟩))
    (fun os started H enc _ F => by rw [OpenClaim.pre_eq_preRow]; exact lifted os started H enc F)

theorem plain (f : FuncId) (fn : Func) (hf : Tryd.pinned.checked.prog.funcNamed "offside/offsidelaw05.QuoteAlone" = some f) (hfn : Tryd.pinned.checked.prog.funcs[f]? = some fn) :
    true = Tryd.pinned.checked.prog.looks [] ∧ ∀ (j : Nat) t, fn.params[j]? = some t → Tryd.pinned.checked.prog.wantsStandIn t = false := by
  obtain rfl : f = 7 := Option.some.inj ((show Tryd.prog.funcNamed "offside/offsidelaw05.QuoteAlone" = some 7 by kernel_rfl).symm.trans hf) |>.symm
  obtain rfl : fn = Tryd.f7 := (Option.some.inj (Tryd.func7.symm.trans hfn)).symm
  refine ⟨by kernel_rfl, fun j t ht => ?_⟩
  rw [Tryd.params7] at ht
  have hm : t ∈ ([9, 3] : List TypeId) := by simpa using Array.mem_of_getElem? ht
  have hall : (([9, 3] : List TypeId).all fun u => !Tryd.prog.wantsStandIn u) = true := by kernel_rfl
  exact (show Tryd.prog.wantsStandIn t = false by simpa using List.all_eq_true.1 hall t hm)

end Go.Proofs.YtmgnpgbganjgfaaDoor.quoteAlone
namespace Go.Proofs.YtmgnpgbganjgfaaDoor
open Go.Proofs.YtmgnpgbganjgfaaDoor.quoteAlone in
theorem quoteAlone_card : Rows.QuoteAloneUptoCardSaid :=
  Claim7.holds_tied_plain_at .later [] _ _ _ _ said (fun _ h => by cases h) (by kernel_rfl) (fun _ h => by cases h) quoteAloneUpto_row_tie rfl ⟨rfl, rfl⟩ (by kernel_rfl) rfl plain (by kernel_rfl)
end Go.Proofs.YtmgnpgbganjgfaaDoor
