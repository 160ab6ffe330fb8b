/-
The law WordAlone returns true for every two texts and every number: what is found as a word is that word by itself, and is found so with a blank and anything else behind it. No condition but the form's own reach.
-/
import Derived.Test.YthiljpnabgbabaaDoorCards
import Derived.Test.YthiljpnabgbabaaDoorTie
import Derived.Test.YthiljpnabgbabaaDoorLaidU8
import Derived.Test.YthiljpnabgbabaaDoorL03Awake
import Derived.Test.YthiljpnabgbabaaDoorWordP
set_option linter.unusedSimpArgs false
set_option linter.unusedVariables false
namespace Go.Proofs.YthiljpnabgbabaaDoor.wordAlone
open Go.ChangeShapes Go.WideShapes Go.ChangeAt Go.RowKit
open Go.ChangeMaps (open_string shut_string)

theorem sp_data (w t : ByteArray) : (w ++ ⟨#[32]⟩ ++ t).data.toList = w.data.toList ++ (32 :: t.data.toList) := by
  rw [app_data, app_data]; simp
set_option maxHeartbeats 1000000 in
theorem walk (s : ByteArray) (i : Int) (t : ByteArray) (w : World) (hs : s.size ≤ 140737488351232) (hi : (Lit.int .i64 i).wf = true) (ht : t.size ≤ 140737488351232) (hT : Tabs w) :
    Calls Tryd.prog 7 #[.string s, .int .i64 i, .string t] w fun e w' => e = .returned (.bool true) ∧ Below w.heap.size w w' := by
  have c1 := fun w hT => scanTop_any s i w (by omega) hT
  have HT := Lib.hid hT
  by_cases h0 : (scanAt s.data.toList i).1 = 0
  · have h1 : (scanAt s.data.toList i).2 = 0 := by
      unfold scanAt at h0 ⊢
      split
      · rename_i h
        rw [if_pos h] at h0
        split
        · rfl
        · rename_i h2; rw [if_neg h2] at h0; exact absurd h0 h2
      · rfl
    rw [h0, h1] at c1
    have C1 := Lib.hid c1
    clear c1 h0 h1 hT hi
    go_enter Tryd.func7, Tryd.ntmps7
    go_wp2_with fail
    refine (awake_any _ HT.out).mono ?_
    rintro e w1 ⟨rfl, hb1⟩
    have HB1 := Lib.hid (hb1)
    have HT1 := Lib.hid (HT.out.below hb1)
    clear hb1
    go_wp2_with fail
    refine (C1.out _ HT1.out).mono ?_
    rintro e w2 ⟨rfl, hb2⟩
    have HB2 := Lib.hid (Below.then HB1.out hb2)
    have HT2 := Lib.hid (HT1.out.below hb2)
    clear hb2
    go_wp2_with fail
    go_ret
    exact ⟨rfl, HB2.out⟩
  have hr : 0 ≤ i ∧ i < s.data.toList.length := by
    false_or_by_contra
    rename_i hn
    apply h0
    unfold scanAt
    rw [if_neg hn]
  obtain ⟨i, rfl⟩ := Int.eq_ofNat_of_zero_le hr.1
  rw [← Lib.size_eq] at hr
  obtain ⟨l, hl⟩ : ∃ l, s.data.toList.drop i = l := ⟨_, rfl⟩
  have hk0 : (scanW l).1 ≠ 0 := by
    intro e
    apply h0
    unfold scanAt
    rw [if_pos ⟨by omega, by rw [← Lib.size_eq]; omega⟩, Int.toNat_natCast, hl, if_pos e]
  have hsc : scanAt s.data.toList i = ((scanW l).1, (i : Int) + (scanW l).2.1) := by
    unfold scanAt
    rw [if_pos ⟨by omega, by rw [← Lib.size_eq]; omega⟩, Int.toNat_natCast, hl, if_neg hk0]
  have hll : l.length = s.size - i := by rw [← hl, List.length_drop, ← Lib.size_eq]
  have hle := scanW_le l
  have hn1 : 1 ≤ (scanW l).2.1 := by
    false_or_by_contra
    have h := kind_of_scan l hk0
    rw [show (scanW l).2.1 = 0 from by omega] at h
    exact hk0 h.symm
  have hwd : (s.extract i (i + (scanW l).2.1)).data.toList = l.take (scanW l).2.1 := by
    rw [Lib.extract_data, Nat.add_sub_cancel_left, hl]
  have hws : (s.extract i (i + (scanW l).2.1)).size = (scanW l).2.1 := by rw [ByteArray.size_extract]; omega
  have k1 := fun w hT => kind_any (s.extract i (i + (scanW l).2.1)) w (by omega) hT
  rw [hwd, kind_of_scan l hk0] at k1
  have hsz : (s.extract i (i + (scanW l).2.1) ++ ⟨#[32]⟩ ++ t).size = (scanW l).2.1 + 1 + t.size := by rw [ByteArray.size_append, ByteArray.size_append, hws]; rfl
  have c2 := fun w hT => scanTop_any (s.extract i (i + (scanW l).2.1) ++ ⟨#[32]⟩ ++ t) 0 w (by rw [hsz]; omega) hT
  have hs2 : scanAt (s.extract i (i + (scanW l).2.1) ++ ⟨#[32]⟩ ++ t).data.toList 0 = ((scanW l).1, ((scanW l).2.1 : Int)) := by
    rw [sp_data, hwd, scanAt_zero _ (by simp), scan_cut l _ hk0 (.inr ⟨_, rfl⟩), if_neg hk0]
  rw [hs2] at c2
  rw [hsc] at c1
  have HSZ := Lib.hid hsz
  clear hsz
  generalize scanW l = R at *
  obtain ⟨k, n, a⟩ := R
  simp only at *
  have hb : (k == 0) = false := beq_eq_false_iff_ne.2 hk0
  have C1 := Lib.hid c1; have C2 := Lib.hid c2; have K1 := Lib.hid k1; have HWS := Lib.hid hws
  have hb2 : i + n ≤ s.size := by omega
  clear c1 c2 k1 hws hwd hs2 hsc hll hle hk0 hl h0 hT hi
  go_enter Tryd.func7, Tryd.ntmps7
  go_wp2_with fail
  refine (awake_any _ HT.out).mono ?_
  rintro e w1 ⟨rfl, hb1⟩
  have HB1 := Lib.hid (hb1)
  have HT1 := Lib.hid (HT.out.below hb1)
  clear hb1
  go_wp2_with fail
  refine (C1.out _ HT1.out).mono ?_
  rintro e w2 ⟨rfl, hb2⟩
  have HB2 := Lib.hid (Below.then HB1.out hb2)
  have HT2 := Lib.hid (HT1.out.below hb2)
  clear hb2
  go_wp2_with fail
  refine (C2.out _ HT2.out).mono ?_
  rintro e w3 ⟨rfl, hb3⟩
  have HB3 := Lib.hid (Below.then HB2.out hb3)
  have HT3 := Lib.hid (HT2.out.below hb3)
  clear hb3
  go_wp2_with fail
  refine (K1.out _ HT3.out).mono ?_
  rintro e w4 ⟨rfl, hb4⟩
  have HB4 := Lib.hid (Below.then HB3.out hb4)
  have HT4 := Lib.hid (HT3.out.below hb4)
  clear hb4
  go_wp2_with fail
  go_ret
  exact ⟨rfl, HB4.out⟩

theorem own : ownKnob Tryd.prog.godebug = none := by kernel_rfl
set_option maxRecDepth 100000 in
theorem contract (H : Type) (enc : TypeId × Value → H) (W : World) (base : Nat) (args : Array Value) (ds gs : List (DataW H)) (before : List MemPlace)
    (hval : ∀ (j : Nat) t v, Tryd.f7.params[j]? = some t → args[j]? = some v → Value.okWide Tryd.prog W .any base t v)
    (hW : DataW.Whole enc Tryd.prog Tryd.f7.params.toList Rows.wordAloneSpec.vars false W args.toList ds gs before)
    (hsz0 : (DataW.weightsEach Tryd.prog (Tryd.f7.params.toList ++ (OpenSpec.ofChange Rows.wordAloneSpec).bare.plain.varTypes Tryd.prog) (ds ++ gs)).all (· ≤ reachBytes) = true)
    (hL : laidMetH Tryd.prog Rows.wordAloneRow.laid W) :
    Calls Tryd.prog 7 args W fun e W' => ∃ v, e = .returned v ∧ Rows.wordAloneSpec.post enc Tryd.prog Tryd.f7 false true false false W args v W' := by
  have hW' := hW
  obtain ⟨p, q, hA0, hV, rfl, hfz, hnd⟩ := hW
  have hA : DataW.TrodAll enc Tryd.prog W 0 (fun _ => true) true Tryd.f7.params.toList args.toList ds p := hA0
  have hsz : (DataW.weightsEach Tryd.prog (Tryd.f7.params.toList ++ []) (ds ++ gs)).all (· ≤ reachBytes) = true := hsz0
  rw [Tryd.params7] at hA hval hsz
  obtain ⟨v0, vs0, d0, ds0, p0, q0, hargs, rfl, rfl, h0, r0⟩ := trodAll_cons hA
  obtain ⟨v1, vs1, d1, ds1, p1, q1, rfl, rfl, rfl, h1, r1⟩ := trodAll_cons r0
  obtain ⟨v2, vs2, d2, ds2, p2, q2, rfl, rfl, rfl, h2, r2⟩ := trodAll_cons r1
  obtain ⟨rfl, rfl, rfl⟩ := trodAll_nil r2
  obtain rfl : args = #[v0, v1, v2] := by cases args; simp_all
  obtain ⟨rfl, rfl⟩ := trodVars_none hV
  obtain ⟨s, rfl, rfl, rfl, wf0⟩ := open_string Tryd.underlying9 (hval 0 9 v0 rfl rfl) h0
  obtain ⟨i, rfl, rfl, rfl, wf1⟩ := open_int Tryd.underlying3 (hval 1 3 v1 rfl rfl) h1
  obtain ⟨t, rfl, rfl, rfl, wf2⟩ := open_string Tryd.underlying9 (hval 2 9 v2 rfl rfl) h2
  clear hA0 hsz0
  have z0 := sized_string hsz (j := 0) (t := 9) rfl rfl
  rw [← Lib.size_eq] at z0
  simp only [reachBytes] at z0
  have z2 := sized_string hsz (j := 2) (t := 9) rfl rfl
  rw [← Lib.size_eq] at z2
  simp only [reachBytes] at z2
  simp only [List.append_nil] at hW'
  rw [MakeChecks.laidMetH_plain _ _ _ (by kernel_rfl)] at hL
  have hT : Tabs W := tabs_of hL (by first | exact .head _ | exact .tail _ (.head _) | exact .tail _ (.tail _ (.head _)) | simp [Rows.wordAloneRow]) (by first | exact .head _ | exact .tail _ (.head _) | exact .tail _ (.tail _ (.head _)) | simp [Rows.wordAloneRow])
  refine (walk s i t W z0 wf1 z2 hT).mono fun e W' ⟨he, hb⟩ => ?_
  subst he
  exact ⟨_, rfl, _, _, _, [], [], [], hW', trodAll_cons_mk (shut_bool Tryd.underlying4 _) trodAll_mk0, trodAll_cons_mk (shut_string Tryd.underlying9 wf0) (trodAll_cons_mk (shut_int Tryd.underlying3 wf1) (trodAll_cons_mk (shut_string Tryd.underlying9 wf2) (trodAll_mk0))), rfl, hb.frame _, fun h => by cases h⟩

set_option maxRecDepth 100000 in
theorem lifted (os : Os) (started : os.Started) (H : Type) (enc : TypeId × Value → H) (F : Stop.Interp) :
    ReturnsInHanded {} Tryd.checked os 7 .any ((OpenSpec.ofChange Rows.wordAloneSpec).preRow enc Tryd.prog Tryd.f7 Rows.wordAloneRow.domain false Rows.wordAloneRow.laid) (((OpenSpec.ofChange Rows.wordAloneSpec).at F).post enc Tryd.prog Tryd.f7 false true false false) := by
  have hx : DataW.whole enc Tryd.prog ((World.laidAll Tryd.prog os Rows.wordAloneRow.laid).forCall (fun _ _ => 0) ⟨#[], #[.string ByteArray.empty, .int .i64 0, .string ByteArray.empty], []⟩).memory Tryd.f7.params.toList Rows.wordAloneSpec.vars false (#[.string ByteArray.empty, .int .i64 0, .string ByteArray.empty] : Array Value).toList 8 = some ([.lit (.string []), .lit (.int .i64 0), .lit (.string [])], [], []) := by kernel_rfl
  refine returnsInHanded_of_row (C := Tryd.checked) (s := (OpenSpec.ofChange Rows.wordAloneSpec)) own started (by kernel_rfl) Tryd.func7
    (witness_row_at (enc := enc) (C := Tryd.checked) false (World.laidAll Tryd.prog os Rows.wordAloneRow.laid) #[.string ByteArray.empty, .int .i64 0, .string ByteArray.empty] (World.laidAll_os _ _ _) (by kernel_rfl) (by kernel_rfl) (by kernel_rfl)
      (OpenSpec.preRow_of_cond 8 hx (by kernel_rfl) (fun k hk => by cases hk) (by kernel_rfl) (by rw [MakeChecks.laidMetH_plain _ _ _ (by kernel_rfl)]; exact laidMet_laidAll _ (by kernel_rfl) (by kernel_rfl)))) ?_
  intro W base args ds gs before hval hW _ _ hsz hL _ _
  exact contract H enc W base args ds gs before hval hW hsz hL

theorem said : Rows.WordAloneSaid :=
  OpenClaim.holds_of_cond 7 Tryd.f7 rfl rfl rfl rfl rfl rfl rfl ⟨rfl, rfl, rfl, rfl, rfl⟩ rfl rfl rfl rfl rfl (by kernel_rfl) Tryd.func7 (by kernel_rfl)
    (of_decide_eq_true (by kernel_rfl)) (by unfold Func.isWrapper; first | (rw [if_pos (by decide +kernel)]; kernel_rfl) | (rw [if_neg (by decide +kernel)]; exact ⟨rfl, rfl⟩))
    (fun os started H enc _ F => by rw [OpenClaim.pre_eq_preRow]; exact lifted os started H enc F)

theorem plain (f : FuncId) (fn : Func) (hf : Tryd.pinned.checked.prog.funcNamed "offside/offsidelaw03.WordAlone" = some f) (hfn : Tryd.pinned.checked.prog.funcs[f]? = some fn) :
    false = Tryd.pinned.checked.prog.looks [] ∧ ∀ (j : Nat) t, fn.params[j]? = some t → Tryd.pinned.checked.prog.wantsStandIn t = false := by
  obtain rfl : f = 7 := Option.some.inj ((show Tryd.prog.funcNamed "offside/offsidelaw03.WordAlone" = some 7 by kernel_rfl).symm.trans hf) |>.symm
  obtain rfl : fn = Tryd.f7 := (Option.some.inj (Tryd.func7.symm.trans hfn)).symm
  refine ⟨by kernel_rfl, fun j t ht => ?_⟩
  rw [Tryd.params7] at ht
  have hm : t ∈ ([9, 3, 9] : List TypeId) := by simpa using Array.mem_of_getElem? ht
  have hall : (([9, 3, 9] : List TypeId).all fun u => !Tryd.prog.wantsStandIn u) = true := by kernel_rfl
  exact (show Tryd.prog.wantsStandIn t = false by simpa using List.all_eq_true.1 hall t hm)

end Go.Proofs.YthiljpnabgbabaaDoor.wordAlone
namespace Go.Proofs.YthiljpnabgbabaaDoor
open Go.Proofs.YthiljpnabgbabaaDoor.wordAlone in
theorem wordAlone_card : Rows.WordAloneCardSaid :=
  Claim7.holds_tied_plain_at .later [] _ _ _ _ said (fun _ h => by cases h) (by kernel_rfl) (fun _ h => by cases h) wordAlone_row_tie rfl ⟨rfl, rfl⟩ (by kernel_rfl) rfl plain (by kernel_rfl)
end Go.Proofs.YthiljpnabgbabaaDoor
