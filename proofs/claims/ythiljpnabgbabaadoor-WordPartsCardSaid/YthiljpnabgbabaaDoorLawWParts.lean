/-
The law WordParts returns true for every text: a qualified word's qualifier is a great name, what stands behind it is a name that is not qualified, and both and a point between are the word. No condition but the form's own reach.
-/
import Derived.Test.YthiljpnabgbabaaDoorCards
import Derived.Test.YthiljpnabgbabaaDoorTie
import Derived.Test.YthiljpnabgbabaaDoorLaidU8
import Derived.Test.YthiljpnabgbabaaDoorL03Awake
import Derived.Test.YthiljpnabgbabaaDoorWordP
set_option linter.unusedSimpArgs false
set_option linter.unusedVariables false
namespace Go.Proofs.YthiljpnabgbabaaDoor.wordParts
open Go.ChangeShapes Go.WideShapes Go.ChangeAt Go.RowKit
open Go.ChangeMaps (open_string shut_string)

theorem pt_data (w t : ByteArray) : (w ++ ⟨#[46]⟩ ++ t).data.toList = w.data.toList ++ (46 :: t.data.toList) := by
  rw [app_data, app_data]; simp
set_option maxHeartbeats 2000000 in
theorem walk (s : ByteArray) (w : World) (hs : s.size ≤ 140737488351232) (hT : Tabs w) :
    Calls Tryd.prog 8 #[.string s] w fun e w' => e = .returned (.bool true) ∧ Below w.heap.size w w' := by
  have c1 := fun w hT => split_any s w (by omega) hT
  have k1 := fun w hT => kind_any s w (by omega) hT
  have HT := Lib.hid hT
  by_cases hq : qual (kindW s.data.toList)
  · obtain ⟨p1, p2, p3, p4, p5⟩ := parts s.data.toList hq
    have hsp : splitW s.data.toList = some ((scanW s.data.toList).2.2 - 1, (scanW s.data.toList).2.2) := by unfold splitW; rw [if_pos hq]
    rw [hsp] at c1
    unfold splitV at c1
    simp only at c1
    rw [← Lib.size_eq] at p2
    have hqd : (s.extract 0 ((scanW s.data.toList).2.2 - 1)).data.toList = s.data.toList.take ((scanW s.data.toList).2.2 - 1) := ext_data _ _
    have hnd : (s.extract (scanW s.data.toList).2.2 s.size).data.toList = s.data.toList.drop (scanW s.data.toList).2.2 := cut_data _ _
    have k2 := fun w hT => kind_any (s.extract (scanW s.data.toList).2.2 s.size) w (by rw [ByteArray.size_extract]; omega) hT
    have k3 := fun w hT => kind_any (s.extract 0 ((scanW s.data.toList).2.2 - 1)) w (by rw [ByteArray.size_extract]; omega) hT
    rw [hnd] at k2
    rw [hqd] at k3
    have hqs : (s.extract 0 ((scanW s.data.toList).2.2 - 1)).size = (scanW s.data.toList).2.2 - 1 := by rw [ByteArray.size_extract]; omega
    have hns : (s.extract (scanW s.data.toList).2.2 s.size).size ≤ s.size := by rw [ByteArray.size_extract]; omega
    have heq : (s.toList == (s.extract 0 ((scanW s.data.toList).2.2 - 1) ++ ⟨#[46]⟩ ++ s.extract (scanW s.data.toList).2.2 s.size).toList) = true := by
      rw [beq_iff_eq, Lib.toList_data, Lib.toList_data, pt_data, hqd, hnd]
      exact p3
    generalize s.extract 0 ((scanW s.data.toList).2.2 - 1) = qs at *
    generalize s.extract (scanW s.data.toList).2.2 s.size = ns at *
    generalize kindW (s.data.toList.take ((scanW s.data.toList).2.2 - 1)) = g at *
    generalize kindW (s.data.toList.drop (scanW s.data.toList).2.2) = l at *
    generalize kindW s.data.toList = k at *
    have hqe : qs.toList.isEmpty = false := by
      rw [Lib.toList_data]
      have : 0 < qs.data.toList.length := by rw [← Lib.size_eq]; omega
      cases h : qs.data.toList with
      | nil => rw [h] at this; simp at this
      | cons _ _ => rfl
    have hqe2 : (qs.toList == []) = false := by cases h : qs.toList with
      | nil => rw [h] at hqe; cases hqe
      | cons _ _ => rfl
    have hsz : qs.size + 1 + ns.size ≤ 9223372036854775807 := by omega
    have C1 := Lib.hid c1; have K1 := Lib.hid k1; have K2 := Lib.hid k2; have K3 := Lib.hid k3
    clear c1 k1 k2 k3 hsp hqd hnd p1 p2 p3 hT hqs hq
    rcases p4 with rfl | rfl <;> rcases p5 with ⟨rfl, rfl⟩ | ⟨rfl, rfl⟩ | ⟨rfl, rfl⟩ | ⟨rfl, rfl⟩
    all_goals
      go_enter Tryd.func8, Tryd.ntmps8
      go_wp2_with fail
      refine (awake_any _ HT.out).mono ?_
      rintro e w1 ⟨rfl, hb1⟩
      have HB1 := Lib.hid (hb1)
      have HT1 := Lib.hid (HT.out.below hb1)
      clear hb1
      go_wp2_with fail
      refine (C1.out _ HT1.out).mono ?_
      rintro e w2 ⟨rfl, hb2⟩
      have HB2 := Lib.hid (Below.then HB1.out hb2)
      have HT2 := Lib.hid (HT1.out.below hb2)
      clear hb2
      go_wp2_with fail
      refine (K1.out _ HT2.out).mono ?_
      rintro e w3 ⟨rfl, hb3⟩
      have HB3 := Lib.hid (Below.then HB2.out hb3)
      have HT3 := Lib.hid (HT2.out.below hb3)
      clear hb3
      go_wp2_with fail
      refine (K2.out _ HT3.out).mono ?_
      rintro e w4 ⟨rfl, hb4⟩
      have HB4 := Lib.hid (Below.then HB3.out hb4)
      have HT4 := Lib.hid (HT3.out.below hb4)
      clear hb4
      go_wp2_with fail
      refine (K3.out _ HT4.out).mono ?_
      rintro e w5 ⟨rfl, hb5⟩
      have HB5 := Lib.hid (Below.then HB4.out hb5)
      have HT5 := Lib.hid (HT4.out.below hb5)
      clear hb5
      go_wp2_with fail
      go_ret
      exact ⟨rfl, HB5.out⟩
  by_cases hp : kindW s.data.toList = 1 ∨ kindW s.data.toList = 2 ∨ kindW s.data.toList = 5 ∨ kindW s.data.toList = 6
  · have hsp : splitW s.data.toList = some (0, 0) := by unfold splitW; rw [if_neg hq, if_pos hp]
    have hv : splitV s (some (0, 0)) = .tuple #[.string ⟨#[]⟩, .string s, .int .i64 0] := by
      unfold splitV; simp only; rw [ext_nil, ByteArray.extract_zero_size]
    rw [hsp, hv] at c1
    have hss : (s.toList == s.toList) = true := by simp
    generalize kindW s.data.toList = k at *
    have C1 := Lib.hid c1; have K1 := Lib.hid k1
    clear c1 k1 hT hsp hv hq
    rcases hp with rfl | rfl | rfl | rfl
    all_goals
      go_enter Tryd.func8, Tryd.ntmps8
      go_wp2_with fail
      refine (awake_any _ HT.out).mono ?_
      rintro e w1 ⟨rfl, hb1⟩
      have HB1 := Lib.hid (hb1)
      have HT1 := Lib.hid (HT.out.below hb1)
      clear hb1
      go_wp2_with fail
      refine (C1.out _ HT1.out).mono ?_
      rintro e w2 ⟨rfl, hb2⟩
      have HB2 := Lib.hid (Below.then HB1.out hb2)
      have HT2 := Lib.hid (HT1.out.below hb2)
      clear hb2
      go_wp2_with fail
      refine (K1.out _ HT2.out).mono ?_
      rintro e w3 ⟨rfl, hb3⟩
      have HB3 := Lib.hid (Below.then HB2.out hb3)
      have HT3 := Lib.hid (HT2.out.below hb3)
      clear hb3
      go_wp2_with fail
      refine (K1.out _ HT3.out).mono ?_
      rintro e w4 ⟨rfl, hb4⟩
      have HB4 := Lib.hid (Below.then HB3.out hb4)
      have HT4 := Lib.hid (HT3.out.below hb4)
      clear hb4
      go_wp2_with fail
      go_ret
      exact ⟨rfl, HB4.out⟩
  · have hsp : splitW s.data.toList = none := by unfold splitW; rw [if_neg hq, if_neg hp]
    rw [hsp] at c1
    unfold splitV at c1
    simp only at c1
    have k2 := fun w hT => kind_any ⟨#[]⟩ w (by decide) hT
    generalize kindW s.data.toList = k at *
    have C1 := Lib.hid c1; have K1 := Lib.hid k1; have K2 := Lib.hid k2
    clear c1 k1 k2 hT hsp hq hp
    go_enter Tryd.func8, Tryd.ntmps8
    go_wp2_with fail
    refine (awake_any _ HT.out).mono ?_
    rintro e w1 ⟨rfl, hb1⟩
    have HB1 := Lib.hid (hb1)
    have HT1 := Lib.hid (HT.out.below hb1)
    clear hb1
    go_wp2_with fail
    refine (C1.out _ HT1.out).mono ?_
    rintro e w2 ⟨rfl, hb2⟩
    have HB2 := Lib.hid (Below.then HB1.out hb2)
    have HT2 := Lib.hid (HT1.out.below hb2)
    clear hb2
    go_wp2_with fail
    refine (K1.out _ HT2.out).mono ?_
    rintro e w3 ⟨rfl, hb3⟩
    have HB3 := Lib.hid (Below.then HB2.out hb3)
    have HT3 := Lib.hid (HT2.out.below hb3)
    clear hb3
    go_wp2_with fail
    refine (K2.out _ HT3.out).mono ?_
    rintro e w4 ⟨rfl, hb4⟩
    have HB4 := Lib.hid (Below.then HB3.out hb4)
    have HT4 := Lib.hid (HT3.out.below hb4)
    clear hb4
    go_wp2_with fail
    go_ret
    exact ⟨rfl, HB4.out⟩

theorem own : ownKnob Tryd.prog.godebug = none := by kernel_rfl
set_option maxRecDepth 100000 in
theorem contract (H : Type) (enc : TypeId × Value → H) (W : World) (base : Nat) (args : Array Value) (ds gs : List (DataW H)) (before : List MemPlace)
    (hval : ∀ (j : Nat) t v, Tryd.f8.params[j]? = some t → args[j]? = some v → Value.okWide Tryd.prog W .any base t v)
    (hW : DataW.Whole enc Tryd.prog Tryd.f8.params.toList Rows.wordPartsSpec.vars false W args.toList ds gs before)
    (hsz0 : (DataW.weightsEach Tryd.prog (Tryd.f8.params.toList ++ (OpenSpec.ofChange Rows.wordPartsSpec).bare.plain.varTypes Tryd.prog) (ds ++ gs)).all (· ≤ reachBytes) = true)
    (hL : laidMetH Tryd.prog Rows.wordPartsRow.laid W) :
    Calls Tryd.prog 8 args W fun e W' => ∃ v, e = .returned v ∧ Rows.wordPartsSpec.post enc Tryd.prog Tryd.f8 false true false false W args v W' := by
  have hW' := hW
  obtain ⟨p, q, hA0, hV, rfl, hfz, hnd⟩ := hW
  have hA : DataW.TrodAll enc Tryd.prog W 0 (fun _ => true) true Tryd.f8.params.toList args.toList ds p := hA0
  have hsz : (DataW.weightsEach Tryd.prog (Tryd.f8.params.toList ++ []) (ds ++ gs)).all (· ≤ reachBytes) = true := hsz0
  rw [Tryd.params8] at hA hval hsz
  obtain ⟨v0, vs0, d0, ds0, p0, q0, hargs, rfl, rfl, h0, r0⟩ := trodAll_cons hA
  obtain ⟨rfl, rfl, rfl⟩ := trodAll_nil r0
  obtain rfl : args = #[v0] := by cases args; simp_all
  obtain ⟨rfl, rfl⟩ := trodVars_none hV
  obtain ⟨s, rfl, rfl, rfl, wf0⟩ := open_string Tryd.underlying9 (hval 0 9 v0 rfl rfl) h0
  clear hA0 hsz0
  have z0 := sized_string hsz (j := 0) (t := 9) rfl rfl
  rw [← Lib.size_eq] at z0
  simp only [reachBytes] at z0
  simp only [List.append_nil] at hW'
  rw [MakeChecks.laidMetH_plain _ _ _ (by kernel_rfl)] at hL
  have hT : Tabs W := tabs_of hL (by first | exact .head _ | exact .tail _ (.head _) | exact .tail _ (.tail _ (.head _)) | simp [Rows.wordPartsRow]) (by first | exact .head _ | exact .tail _ (.head _) | exact .tail _ (.tail _ (.head _)) | simp [Rows.wordPartsRow])
  refine (walk s W z0 hT).mono fun e W' ⟨he, hb⟩ => ?_
  subst he
  exact ⟨_, rfl, _, _, _, [], [], [], hW', trodAll_cons_mk (shut_bool Tryd.underlying4 _) trodAll_mk0, trodAll_cons_mk (shut_string Tryd.underlying9 wf0) (trodAll_mk0), rfl, hb.frame _, fun h => by cases h⟩

set_option maxRecDepth 100000 in
theorem lifted (os : Os) (started : os.Started) (H : Type) (enc : TypeId × Value → H) (F : Stop.Interp) :
    ReturnsInHanded {} Tryd.checked os 8 .any ((OpenSpec.ofChange Rows.wordPartsSpec).preRow enc Tryd.prog Tryd.f8 Rows.wordPartsRow.domain false Rows.wordPartsRow.laid) (((OpenSpec.ofChange Rows.wordPartsSpec).at F).post enc Tryd.prog Tryd.f8 false true false false) := by
  have hx : DataW.whole enc Tryd.prog ((World.laidAll Tryd.prog os Rows.wordPartsRow.laid).forCall (fun _ _ => 0) ⟨#[], #[.string ByteArray.empty], []⟩).memory Tryd.f8.params.toList Rows.wordPartsSpec.vars false (#[.string ByteArray.empty] : Array Value).toList 8 = some ([.lit (.string [])], [], []) := by kernel_rfl
  refine returnsInHanded_of_row (C := Tryd.checked) (s := (OpenSpec.ofChange Rows.wordPartsSpec)) own started (by kernel_rfl) Tryd.func8
    (witness_row_at (enc := enc) (C := Tryd.checked) false (World.laidAll Tryd.prog os Rows.wordPartsRow.laid) #[.string ByteArray.empty] (World.laidAll_os _ _ _) (by kernel_rfl) (by kernel_rfl) (by kernel_rfl)
      (OpenSpec.preRow_of_cond 8 hx (by kernel_rfl) (fun k hk => by cases hk) (by kernel_rfl) (by rw [MakeChecks.laidMetH_plain _ _ _ (by kernel_rfl)]; exact laidMet_laidAll _ (by kernel_rfl) (by kernel_rfl)))) ?_
  intro W base args ds gs before hval hW _ _ hsz hL _ _
  exact contract H enc W base args ds gs before hval hW hsz hL

theorem said : Rows.WordPartsSaid :=
  OpenClaim.holds_of_cond 8 Tryd.f8 rfl rfl rfl rfl rfl rfl rfl ⟨rfl, rfl, rfl, rfl, rfl⟩ rfl rfl rfl rfl rfl (by kernel_rfl) Tryd.func8 (by kernel_rfl)
    (of_decide_eq_true (by kernel_rfl)) (by unfold Func.isWrapper; first | (rw [if_pos (by decide +kernel)]; kernel_rfl) | (rw [if_neg (by decide +kernel)]; exact ⟨rfl, rfl⟩))
    (fun os started H enc _ F => by rw [OpenClaim.pre_eq_preRow]; exact lifted os started H enc F)

theorem plain (f : FuncId) (fn : Func) (hf : Tryd.pinned.checked.prog.funcNamed "offside/offsidelaw03.WordParts" = some f) (hfn : Tryd.pinned.checked.prog.funcs[f]? = some fn) :
    false = Tryd.pinned.checked.prog.looks [] ∧ ∀ (j : Nat) t, fn.params[j]? = some t → Tryd.pinned.checked.prog.wantsStandIn t = false := by
  obtain rfl : f = 8 := Option.some.inj ((show Tryd.prog.funcNamed "offside/offsidelaw03.WordParts" = some 8 by kernel_rfl).symm.trans hf) |>.symm
  obtain rfl : fn = Tryd.f8 := (Option.some.inj (Tryd.func8.symm.trans hfn)).symm
  refine ⟨by kernel_rfl, fun j t ht => ?_⟩
  rw [Tryd.params8] at ht
  have hm : t ∈ ([9] : List TypeId) := by simpa using Array.mem_of_getElem? ht
  have hall : (([9] : List TypeId).all fun u => !Tryd.prog.wantsStandIn u) = true := by kernel_rfl
  exact (show Tryd.prog.wantsStandIn t = false by simpa using List.all_eq_true.1 hall t hm)

end Go.Proofs.YthiljpnabgbabaaDoor.wordParts
namespace Go.Proofs.YthiljpnabgbabaaDoor
open Go.Proofs.YthiljpnabgbabaaDoor.wordParts in
theorem wordParts_card : Rows.WordPartsCardSaid :=
  Claim7.holds_tied_plain_at .later [] _ _ _ _ said (fun _ h => by cases h) (by kernel_rfl) (fun _ h => by cases h) wordParts_row_tie rfl ⟨rfl, rfl⟩ (by kernel_rfl) rfl plain (by kernel_rfl)
end Go.Proofs.YthiljpnabgbabaaDoor
