/-
The law NumberBack returns true for every text: a whole number's decimal digits are a whole number that is worth as much, and whose digits they are. No condition but the form's own reach.
-/
import Derived.Test.YthcogfceighbpaaDoorFrame
import Derived.Test.YthcogfceighbpaaDoorL04Awake
import Derived.Test.YthcogfceighbpaaDoorNumW
import Derived.Test.YthcogfceighbpaaDoorL04Laid
set_option linter.unusedSimpArgs false
set_option linter.unusedVariables false
namespace Go.Proofs.YthcogfceighbpaaDoor.numberBack
open Go.ChangeShapes Go.WideShapes Go.ChangeAt Go.RowKit

set_option maxHeartbeats 2000000 in
theorem walk (s : ByteArray) (w : World) (hs : s.size ≤ 140737488351232) (hT : Pow w) :
    Calls Tryd.prog 8 #[.string s] w fun e w' => e = .returned (.bool true) ∧ Below w.heap.size w w' := by
  have c1 := fun w hT => decimal_any s w (by omega) hT
  have c2 := fun w => value_any s w (by omega)
  have HT := Lib.hid hT
  clear hT
  by_cases h0 : (decimalX s.data.toList).2 = 0
  · obtain ⟨hv, hd⟩ := back_plain _ h0
    obtain ⟨hl, _⟩ := decX_len s.data.toList
    generalize decimalX s.data.toList = D at *
    obtain ⟨d, e0⟩ := D
    simp only at h0 hv hd hl
    subst h0
    have hds : (⟨d.toArray⟩ : ByteArray).size = d.length := by simp [ByteArray.size]
    have c3 := fun w => value_any ⟨d.toArray⟩ w (by omega)
    have c4 := fun w hT => decimal_any ⟨d.toArray⟩ w (by omega) hT
    rw [show (⟨d.toArray⟩ : ByteArray).data.toList = d from rfl] at c3 c4
    rw [hv] at c3
    generalize valueX s.data.toList = V at *
    obtain ⟨v, f⟩ := V
    unfold textV at c1 c4
    unfold valueV at c2 c3
    simp only at c1 c2 c3
    have t3 : decide (1000 < d.length) = decide (1000 < (⟨d.toArray⟩ : ByteArray).size) := by rw [hds]
    have C1 := Lib.hid c1
    have C2 := Lib.hid c2
    have C3 := Lib.hid c3
    have hq : (⟨d.toArray⟩ : ByteArray).toList == (⟨d.toArray⟩ : ByteArray).toList := by simp
    rcases hd with hd | ⟨h1, hd⟩
    · rw [hd] at c4
      simp only at c4
      have C4 := Lib.hid c4
      clear c1 c2 c3 c4 hd t3 hv hl hds
      generalize (⟨d.toArray⟩ : ByteArray) = z at *
      go_enter Tryd.func8, Tryd.ntmps8
      go_wp2_with fail
      refine (awake_any _ HT.out).mono ?_
      rintro e w1 ⟨rfl, hb1⟩
      have HB1 := Lib.hid hb1
      have HT1 := Lib.hid (HT.out.below hb1)
      clear hb1
      go_wp2_with fail
      refine (C1.out _ HT1.out).mono ?_
      rintro e w2 ⟨rfl, hb2⟩
      have HB2 := Lib.hid (Below.then HB1.out hb2)
      have HT2 := Lib.hid (HT1.out.below hb2)
      clear hb2
      go_wp2_with fail
      refine (C2.out _).mono ?_
      rintro e w3 ⟨rfl, hb3⟩
      have HB3 := Lib.hid (Below.then HB2.out hb3)
      have HT3 := Lib.hid (HT2.out.below hb3)
      clear hb3
      go_wp2_with fail
      refine (C3.out _).mono ?_
      rintro e w4 ⟨rfl, hb4⟩
      have HB4 := Lib.hid (Below.then HB3.out hb4)
      have HT4 := Lib.hid (HT3.out.below hb4)
      clear hb4
      go_wp2_with fail
      refine (C4.out _ HT4.out).mono ?_
      rintro e w5 ⟨rfl, hb5⟩
      have HB5 := Lib.hid (Below.then HB4.out hb5)
      clear hb5
      go_wp2_with fail
      go_ret
      exact ⟨by first | rfl | simp, HB5.out⟩
    · rw [hd] at c4
      simp only at c4
      have C4 := Lib.hid c4
      have t4 : decide ((1000 : Int) < (⟨d.toArray⟩ : ByteArray).size) = true := by simp; omega
      have t5 : ¬ (⟨d.toArray⟩ : ByteArray).toList = [] := by
        rw [Lib.toList_data]
        intro h
        have h := congrArg List.length h
        simp at h
        rw [h] at h1; simp at h1
      have t6 : ((⟨d.toArray⟩ : ByteArray).toList == []) = false := by simpa using t5
      have t7 : (([] : List UInt8) == (⟨d.toArray⟩ : ByteArray).toList) = false := by rw [beq_eq_false_iff_ne]; exact fun h => t5 h.symm
      have t8 : (⟨d.toArray⟩ : ByteArray).toList.isEmpty = false := by simpa using t5
      clear c1 c2 c3 c4 hd t3 hv hl hds
      generalize (⟨d.toArray⟩ : ByteArray) = z at *
      go_enter Tryd.func8, Tryd.ntmps8
      go_wp2_with fail
      refine (awake_any _ HT.out).mono ?_
      rintro e w1 ⟨rfl, hb1⟩
      have HB1 := Lib.hid hb1
      have HT1 := Lib.hid (HT.out.below hb1)
      clear hb1
      go_wp2_with fail
      refine (C1.out _ HT1.out).mono ?_
      rintro e w2 ⟨rfl, hb2⟩
      have HB2 := Lib.hid (Below.then HB1.out hb2)
      have HT2 := Lib.hid (HT1.out.below hb2)
      clear hb2
      go_wp2_with fail
      refine (C2.out _).mono ?_
      rintro e w3 ⟨rfl, hb3⟩
      have HB3 := Lib.hid (Below.then HB2.out hb3)
      have HT3 := Lib.hid (HT2.out.below hb3)
      clear hb3
      go_wp2_with fail
      refine (C3.out _).mono ?_
      rintro e w4 ⟨rfl, hb4⟩
      have HB4 := Lib.hid (Below.then HB3.out hb4)
      have HT4 := Lib.hid (HT3.out.below hb4)
      clear hb4
      go_wp2_with fail
      refine (C4.out _ HT4.out).mono ?_
      rintro e w5 ⟨rfl, hb5⟩
      have HB5 := Lib.hid (Below.then HB4.out hb5)
      clear hb5
      go_wp2_with fail
      go_ret
      exact ⟨by first | rfl | simp, HB5.out⟩
  · have hd := decimal_err _ h0
    generalize decimalX s.data.toList = D at *
    obtain ⟨d, e0⟩ := D
    simp only at h0 hd
    subst hd
    unfold textV at c1
    simp only at c1
    have t0 : (e0 == 0) = false := by simpa using h0
    have t1 : ((⟨([] : List UInt8).toArray⟩ : ByteArray).toList == []) = true := by rw [Lib.toList_data]; rfl
    have t2 : (⟨([] : List UInt8).toArray⟩ : ByteArray).toList.isEmpty = true := by rw [Lib.toList_data]; rfl
    have C1 := Lib.hid c1
    clear c1 c2 h0
    generalize (⟨([] : List UInt8).toArray⟩ : ByteArray) = z at *
    go_enter Tryd.func8, Tryd.ntmps8
    go_wp2_with fail
    refine (awake_any _ HT.out).mono ?_
    rintro e w1 ⟨rfl, hb1⟩
    have HB1 := Lib.hid hb1
    have HT1 := Lib.hid (HT.out.below hb1)
    clear hb1
    go_wp2_with fail
    refine (C1.out _ HT1.out).mono ?_
    rintro e w2 ⟨rfl, hb2⟩
    have HB2 := Lib.hid (Below.then HB1.out hb2)
    clear hb2
    go_wp2_with fail
    go_ret
    exact ⟨rfl, HB2.out⟩

set_option maxRecDepth 100000 in
theorem contract (H : Type) (enc : TypeId × Value → H) (W : World) (base : Nat) (args : Array Value) (ds gs : List (DataW H)) (before : List MemPlace)
    (hval : ∀ (j : Nat) t v, Tryd.f8.params[j]? = some t → args[j]? = some v → Value.okWide Tryd.prog W .any base t v)
    (hW : DataW.Whole enc Tryd.prog Tryd.f8.params.toList Rows.numberBackSpec.vars false W args.toList ds gs before)
    (hsz0 : (DataW.weightsEach Tryd.prog (Tryd.f8.params.toList ++ (OpenSpec.ofChange Rows.numberBackSpec).bare.plain.varTypes Tryd.prog) (ds ++ gs)).all (· ≤ reachBytes) = true)
    (hL : laidMetH Tryd.prog Rows.numberBackRow.laid W) :
    Calls Tryd.prog 8 args W fun e W' => ∃ v, e = .returned v ∧ Rows.numberBackSpec.post enc Tryd.prog Tryd.f8 false true false false W args v W' := by
  have hW' := hW
  obtain ⟨p, q, hA0, hV, rfl, hfz, hnd⟩ := hW
  have hlt : ∀ x ∈ p, x.block < W.heap.size := fun x hx => hW'.lt x (List.mem_append_left _ hx)
  have hA : DataW.TrodAll enc Tryd.prog W 0 (fun _ => true) true Tryd.f8.params.toList args.toList ds p := hA0
  have hsz : (DataW.weightsEach Tryd.prog (Tryd.f8.params.toList ++ []) (ds ++ gs)).all (· ≤ reachBytes) = true := hsz0
  rw [Tryd.params8] at hA hval hsz
  have hA1 := hA
  obtain ⟨v0, vs0, d0, ds0, p0, q0, hargs, rfl, rfl, h0, r0⟩ := trodAll_cons hA
  obtain ⟨rfl, rfl, rfl⟩ := trodAll_nil r0
  obtain rfl : args = #[v0] := by cases args; simp_all
  obtain ⟨rfl, rfl⟩ := trodVars_none hV
  clear hA0 hsz0
  obtain ⟨s, rfl, rfl, rfl, wf0⟩ := ChangeMaps.open_string Tryd.underlying9 (hval 0 9 v0 rfl rfl) h0
  have z0 := sized_string hsz (j := 0) (t := 9) rfl rfl
  rw [← Lib.size_eq] at z0
  simp only [reachBytes] at z0
  simp only [List.append_nil] at hW'
  rw [MakeChecks.laidMetH_plain _ _ _ (by kernel_rfl)] at hL
  have hT : Pow W := pow_of hL (by first | exact .tail _ (.tail _ (.head _)) | exact .head _ | exact .tail _ (.head _) | exact .tail _ (.tail _ (.tail _ (.head _))) | simp [Rows.numberBackRow])
  refine (walk s W z0 hT).mono fun e W' ⟨he, hb⟩ => ?_
  subst he
  exact ⟨_, rfl, _, _, _, [], _, [], hW', trodAll_cons_mk (shut_bool Tryd.underlying4 _) trodAll_mk0, trodAll_stays laid_out _ _ _ _ (by kernel_rfl) hA1 (fun x hx => Below.same hb (hlt x hx)) (fun x hx => by simpa using hlt x hx), rfl, hb.frame _, fun h => by cases h⟩

set_option maxRecDepth 100000 in
theorem lifted (os : Os) (started : os.Started) (H : Type) (enc : TypeId × Value → H) (F : Stop.Interp) :
    ReturnsInHanded {} Tryd.checked os 8 .any ((OpenSpec.ofChange Rows.numberBackSpec).preRow enc Tryd.prog Tryd.f8 Rows.numberBackRow.domain false Rows.numberBackRow.laid) (((OpenSpec.ofChange Rows.numberBackSpec).at F).post enc Tryd.prog Tryd.f8 false true false false) := by
  have hx : DataW.whole enc Tryd.prog ((World.laidAll Tryd.prog os Rows.numberBackRow.laid).forCall (fun _ _ => 0) ⟨#[], #[.string ByteArray.empty], []⟩).memory Tryd.f8.params.toList Rows.numberBackSpec.vars false (#[.string ByteArray.empty] : Array Value).toList 8 = some ([.lit (.string [])], [], []) := by kernel_rfl
  refine returnsInHanded_of_row (C := Tryd.checked) (s := (OpenSpec.ofChange Rows.numberBackSpec)) own started (by kernel_rfl) Tryd.func8
    (witness_row_at (enc := enc) (C := Tryd.checked) false (World.laidAll Tryd.prog os Rows.numberBackRow.laid) #[.string ByteArray.empty] (World.laidAll_os _ _ _) (by kernel_rfl) (by kernel_rfl) (by kernel_rfl)
      (OpenSpec.preRow_of_cond 8 hx (by kernel_rfl) (fun k hk => by cases hk) (by kernel_rfl) (by rw [MakeChecks.laidMetH_plain _ _ _ (by kernel_rfl)]; exact laidMet_laidAll _ (by kernel_rfl) (by kernel_rfl)))) ?_
  intro W base args ds gs before hval hW _ _ hsz hL _ _
  exact contract H enc W base args ds gs before hval hW hsz hL

theorem said : Rows.NumberBackSaid :=
  OpenClaim.holds_of_cond 8 Tryd.f8 rfl rfl rfl rfl rfl rfl rfl ⟨rfl, rfl, rfl, rfl, rfl⟩ rfl rfl rfl rfl rfl (by kernel_rfl) Tryd.func8 (by kernel_rfl)
    (of_decide_eq_true (by kernel_rfl)) (by unfold Func.isWrapper; first | (rw [if_pos (by decide +kernel)]; kernel_rfl) | (rw [if_neg (by decide +kernel)]; exact ⟨rfl, rfl⟩))
    (fun os started H enc _ F => by rw [OpenClaim.pre_eq_preRow]; exact lifted os started H enc F)

theorem plain (f : FuncId) (fn : Func) (hf : Tryd.pinned.checked.prog.funcNamed "offside/offsidelaw04.NumberBack" = some f) (hfn : Tryd.pinned.checked.prog.funcs[f]? = some fn) :
    false = Tryd.pinned.checked.prog.looks [] ∧ ∀ (j : Nat) t, fn.params[j]? = some t → Tryd.pinned.checked.prog.wantsStandIn t = false := by
  obtain rfl : f = 8 := Option.some.inj ((show Tryd.prog.funcNamed "offside/offsidelaw04.NumberBack" = some 8 by kernel_rfl).symm.trans hf) |>.symm
  obtain rfl : fn = Tryd.f8 := (Option.some.inj (Tryd.func8.symm.trans hfn)).symm
  refine ⟨by kernel_rfl, fun j t ht => ?_⟩
  rw [Tryd.params8] at ht
  have hm : t ∈ ([9] : List TypeId) := by simpa using Array.mem_of_getElem? ht
  have hall : (([9] : List TypeId).all fun u => !Tryd.prog.wantsStandIn u) = true := by kernel_rfl
  exact (show Tryd.prog.wantsStandIn t = false by simpa using List.all_eq_true.1 hall t hm)

end Go.Proofs.YthcogfceighbpaaDoor.numberBack
namespace Go.Proofs.YthcogfceighbpaaDoor
open Go.Proofs.YthcogfceighbpaaDoor.numberBack in
theorem numberBack_card : Rows.NumberBackCardSaid :=
  Claim7.holds_tied_plain_at .later [] _ _ _ _ said (fun _ h => by cases h) (by kernel_rfl) (fun _ h => by cases h) numberBack_row_tie rfl ⟨rfl, rfl⟩ (by kernel_rfl) rfl plain (by kernel_rfl)
end Go.Proofs.YthcogfceighbpaaDoor
