/-
The law WordBlank returns true for every two texts: a blank between two words leaves them what they are: each is found, and ends where it ended. No condition but the form's own reach.
-/
import Derived.Test.YthiljpnabgbabaaDoorCards
import Derived.Test.YthiljpnabgbabaaDoorTie
import Derived.Test.YthiljpnabgbabaaDoorLaidU8
import Derived.Test.YthiljpnabgbabaaDoorL03Awake
import Derived.Test.YthiljpnabgbabaaDoorWordP
set_option linter.unusedSimpArgs false
set_option linter.unusedVariables false
namespace Go.Proofs.YthiljpnabgbabaaDoor.wordBlank
open Go.ChangeShapes Go.WideShapes Go.ChangeAt Go.RowKit
open Go.ChangeMaps (open_string shut_string)

theorem sp_data (w t : ByteArray) : (w ++ ⟨#[32]⟩ ++ t).data.toList = w.data.toList ++ (32 :: t.data.toList) := by
  rw [app_data, app_data]; simp
set_option maxHeartbeats 1000000 in
theorem walk (s t : ByteArray) (w : World) (hs : s.size ≤ 140737488351232) (ht : t.size ≤ 140737488351232) (hT : Tabs w) :
    Calls Tryd.prog 9 #[.string s, .string t] w fun e w' => e = .returned (.bool true) ∧ Below w.heap.size w w' := by
  have k1 := fun w hT => kind_any s w (by omega) hT
  have k2 := fun w hT => kind_any t w (by omega) hT
  have a1 := fun w hT => apart_any s t w hs ht hT
  have HT := Lib.hid hT
  by_cases h0 : kindW s.data.toList = 0 ∨ kindW t.data.toList = 0
  · have ha : apartW s.data.toList t.data.toList = false := by
      unfold apartW
      rcases h0 with h | h <;> simp [h]
    rw [ha] at a1
    generalize kindW s.data.toList = k at *
    generalize kindW t.data.toList = l at *
    have K1 := Lib.hid k1; have K2 := Lib.hid k2; have A1 := Lib.hid a1
    clear k1 k2 a1 ha hT
    by_cases hk : k = 0
    · have hb : (k == 0) = true := beq_iff_eq.2 hk
      clear hk h0
      go_enter Tryd.func9, Tryd.ntmps9
      go_wp2_with fail
      refine (awake_any _ HT.out).mono ?_
      rintro e w1 ⟨rfl, hb1⟩
      have HB1 := Lib.hid (hb1)
      have HT1 := Lib.hid (HT.out.below hb1)
      clear hb1
      go_wp2_with fail
      refine (K1.out _ HT1.out).mono ?_
      rintro e w2 ⟨rfl, hb2⟩
      have HB2 := Lib.hid (Below.then HB1.out hb2)
      have HT2 := Lib.hid (HT1.out.below hb2)
      clear hb2
      go_wp2_with fail
      refine (K2.out _ HT2.out).mono ?_
      rintro e w3 ⟨rfl, hb3⟩
      have HB3 := Lib.hid (Below.then HB2.out hb3)
      have HT3 := Lib.hid (HT2.out.below hb3)
      clear hb3
      go_wp2_with fail
      refine (A1.out _ HT3.out).mono ?_
      rintro e w4 ⟨rfl, hb4⟩
      have HB4 := Lib.hid (Below.then HB3.out hb4)
      have HT4 := Lib.hid (HT3.out.below hb4)
      clear hb4
      go_wp2_with fail
      go_ret
      exact ⟨rfl, HB4.out⟩
    · have hb : (k == 0) = false := beq_eq_false_iff_ne.2 hk
      have hb2 : (l == 0) = true := beq_iff_eq.2 (by omega)
      clear hk h0
      go_enter Tryd.func9, Tryd.ntmps9
      go_wp2_with fail
      refine (awake_any _ HT.out).mono ?_
      rintro e w1 ⟨rfl, hb1⟩
      have HB1 := Lib.hid (hb1)
      have HT1 := Lib.hid (HT.out.below hb1)
      clear hb1
      go_wp2_with fail
      refine (K1.out _ HT1.out).mono ?_
      rintro e w2 ⟨rfl, hb2⟩
      have HB2 := Lib.hid (Below.then HB1.out hb2)
      have HT2 := Lib.hid (HT1.out.below hb2)
      clear hb2
      go_wp2_with fail
      refine (K2.out _ HT2.out).mono ?_
      rintro e w3 ⟨rfl, hb3⟩
      have HB3 := Lib.hid (Below.then HB2.out hb3)
      have HT3 := Lib.hid (HT2.out.below hb3)
      clear hb3
      go_wp2_with fail
      refine (A1.out _ HT3.out).mono ?_
      rintro e w4 ⟨rfl, hb4⟩
      have HB4 := Lib.hid (Below.then HB3.out hb4)
      have HT4 := Lib.hid (HT3.out.below hb4)
      clear hb4
      go_wp2_with fail
      go_ret
      exact ⟨rfl, HB4.out⟩
  have hk0 : kindW s.data.toList ≠ 0 := fun e => h0 (.inl e)
  have hl0 : kindW t.data.toList ≠ 0 := fun e => h0 (.inr e)
  obtain ⟨e1, e2⟩ := scan_of_kind _ hk0
  obtain ⟨e3, e4⟩ := scan_of_kind _ hl0
  have htp : 0 < t.size := by
    rw [Lib.size_eq]
    apply List.length_pos_iff.2
    intro e
    rw [e] at hl0
    exact hl0 rfl
  have hcut := scan_cut s.data.toList (32 :: t.data.toList) (by rw [e1]; exact hk0) (.inr ⟨_, rfl⟩)
  rw [e2, List.take_length] at hcut
  have hsz : (s ++ ⟨#[32]⟩ ++ t).size = s.size + 1 + t.size := by rw [ByteArray.size_append, ByteArray.size_append]; rfl
  have s1 := fun w hT => scanTop_any (s ++ ⟨#[32]⟩ ++ t) 0 w (by rw [hsz]; omega) hT
  have s2 := fun w hT => scanTop_any (s ++ ⟨#[32]⟩ ++ t) ((s.size : Int) + 1) w (by rw [hsz]; omega) hT
  have h1 : scanAt (s ++ ⟨#[32]⟩ ++ t).data.toList 0 = (kindW s.data.toList, (s.size : Int)) := by
    rw [sp_data, scanAt_zero _ (by simp), hcut, e1, if_neg hk0, e2, ← Lib.size_eq]
  have h2 : scanAt (s ++ ⟨#[32]⟩ ++ t).data.toList ((s.size : Int) + 1) = (kindW t.data.toList, (s.size : Int) + 1 + t.size) := by
    unfold scanAt
    rw [if_pos ⟨by omega, by rw [← Lib.size_eq, hsz]; omega⟩, sp_data, show ((s.size : Int) + 1).toNat = s.data.toList.length + 1 from by rw [← Lib.size_eq]; omega]
    have hd : (s.data.toList ++ (32 :: t.data.toList)).drop (s.data.toList.length + 1) = t.data.toList := by
      rw [List.drop_append, List.drop_eq_nil_of_le (by omega), Nat.add_sub_cancel_left]; rfl
    rw [hd, e3, if_neg hl0, e4, ← Lib.size_eq]
  rw [h1] at s1
  rw [h2] at s2
  generalize kindW s.data.toList = k at *
  generalize kindW t.data.toList = l at *
  have b1 : (k == 0) = false := beq_eq_false_iff_ne.2 hk0
  have b2 : (l == 0) = false := beq_eq_false_iff_ne.2 hl0
  have K1 := Lib.hid k1; have K2 := Lib.hid k2; have S1 := Lib.hid s1; have S2 := Lib.hid s2; have HSZ := Lib.hid hsz
  clear k1 k2 a1 s1 s2 h1 h2 hsz hcut e1 e2 e3 e4 hT h0 hk0 hl0 htp
  go_enter Tryd.func9, Tryd.ntmps9
  go_wp2_with fail
  refine (awake_any _ HT.out).mono ?_
  rintro e w1 ⟨rfl, hb1⟩
  have HB1 := Lib.hid (hb1)
  have HT1 := Lib.hid (HT.out.below hb1)
  clear hb1
  go_wp2_with fail
  refine (K1.out _ HT1.out).mono ?_
  rintro e w2 ⟨rfl, hb2⟩
  have HB2 := Lib.hid (Below.then HB1.out hb2)
  have HT2 := Lib.hid (HT1.out.below hb2)
  clear hb2
  go_wp2_with fail
  refine (K2.out _ HT2.out).mono ?_
  rintro e w3 ⟨rfl, hb3⟩
  have HB3 := Lib.hid (Below.then HB2.out hb3)
  have HT3 := Lib.hid (HT2.out.below hb3)
  clear hb3
  go_wp2_with fail
  refine (S1.out _ HT3.out).mono ?_
  rintro e w4 ⟨rfl, hb4⟩
  have HB4 := Lib.hid (Below.then HB3.out hb4)
  have HT4 := Lib.hid (HT3.out.below hb4)
  clear hb4
  go_wp2_with fail
  refine (S2.out _ HT4.out).mono ?_
  rintro e w5 ⟨rfl, hb5⟩
  have HB5 := Lib.hid (Below.then HB4.out hb5)
  have HT5 := Lib.hid (HT4.out.below hb5)
  clear hb5
  go_wp2_with fail
  go_ret
  exact ⟨rfl, HB5.out⟩

theorem own : ownKnob Tryd.prog.godebug = none := by kernel_rfl
set_option maxRecDepth 100000 in
theorem contract (H : Type) (enc : TypeId × Value → H) (W : World) (base : Nat) (args : Array Value) (ds gs : List (DataW H)) (before : List MemPlace)
    (hval : ∀ (j : Nat) t v, Tryd.f9.params[j]? = some t → args[j]? = some v → Value.okWide Tryd.prog W .any base t v)
    (hW : DataW.Whole enc Tryd.prog Tryd.f9.params.toList Rows.wordBlankSpec.vars false W args.toList ds gs before)
    (hsz0 : (DataW.weightsEach Tryd.prog (Tryd.f9.params.toList ++ (OpenSpec.ofChange Rows.wordBlankSpec).bare.plain.varTypes Tryd.prog) (ds ++ gs)).all (· ≤ reachBytes) = true)
    (hL : laidMetH Tryd.prog Rows.wordBlankRow.laid W) :
    Calls Tryd.prog 9 args W fun e W' => ∃ v, e = .returned v ∧ Rows.wordBlankSpec.post enc Tryd.prog Tryd.f9 false true false false W args v W' := by
  have hW' := hW
  obtain ⟨p, q, hA0, hV, rfl, hfz, hnd⟩ := hW
  have hA : DataW.TrodAll enc Tryd.prog W 0 (fun _ => true) true Tryd.f9.params.toList args.toList ds p := hA0
  have hsz : (DataW.weightsEach Tryd.prog (Tryd.f9.params.toList ++ []) (ds ++ gs)).all (· ≤ reachBytes) = true := hsz0
  rw [Tryd.params9] at hA hval hsz
  obtain ⟨v0, vs0, d0, ds0, p0, q0, hargs, rfl, rfl, h0, r0⟩ := trodAll_cons hA
  obtain ⟨v1, vs1, d1, ds1, p1, q1, rfl, rfl, rfl, h1, r1⟩ := trodAll_cons r0
  obtain ⟨rfl, rfl, rfl⟩ := trodAll_nil r1
  obtain rfl : args = #[v0, v1] := by cases args; simp_all
  obtain ⟨rfl, rfl⟩ := trodVars_none hV
  obtain ⟨s, rfl, rfl, rfl, wf0⟩ := open_string Tryd.underlying9 (hval 0 9 v0 rfl rfl) h0
  obtain ⟨t, rfl, rfl, rfl, wf1⟩ := open_string Tryd.underlying9 (hval 1 9 v1 rfl rfl) h1
  clear hA0 hsz0
  have z0 := sized_string hsz (j := 0) (t := 9) rfl rfl
  rw [← Lib.size_eq] at z0
  simp only [reachBytes] at z0
  have z1 := sized_string hsz (j := 1) (t := 9) rfl rfl
  rw [← Lib.size_eq] at z1
  simp only [reachBytes] at z1
  simp only [List.append_nil] at hW'
  rw [MakeChecks.laidMetH_plain _ _ _ (by kernel_rfl)] at hL
  have hT : Tabs W := tabs_of hL (by first | exact .head _ | exact .tail _ (.head _) | exact .tail _ (.tail _ (.head _)) | simp [Rows.wordBlankRow]) (by first | exact .head _ | exact .tail _ (.head _) | exact .tail _ (.tail _ (.head _)) | simp [Rows.wordBlankRow])
  refine (walk s t W z0 z1 hT).mono fun e W' ⟨he, hb⟩ => ?_
  subst he
  exact ⟨_, rfl, _, _, _, [], [], [], hW', trodAll_cons_mk (shut_bool Tryd.underlying4 _) trodAll_mk0, trodAll_cons_mk (shut_string Tryd.underlying9 wf0) (trodAll_cons_mk (shut_string Tryd.underlying9 wf1) (trodAll_mk0)), rfl, hb.frame _, fun h => by cases h⟩

set_option maxRecDepth 100000 in
theorem lifted (os : Os) (started : os.Started) (H : Type) (enc : TypeId × Value → H) (F : Stop.Interp) :
    ReturnsInHanded {} Tryd.checked os 9 .any ((OpenSpec.ofChange Rows.wordBlankSpec).preRow enc Tryd.prog Tryd.f9 Rows.wordBlankRow.domain false Rows.wordBlankRow.laid) (((OpenSpec.ofChange Rows.wordBlankSpec).at F).post enc Tryd.prog Tryd.f9 false true false false) := by
  have hx : DataW.whole enc Tryd.prog ((World.laidAll Tryd.prog os Rows.wordBlankRow.laid).forCall (fun _ _ => 0) ⟨#[], #[.string ByteArray.empty, .string ByteArray.empty], []⟩).memory Tryd.f9.params.toList Rows.wordBlankSpec.vars false (#[.string ByteArray.empty, .string ByteArray.empty] : Array Value).toList 8 = some ([.lit (.string []), .lit (.string [])], [], []) := by kernel_rfl
  refine returnsInHanded_of_row (C := Tryd.checked) (s := (OpenSpec.ofChange Rows.wordBlankSpec)) own started (by kernel_rfl) Tryd.func9
    (witness_row_at (enc := enc) (C := Tryd.checked) false (World.laidAll Tryd.prog os Rows.wordBlankRow.laid) #[.string ByteArray.empty, .string ByteArray.empty] (World.laidAll_os _ _ _) (by kernel_rfl) (by kernel_rfl) (by kernel_rfl)
      (OpenSpec.preRow_of_cond 8 hx (by kernel_rfl) (fun k hk => by cases hk) (by kernel_rfl) (by rw [MakeChecks.laidMetH_plain _ _ _ (by kernel_rfl)]; exact laidMet_laidAll _ (by kernel_rfl) (by kernel_rfl)))) ?_
  intro W base args ds gs before hval hW _ _ hsz hL _ _
  exact contract H enc W base args ds gs before hval hW hsz hL

theorem said : Rows.WordBlankSaid :=
  OpenClaim.holds_of_cond 9 Tryd.f9 rfl rfl rfl rfl rfl rfl rfl ⟨rfl, rfl, rfl, rfl, rfl⟩ rfl rfl rfl rfl rfl (by kernel_rfl) Tryd.func9 (by kernel_rfl)
    (of_decide_eq_true (by kernel_rfl)) (by unfold Func.isWrapper; first | (rw [if_pos (by decide +kernel)]; kernel_rfl) | (rw [if_neg (by decide +kernel)]; exact ⟨rfl, rfl⟩))
    (fun os started H enc _ F => by rw [OpenClaim.pre_eq_preRow]; exact lifted os started H enc F)

theorem plain (f : FuncId) (fn : Func) (hf : Tryd.pinned.checked.prog.funcNamed "offside/offsidelaw03.WordBlank" = some f) (hfn : Tryd.pinned.checked.prog.funcs[f]? = some fn) :
    false = Tryd.pinned.checked.prog.looks [] ∧ ∀ (j : Nat) t, fn.params[j]? = some t → Tryd.pinned.checked.prog.wantsStandIn t = false := by
  obtain rfl : f = 9 := Option.some.inj ((show Tryd.prog.funcNamed "offside/offsidelaw03.WordBlank" = some 9 by kernel_rfl).symm.trans hf) |>.symm
  obtain rfl : fn = Tryd.f9 := (Option.some.inj (Tryd.func9.symm.trans hfn)).symm
  refine ⟨by kernel_rfl, fun j t ht => ?_⟩
  rw [Tryd.params9] at ht
  have hm : t ∈ ([9, 9] : List TypeId) := by simpa using Array.mem_of_getElem? ht
  have hall : (([9, 9] : List TypeId).all fun u => !Tryd.prog.wantsStandIn u) = true := by kernel_rfl
  exact (show Tryd.prog.wantsStandIn t = false by simpa using List.all_eq_true.1 hall t hm)

end Go.Proofs.YthiljpnabgbabaaDoor.wordBlank
namespace Go.Proofs.YthiljpnabgbabaaDoor
open Go.Proofs.YthiljpnabgbabaaDoor.wordBlank in
theorem wordBlank_card : Rows.WordBlankCardSaid :=
  Claim7.holds_tied_plain_at .later [] _ _ _ _ said (fun _ h => by cases h) (by kernel_rfl) (fun _ h => by cases h) wordBlank_row_tie rfl ⟨rfl, rfl⟩ (by kernel_rfl) rfl plain (by kernel_rfl)
end Go.Proofs.YthiljpnabgbabaaDoor
