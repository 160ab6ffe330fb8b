/-
The law GlyphJoined returns true for every two texts: if the first is UTF-8, the fault of both together is the second's, behind the first; else the first has a fault within it. No condition but the form's own reach.
-/
import Derived.Test.YtimcnmmkccdcdaaDoorCards
import Derived.Test.YtimcnmmkccdcdaaDoorTie
import Derived.Test.YtimcnmmkccdcdaaDoorLaidU8
import Derived.Test.YtimcnmmkccdcdaaDoorL01Awake
set_option linter.unusedSimpArgs false
set_option linter.unusedVariables false
namespace Go.Proofs.YtimcnmmkccdcdaaDoor.glyphJoined
open Go.ChangeShapes Go.WideShapes Go.ChangeAt Go.RowKit
open Go.ChangeMaps (open_string shut_string)

theorem app_data (s t : ByteArray) : (s ++ t).data.toList = s.data.toList ++ t.data.toList := by
  obtain ⟨⟨a⟩⟩ := s
  obtain ⟨⟨b⟩⟩ := t
  simp
set_option maxHeartbeats 1000000 in
theorem walk (s t : ByteArray) (w : World) (hs : s.size ≤ 140737488351232) (ht : t.size ≤ 140737488351232) (hT : Tabs w) :
    Calls Tryd.prog 8 #[.string s, .string t] w fun e w' => e = .returned (.bool true) ∧ Below w.heap.size w w' := by
  obtain ⟨R, hR⟩ : ∃ R, checkL s.data.toList = R := ⟨_, rfl⟩
  obtain ⟨T, hTT⟩ : ∃ R, checkL t.data.toList = R := ⟨_, rfl⟩
  obtain ⟨U, hU⟩ : ∃ R, checkL (s ++ t).data.toList = R := ⟨_, rfl⟩
  have e1 := check_ends _ s.data.toList (Nat.le_refl _)
  have e2 := check_ends _ t.data.toList (Nat.le_refl _)
  have j1 : R.2 = 0 → U = (s.size + T.1, T.2) := fun h => by
    rw [← hU, app_data, check_join _ _ _ (Nat.le_refl _) (by rw [hR]; exact h), hTT, Lib.size_eq]
  have c1 := fun w hT => check_any s w (by omega) hT
  have c2 := fun w hT => check_any t w (by omega) hT
  have c3 := fun w hT => check_any (s ++ t) w (by rw [ByteArray.size_append]; omega) hT
  rw [hR] at c1 e1
  rw [hTT] at c2 e2
  rw [hU] at c3
  rw [← Lib.size_eq] at e1 e2
  have C1 := Lib.hid c1; have C2 := Lib.hid c2; have C3 := Lib.hid c3; have HT := Lib.hid hT
  clear c1 c2 c3 hR hTT hU hT
  obtain ⟨r1, r2⟩ := R
  obtain ⟨t1, t2⟩ := T
  obtain ⟨u1, u2⟩ := U
  simp only at e1 e2 j1
  have hap : Hid ((s ++ t).size = s.size + t.size) := ByteArray.size_append
  go_enter Tryd.func8, Tryd.ntmps8
  go_wp2_with fail
  refine (awake_any _ HT.out).mono ?_
  rintro e w1 ⟨rfl, hb1⟩
  have hT1 := Lib.hid (HT.out.below hb1)
  have HB1 := Lib.hid hb1
  clear hb1
  go_wp2_with fail
  refine (C1.out _ hT1.out).mono ?_
  rintro e w2 ⟨rfl, hb2⟩
  have hT2 := Lib.hid (hT1.out.below hb2)
  have HB2 := Lib.hid (Below.then HB1.out hb2)
  clear hb2
  go_wp2_with fail
  refine (C2.out _ hT2.out).mono ?_
  rintro e w3 ⟨rfl, hb3⟩
  have hT3 := Lib.hid (hT2.out.below hb3)
  have HB3 := Lib.hid (Below.then HB2.out hb3)
  clear hb3
  go_wp2_with fail
  refine (C3.out _ hT3.out).mono ?_
  rintro e w4 ⟨rfl, hb4⟩
  have HB4 := Lib.hid (Below.then HB3.out hb4)
  clear hb4
  rcases e1 with ⟨a1, a2⟩ | ⟨a1, a2⟩
  · have j2 := j1 a1
    simp only [Prod.mk.injEq] at j2
    obtain ⟨rfl, rfl⟩ := j2
    subst a1; subst a2
    clear j1
    have hle : t1 ≤ t.size := by omega
    clear e2
    go_wp2_with fail
    go_ret
    exact ⟨rfl, HB4.out⟩
  · subst a1
    clear j1 e2
    go_wp2_with fail
    go_ret
    exact ⟨rfl, HB4.out⟩

theorem own : ownKnob Tryd.prog.godebug = none := by kernel_rfl
set_option maxRecDepth 100000 in
theorem contract (H : Type) (enc : TypeId × Value → H) (W : World) (base : Nat) (args : Array Value) (ds gs : List (DataW H)) (before : List MemPlace)
    (hval : ∀ (j : Nat) t v, Tryd.f8.params[j]? = some t → args[j]? = some v → Value.okWide Tryd.prog W .any base t v)
    (hW : DataW.Whole enc Tryd.prog Tryd.f8.params.toList Rows.glyphJoinedSpec.vars false W args.toList ds gs before)
    (hsz0 : (DataW.weightsEach Tryd.prog (Tryd.f8.params.toList ++ (OpenSpec.ofChange Rows.glyphJoinedSpec).bare.plain.varTypes Tryd.prog) (ds ++ gs)).all (· ≤ reachBytes) = true)
    (hL : laidMetH Tryd.prog Rows.glyphJoinedRow.laid W) :
    Calls Tryd.prog 8 args W fun e W' => ∃ v, e = .returned v ∧ Rows.glyphJoinedSpec.post enc Tryd.prog Tryd.f8 false true false false W args v W' := by
  have hW' := hW
  obtain ⟨p, q, hA0, hV, rfl, hfz, hnd⟩ := hW
  have hA : DataW.TrodAll enc Tryd.prog W 0 (fun _ => true) true Tryd.f8.params.toList args.toList ds p := hA0
  have hsz : (DataW.weightsEach Tryd.prog (Tryd.f8.params.toList ++ []) (ds ++ gs)).all (· ≤ reachBytes) = true := hsz0
  rw [Tryd.params8] at hA hval hsz
  obtain ⟨v0, vs0, d0, ds0, p0, q0, hargs, rfl, rfl, h0, r0⟩ := trodAll_cons hA
  obtain ⟨v1, vs1, d1, ds1, p1, q1, rfl, rfl, rfl, h1, r1⟩ := trodAll_cons r0
  obtain ⟨rfl, rfl, rfl⟩ := trodAll_nil r1
  obtain rfl : args = #[v0, v1] := by cases args; simp_all
  obtain ⟨rfl, rfl⟩ := trodVars_none hV
  obtain ⟨s, rfl, rfl, rfl, wf0⟩ := open_string Tryd.underlying9 (hval 0 9 v0 rfl rfl) h0
  obtain ⟨t, rfl, rfl, rfl, wf1⟩ := open_string Tryd.underlying9 (hval 1 9 v1 rfl rfl) h1
  clear hA0 hsz0
  have z0 := sized_string hsz (j := 0) (t := 9) rfl rfl
  rw [← Lib.size_eq] at z0
  simp only [reachBytes] at z0
  have z1 := sized_string hsz (j := 1) (t := 9) rfl rfl
  rw [← Lib.size_eq] at z1
  simp only [reachBytes] at z1
  simp only [List.append_nil] at hW'
  rw [MakeChecks.laidMetH_plain _ _ _ (by kernel_rfl)] at hL
  have hT : Tabs W := tabs_of hL (by first | exact .head _ | exact .tail _ (.head _) | exact .tail _ (.tail _ (.head _)) | simp [Rows.glyphJoinedRow]) (by first | exact .head _ | exact .tail _ (.head _) | exact .tail _ (.tail _ (.head _)) | simp [Rows.glyphJoinedRow])
  refine (walk s t W z0 z1 hT).mono fun e W' ⟨he, hb⟩ => ?_
  subst he
  exact ⟨_, rfl, _, _, _, [], [], [], hW', trodAll_cons_mk (shut_bool Tryd.underlying4 _) trodAll_mk0, trodAll_cons_mk (shut_string Tryd.underlying9 wf0) (trodAll_cons_mk (shut_string Tryd.underlying9 wf1) (trodAll_mk0)), rfl, hb.frame _, fun h => by cases h⟩

set_option maxRecDepth 100000 in
theorem lifted (os : Os) (started : os.Started) (H : Type) (enc : TypeId × Value → H) (F : Stop.Interp) :
    ReturnsInHanded {} Tryd.checked os 8 .any ((OpenSpec.ofChange Rows.glyphJoinedSpec).preRow enc Tryd.prog Tryd.f8 Rows.glyphJoinedRow.domain false Rows.glyphJoinedRow.laid) (((OpenSpec.ofChange Rows.glyphJoinedSpec).at F).post enc Tryd.prog Tryd.f8 false true false false) := by
  have hx : DataW.whole enc Tryd.prog ((World.laidAll Tryd.prog os Rows.glyphJoinedRow.laid).forCall (fun _ _ => 0) ⟨#[], #[.string ByteArray.empty, .string ByteArray.empty], []⟩).memory Tryd.f8.params.toList Rows.glyphJoinedSpec.vars false (#[.string ByteArray.empty, .string ByteArray.empty] : Array Value).toList 8 = some ([.lit (.string []), .lit (.string [])], [], []) := by kernel_rfl
  refine returnsInHanded_of_row (C := Tryd.checked) (s := (OpenSpec.ofChange Rows.glyphJoinedSpec)) own started (by kernel_rfl) Tryd.func8
    (witness_row_at (enc := enc) (C := Tryd.checked) false (World.laidAll Tryd.prog os Rows.glyphJoinedRow.laid) #[.string ByteArray.empty, .string ByteArray.empty] (World.laidAll_os _ _ _) (by kernel_rfl) (by kernel_rfl) (by kernel_rfl)
      (OpenSpec.preRow_of_cond 8 hx (by kernel_rfl) (fun k hk => by cases hk) (by kernel_rfl) (by rw [MakeChecks.laidMetH_plain _ _ _ (by kernel_rfl)]; exact laidMet_laidAll _ (by kernel_rfl) (by kernel_rfl)))) ?_
  intro W base args ds gs before hval hW _ _ hsz hL _ _
  exact contract H enc W base args ds gs before hval hW hsz hL

theorem said : Rows.GlyphJoinedSaid :=
  OpenClaim.holds_of_cond 8 Tryd.f8 rfl rfl rfl rfl rfl rfl rfl ⟨rfl, rfl, rfl, rfl, rfl⟩ rfl rfl rfl rfl rfl (by kernel_rfl) Tryd.func8 (by kernel_rfl)
    (of_decide_eq_true (by kernel_rfl)) (by unfold Func.isWrapper; first | (rw [if_pos (by decide +kernel)]; kernel_rfl) | (rw [if_neg (by decide +kernel)]; exact ⟨rfl, rfl⟩))
    (fun os started H enc _ F => by rw [OpenClaim.pre_eq_preRow]; exact lifted os started H enc F)

theorem plain (f : FuncId) (fn : Func) (hf : Tryd.pinned.checked.prog.funcNamed "offside/offsidelaw01.GlyphJoined" = some f) (hfn : Tryd.pinned.checked.prog.funcs[f]? = some fn) :
    false = Tryd.pinned.checked.prog.looks [] ∧ ∀ (j : Nat) t, fn.params[j]? = some t → Tryd.pinned.checked.prog.wantsStandIn t = false := by
  obtain rfl : f = 8 := Option.some.inj ((show Tryd.prog.funcNamed "offside/offsidelaw01.GlyphJoined" = some 8 by kernel_rfl).symm.trans hf) |>.symm
  obtain rfl : fn = Tryd.f8 := (Option.some.inj (Tryd.func8.symm.trans hfn)).symm
  refine ⟨by kernel_rfl, fun j t ht => ?_⟩
  rw [Tryd.params8] at ht
  have hm : t ∈ ([9, 9] : List TypeId) := by simpa using Array.mem_of_getElem? ht
  have hall : (([9, 9] : List TypeId).all fun u => !Tryd.prog.wantsStandIn u) = true := by kernel_rfl
  exact (show Tryd.prog.wantsStandIn t = false by simpa using List.all_eq_true.1 hall t hm)

end Go.Proofs.YtimcnmmkccdcdaaDoor.glyphJoined
namespace Go.Proofs.YtimcnmmkccdcdaaDoor
open Go.Proofs.YtimcnmmkccdcdaaDoor.glyphJoined in
theorem glyphJoined_card : Rows.GlyphJoinedCardSaid :=
  Claim7.holds_tied_plain_at .later [] _ _ _ _ said (fun _ h => by cases h) (by kernel_rfl) (fun _ h => by cases h) glyphJoined_row_tie rfl ⟨rfl, rfl⟩ (by kernel_rfl) rfl plain (by kernel_rfl)
end Go.Proofs.YtimcnmmkccdcdaaDoor
