/-
The law PlaceStays returns true for every text of the form's bulk: spread it has no tab, and ends where it ended; once more spread it is the same.
-/
import Derived.Test.YtmbgfchbjedjnaaDoorCards
import Derived.Test.YtmbgfchbjedjnaaDoorTie
import Derived.Test.YtmbgfchbjedjnaaDoorLaidU8
import Derived.Test.YtmbgfchbjedjnaaDoorL02Awake
import Derived.Test.YtmbgfchbjedjnaaDoorPlaceR
set_option linter.unusedSimpArgs false
set_option linter.unusedVariables false
namespace Go.Proofs.YtmbgfchbjedjnaaDoor.placeStays
open Go.ChangeShapes Go.WideShapes Go.ChangeAt Go.RowKit
open Go.ChangeMaps (open_string shut_string)

set_option maxHeartbeats 1000000 in
theorem walk (s : ByteArray) (w : World) (_ : s.size ≤ 140737488351232) (hs : s.size ≤ 1048576) (hT : Tabs w) :
    Calls Tryd.prog 9 #[.string s] w fun e w' => e = .returned (.bool true) ∧ Below w.heap.size w w' := by
  have c1 := fun w hT => spread_any s w (by omega) hT
  obtain ⟨h9, hlen, hof⟩ := spread_all s.size s.data.toList 1 1 (by rw [← Lib.size_eq]; omega) (by omega)
  have hag := spread_again (spreadL s.data.toList 1) 1 h9
  unfold strV at c1
  obtain ⟨X, hX⟩ : ∃ X : ByteArray, (⟨(spreadL s.data.toList 1).toArray⟩ : ByteArray) = X := ⟨_, rfl⟩
  have hXl : X.data.toList = spreadL s.data.toList 1 := by rw [← hX]
  have hXs : X.size = (spreadL s.data.toList 1).length := by rw [← hXl, ← Lib.size_eq]
  rw [hX] at c1
  rw [← Lib.size_eq] at hlen hof
  have hXz : X.size ≤ 8388608 := by omega
  have c2 := fun w hT => of_any s s.size w (by omega) hT
  have c3 := fun w hT => of_any X X.size w (by omega) hT
  have c4 := fun w hT => spread_any X w (by omega) hT
  have hv2 : ofV s s.size = .tuple #[.int .i64 (ofL s.data.toList s.size 1 1).1, .int .i64 (ofL s.data.toList s.size 1 1).2, .int .i64 0] := by
    unfold ofV; rw [if_neg (by omega), Int.toNat_natCast]
  have hv3 : ofV X X.size = .tuple #[.int .i64 (ofL s.data.toList s.size 1 1).1, .int .i64 (ofL s.data.toList s.size 1 1).2, .int .i64 0] := by
    unfold ofV; rw [if_neg (by omega), Int.toNat_natCast, hXl, hXs, hof]
  have hv4 : strV (spreadL X.data.toList 1) = .string X := by rw [hXl, hag]; unfold strV; rw [hX]
  rw [hv2] at c2
  rw [hv3] at c3
  rw [hv4] at c4
  have hb : ∀ (i : Nat) (h : i < X.size), ((X[i].toNat : Int) == 9) = false := by
    intro i h
    rw [show ((X[i].toNat : Int) == 9) = (X[i] == 9) from toNat_beq _ 9, beq_eq_false_iff_ne]
    have h2 : X[i] ∈ X.data.toList := by
      rw [Array.mem_toList_iff]; exact Array.getElem_mem _
    rw [hXl] at h2
    exact h9 _ h2
  have hx : (X.toList == X.toList) = true := by simp
  generalize (ofL s.data.toList s.size 1 1).1 = A at *
  generalize (ofL s.data.toList s.size 1 1).2 = C at *
  have g1 : (A == A) = true := by simp
  have g2 : (C == C) = true := by simp
  have HT := Lib.hid hT; have C1 := Lib.hid c1; have C2 := Lib.hid c2; have C3 := Lib.hid c3; have C4 := Lib.hid c4; have HB := Lib.hid hb
  clear hT c1 c2 c3 c4 hb h9 hlen hof hag hX hXl hXs hv2 hv3 hv4
  go_enter Tryd.func9, Tryd.ntmps9
  go_wp2_with fail
  refine (awake_any _ HT.out).mono ?_
  rintro e w1 ⟨rfl, hb1⟩
  have HB1 := Lib.hid hb1
  have HT1 := Lib.hid (HT.out.below hb1)
  clear hb1
  go_wp2_with fail
  refine (C1.out _ HT1.out).mono ?_
  rintro e w2 ⟨rfl, hb2⟩
  have HB2 := Lib.hid (Below.then HB1.out hb2)
  have HT2 := Lib.hid (HT1.out.below hb2)
  clear hb2
  go_wp2_with fail
  go_loop [5] (fun a => ∃ i : Nat, a = .int .i64 i ∧ i ≤ X.size) (fun a => X.size - (intOf a).toNat)
  case atStart => exact ⟨0, rfl, by omega⟩
  case round =>
    obtain ⟨i, rfl, hi⟩ := hrel
    by_cases hin : i < X.size
    · have hb := HB.out i hin
      go_wp2_with fail
      go_round
      case rel => exact ⟨i + 1, by go_num, by omega⟩
      case measure => simp [intOf]; omega
    · have t3 : decide ((i : Int) < X.size) = false := by simp; omega
      go_wp2_with fail
      refine (C2.out _ HT2.out).mono ?_
      rintro e w3 ⟨rfl, hb3⟩
      have HB3 := Lib.hid (Below.then HB2.out hb3)
      have HT3 := Lib.hid (HT2.out.below hb3)
      clear hb3
      go_wp2_with fail
      refine (C3.out _ HT3.out).mono ?_
      rintro e w4 ⟨rfl, hb4⟩
      have HB4 := Lib.hid (Below.then HB3.out hb4)
      have HT4 := Lib.hid (HT3.out.below hb4)
      clear hb4
      go_wp2_with fail
      refine (C4.out _ HT4.out).mono ?_
      rintro e w5 ⟨rfl, hb5⟩
      have HB5 := Lib.hid (Below.then HB4.out hb5)
      clear hb5
      go_wp2_with fail
      go_ret
      exact ⟨rfl, HB5.out⟩

theorem own : ownKnob Tryd.prog.godebug = none := by kernel_rfl
set_option maxRecDepth 100000 in
theorem contract (H : Type) (enc : TypeId × Value → H) (W : World) (base : Nat) (args : Array Value) (ds gs : List (DataW H)) (before : List MemPlace)
    (hval : ∀ (j : Nat) t v, Tryd.f9.params[j]? = some t → args[j]? = some v → Value.okWide Tryd.prog W .any base t v)
    (hW : DataW.Whole enc Tryd.prog Tryd.f9.params.toList Rows.placeStaysSpec.vars false W args.toList ds gs before)
    (hsz0 : (DataW.weightsEach Tryd.prog (Tryd.f9.params.toList ++ (Rows.OpenSpec.upto Rows.placeStaysSpec).bare.plain.varTypes Tryd.prog) (ds ++ gs)).all (· ≤ reachBytes) = true)
    (hbulk : Rows.uptoSmall H (ds ++ gs) = true)
    (hL : laidMetH Tryd.prog Rows.placeStaysUptoRow.laid W) :
    Calls Tryd.prog 9 args W fun e W' => ∃ v, e = .returned v ∧ Rows.placeStaysSpec.post enc Tryd.prog Tryd.f9 false true false false W args v W' := by
  have hW' := hW
  obtain ⟨p, q, hA0, hV, rfl, hfz, hnd⟩ := hW
  have hA : DataW.TrodAll enc Tryd.prog W 0 (fun _ => true) true Tryd.f9.params.toList args.toList ds p := hA0
  have hsz : (DataW.weightsEach Tryd.prog (Tryd.f9.params.toList ++ []) (ds ++ gs)).all (· ≤ reachBytes) = true := hsz0
  rw [Tryd.params9] at hA hval hsz
  obtain ⟨v0, vs0, d0, ds0, p0, q0, hargs, rfl, rfl, h0, r0⟩ := trodAll_cons hA
  obtain ⟨rfl, rfl, rfl⟩ := trodAll_nil r0
  obtain rfl : args = #[v0] := by cases args; simp_all
  obtain ⟨rfl, rfl⟩ := trodVars_none hV
  obtain ⟨s, rfl, rfl, rfl, wf0⟩ := open_string Tryd.underlying9 (hval 0 9 v0 rfl rfl) h0
  clear hA0 hsz0
  have z0 := sized_string hsz (j := 0) (t := 9) rfl rfl
  rw [← Lib.size_eq] at z0
  simp only [reachBytes] at z0
  have zb := of_decide_eq_true hbulk
  simp only [List.append_nil, Rows.uptoBulkAll, Rows.uptoBulk, ← Lib.size_eq] at zb
  simp only [List.append_nil] at hW'
  rw [MakeChecks.laidMetH_plain _ _ _ (by kernel_rfl)] at hL
  have hT : Tabs W := tabs_of hL (by first | exact .head _ | exact .tail _ (.head _) | exact .tail _ (.tail _ (.head _)) | simp [Rows.placeStaysUptoRow]) (by first | exact .head _ | exact .tail _ (.head _) | exact .tail _ (.tail _ (.head _)) | simp [Rows.placeStaysUptoRow])
  refine (walk s W z0 (by omega) hT).mono fun e W' ⟨he, hb⟩ => ?_
  subst he
  exact ⟨_, rfl, _, _, _, [], [], [], hW', trodAll_cons_mk (shut_bool Tryd.underlying4 _) trodAll_mk0, trodAll_cons_mk (shut_string Tryd.underlying9 wf0) (trodAll_mk0), rfl, hb.frame _, fun h => by cases h⟩

set_option maxRecDepth 100000 in
theorem lifted (os : Os) (started : os.Started) (H : Type) (enc : TypeId × Value → H) (F : Stop.Interp) :
    ReturnsInHanded {} Tryd.checked os 9 .any ((Rows.OpenSpec.upto Rows.placeStaysSpec).preRow enc Tryd.prog Tryd.f9 Rows.placeStaysUptoRow.domain false Rows.placeStaysUptoRow.laid) (((Rows.OpenSpec.upto Rows.placeStaysSpec).at F).post enc Tryd.prog Tryd.f9 false true false false) := by
  have hx : DataW.whole enc Tryd.prog ((World.laidAll Tryd.prog os Rows.placeStaysUptoRow.laid).forCall (fun _ _ => 0) ⟨#[], #[.string ByteArray.empty], []⟩).memory Tryd.f9.params.toList Rows.placeStaysSpec.vars false (#[.string ByteArray.empty] : Array Value).toList 8 = some ([.lit (.string [])], [], []) := by kernel_rfl
  refine returnsInHanded_of_row (C := Tryd.checked) (s := (Rows.OpenSpec.upto Rows.placeStaysSpec)) own started (by kernel_rfl) Tryd.func9
    (witness_row_at (enc := enc) (C := Tryd.checked) false (World.laidAll Tryd.prog os Rows.placeStaysUptoRow.laid) #[.string ByteArray.empty] (World.laidAll_os _ _ _) (by kernel_rfl) (by kernel_rfl) (by kernel_rfl)
      (OpenSpec.preRow_of_cond 8 hx (by kernel_rfl) (fun k hk => by cases hk; kernel_rfl) (by kernel_rfl) (by rw [MakeChecks.laidMetH_plain _ _ _ (by kernel_rfl)]; exact laidMet_laidAll _ (by kernel_rfl) (by kernel_rfl)))) ?_
  intro W base args ds gs before hval hW _ hcond hsz hL _ _
  exact contract H enc W base args ds gs before hval hW hsz (hcond _ rfl) hL

theorem said : Rows.PlaceStaysUptoSaid :=
  OpenClaim.holds_of_cond 9 Tryd.f9 rfl rfl rfl rfl rfl rfl rfl ⟨rfl, rfl, rfl, rfl, rfl⟩ rfl rfl rfl rfl rfl (by kernel_rfl) Tryd.func9 (by kernel_rfl)
    (of_decide_eq_true (by kernel_rfl)) (by unfold Func.isWrapper; first | (rw [if_pos (by decide +kernel)]; kernel_rfl) | (rw [if_neg (by decide +kernel)]; exact ⟨rfl, rfl⟩))
    (fun os started H enc _ F => by rw [OpenClaim.pre_eq_preRow]; exact lifted os started H enc F)

theorem plain (f : FuncId) (fn : Func) (hf : Tryd.pinned.checked.prog.funcNamed "offside/offsidelaw02.PlaceStays" = some f) (hfn : Tryd.pinned.checked.prog.funcs[f]? = some fn) :
    false = Tryd.pinned.checked.prog.looks [] ∧ ∀ (j : Nat) t, fn.params[j]? = some t → Tryd.pinned.checked.prog.wantsStandIn t = false := by
  obtain rfl : f = 9 := Option.some.inj ((show Tryd.prog.funcNamed "offside/offsidelaw02.PlaceStays" = some 9 by kernel_rfl).symm.trans hf) |>.symm
  obtain rfl : fn = Tryd.f9 := (Option.some.inj (Tryd.func9.symm.trans hfn)).symm
  refine ⟨by kernel_rfl, fun j t ht => ?_⟩
  rw [Tryd.params9] at ht
  have hm : t ∈ ([9] : List TypeId) := by simpa using Array.mem_of_getElem? ht
  have hall : (([9] : List TypeId).all fun u => !Tryd.prog.wantsStandIn u) = true := by kernel_rfl
  exact (show Tryd.prog.wantsStandIn t = false by simpa using List.all_eq_true.1 hall t hm)

end Go.Proofs.YtmbgfchbjedjnaaDoor.placeStays
namespace Go.Proofs.YtmbgfchbjedjnaaDoor
open Go.Proofs.YtmbgfchbjedjnaaDoor.placeStays in
theorem placeStays_card : Rows.PlaceStaysUptoCardSaid :=
  Claim7.holds_tied_plain_at .later [] _ _ _ _ said (fun _ h => by cases h) (by kernel_rfl) (fun _ h => by cases h) placeStaysUpto_row_tie rfl ⟨rfl, rfl⟩ (by kernel_rfl) rfl plain (by kernel_rfl)
end Go.Proofs.YtmbgfchbjedjnaaDoor
