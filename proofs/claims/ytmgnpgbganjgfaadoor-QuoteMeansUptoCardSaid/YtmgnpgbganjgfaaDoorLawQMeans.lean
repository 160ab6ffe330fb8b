/-
The law QuoteMeans returns true for every text of the form's bulk: a literal whose gaps are made narrow means what it meant, and is so once for all; it has no newline and no tab.
-/
import Derived.Test.YtmgnpgbganjgfaaDoorFrame
import Derived.Test.YtmgnpgbganjgfaaDoorL05Awake
import Derived.Test.YtmgnpgbganjgfaaDoorL05Laid
import Derived.Test.YtmgnpgbganjgfaaDoorQuoC
set_option linter.unusedSimpArgs false
set_option linter.unusedVariables false
namespace Go.Proofs.YtmgnpgbganjgfaaDoor.quoteMeans
open Go.ChangeShapes Go.WideShapes Go.ChangeAt Go.RowKit

set_option maxRecDepth 20000 in
set_option maxHeartbeats 4000000 in
theorem walk (s : ByteArray) (w : World) (hs : s.size ≤ 1048576) (hT : Tabs5 w) :
    Calls Tryd.prog 9 #[.string s] w fun e w' => e = .returned (.bool true) ∧ Below w.heap.size w w' := by
  have c1 := fun w hT => runes_any s w (by omega) hT
  have c2 := fun w hT => plain_any s w (by omega) hT
  unfold RunesPost at c1
  unfold plainX at c2
  have HT := Lib.hid hT
  clear hT
  by_cases h0 : wholeE s.data.toList = 0
  · obtain ⟨hw, ho, hp, hat⟩ := means_plain s.data.toList h0
    have hlen := plainP_len s.data.toList h0
    rw [if_pos h0] at c2
    rw [h0] at c1
    generalize hA : plainP s.data.toList = a at *
    have hxs : (⟨a.toArray⟩ : ByteArray).size = a.length := by simp only [ByteArray.size, List.size_toArray]
    have hxd : (⟨a.toArray⟩ : ByteArray).data.toList = a := rfl
    have hsl := Lib.size_eq s
    have c3 := fun w hT => runes_any ⟨a.toArray⟩ w (by omega) hT
    have c4 := fun w hT => plain_any ⟨a.toArray⟩ w (by omega) hT
    unfold RunesPost at c3
    unfold plainX at c4
    rw [hxd] at c3 c4
    rw [if_pos hw, hp] at c4
    rw [hw, ho] at c3
    generalize (readP s.data.toList 0).2.out = out at *
    unfold textV at c2 c4
    simp only at c2 c4
    rw [← hxd] at hat
    have HAT := Lib.hid hat
    have hxb : (⟨a.toArray⟩ : ByteArray).size ≤ 16777216 := by omega
    clear hsl hxd hxs hlen hA hp ho hw h0 hat
    generalize (⟨a.toArray⟩ : ByteArray) = x at *
    have g1 : (x.toList == x.toList) = true := by simp
    have s1 := fun va vb w h1 h2 hf hf2 => sameI_any va vb out out w h1 h2 hf hf2
    rw [show decide (out = out) = true from decide_eq_true rfl] at s1
    have C1 := Lib.hid c1; have C2 := Lib.hid c2; have C3 := Lib.hid c3; have C4 := Lib.hid c4; have S1 := Lib.hid s1
    clear c1 c2 c3 c4 s1
    go_enter Tryd.func9, Tryd.ntmps9
    go_wp2_with fail
    refine (awake_any _ HT.out).mono ?_
    rintro e w1 ⟨rfl, hb1⟩
    have HB1 := Lib.hid (hb1)
    have HT1 := Lib.hid (HT.out.below hb1)
    clear hb1
    go_wp2_with fail
    refine (C1.out _ HT1.out).mono ?_
    rintro e w2 ⟨hb2, ⟨_, v, rfl, ho2⟩ | ⟨h0, _⟩⟩
    rotate_left
    · exact absurd rfl h0
    obtain ⟨hi2, hf2⟩ := ints_own ho2
    have HI2 := Lib.hid hi2
    have HF2 := Lib.hid hf2
    have HB2 := Lib.hid (Below.then HB1.out hb2); have HT2 := Lib.hid (HT1.out.below hb2)
    clear hb2 ho2 hi2 hf2
    go_wp2_with fail
    refine (C2.out _ HT2.out).mono ?_
    rintro e w3 ⟨rfl, hb3⟩
    have HB3 := Lib.hid (Below.then HB2.out hb3)
    have HT3 := Lib.hid (HT2.out.below hb3)
    have HBY3 := Lib.hid hb3; clear hb3
    go_wp2_with fail
    go_loop [8] (fun a => ∃ i : Nat, a = .int .i64 i ∧ i ≤ x.size) (fun a => x.size - (intOf a).toNat)
    case atStart => exact ⟨0, rfl, by omega⟩
    case round =>
      obtain ⟨k, rfl, hk⟩ := hrel
      by_cases hin : k < x.size
      · have t3 : decide (k < x.size) = true := by simp; omega
        have h32 : 32 ≤ x[k].toNat := HAT.out x[k] (List.mem_of_getElem? (byte_get x k hin))
        have q9 : ((x[k].toNat : Int) == 9) = false := beq_eq_false_iff_ne.2 (by omega)
        have q10 : ((x[k].toNat : Int) == 10) = false := beq_eq_false_iff_ne.2 (by omega)
        have q12 : ((x[k].toNat : Int) == 12) = false := beq_eq_false_iff_ne.2 (by omega)
        have q13 : ((x[k].toNat : Int) == 13) = false := beq_eq_false_iff_ne.2 (by omega)
        clear h32
        go_wp2_with fail
        go_round
        case rel => exact ⟨k + 1, by go_num, by omega⟩
        case measure => simp [intOf]; omega
      · have t3 : decide (k < x.size) = false := by simp; omega
        go_wp2_with fail
        refine (C3.out _ HT3.out).mono ?_
        rintro e w4 ⟨hb4, ⟨_, v, rfl, ho4⟩ | ⟨h0, _⟩⟩
        rotate_left
        · exact absurd rfl h0
        obtain ⟨hi4, hf4⟩ := ints_own ho4
        have HI4 := Lib.hid hi4
        have HF4 := Lib.hid hf4
        have HB4 := Lib.hid (Below.then HB3.out hb4); have HT4 := Lib.hid (HT3.out.below hb4)
        have HBY4 := Lib.hid hb4
        clear hb4 ho4 hi4 hf4
        go_wp2_with fail
        refine (C4.out _ HT4.out).mono ?_
        rintro e w5 ⟨rfl, hb5⟩
        have HB5 := Lib.hid (Below.then HB4.out hb5)
        have HBX := Lib.hid hb5; clear hb5
        go_wp2_with fail
        refine (S1.out _ _ _ (((HI2.out.keep HBY3.out).keep HBY4.out).keep HBX.out) (HI4.out.keep HBX.out) HF2.out HF4.out).mono ?_
        rintro e w6 ⟨rfl, hb6⟩
        have HB6 := Lib.hid (Below.then HB5.out hb6)
        clear hb6
        go_wp2_with fail
        go_ret
        exact ⟨by first | rfl | simp, HB6.out⟩
  · have g3 : (wholeE s.data.toList == 0) = false := beq_eq_false_iff_ne.2 h0
    have g4 : (wholeE s.data.toList != 0) = true := by rw [bne_iff_ne]; exact h0
    have g5 : (wholeE s.data.toList == wholeE s.data.toList) = true := by simp
    rw [if_neg h0] at c2
    unfold textV at c2
    simp only at c2
    try rw [show (⟨([] : List UInt8).toArray⟩ : ByteArray) = ⟨#[]⟩ from rfl] at c2
    generalize (readP s.data.toList 0).2.out = out at *
    generalize wholeE s.data.toList = E at *
    have C1 := Lib.hid c1; have C2 := Lib.hid c2
    clear c1 c2
    go_enter Tryd.func9, Tryd.ntmps9
    go_wp2_with fail
    refine (awake_any _ HT.out).mono ?_
    rintro e w1 ⟨rfl, hb1⟩
    have HB1 := Lib.hid (hb1)
    have HT1 := Lib.hid (HT.out.below hb1)
    clear hb1
    go_wp2_with fail
    refine (C1.out _ HT1.out).mono ?_
    rintro e w2 ⟨hb2, ⟨h1, _⟩ | ⟨_, rfl⟩⟩
    · exact absurd h1 h0
    have HB2 := Lib.hid (Below.then HB1.out hb2); have HT2 := Lib.hid (HT1.out.below hb2)
    clear hb2
    go_wp2_with fail
    refine (C2.out _ HT2.out).mono ?_
    rintro e w3 ⟨rfl, hb3⟩
    have HB3 := Lib.hid (Below.then HB2.out hb3)
    clear hb3
    go_wp2_with fail
    go_ret
    exact ⟨by first | rfl | simp, HB3.out⟩

set_option maxRecDepth 100000 in
theorem contract (H : Type) (enc : TypeId × Value → H) (W : World) (base : Nat) (args : Array Value) (ds gs : List (DataW H)) (before : List MemPlace)
    (hval : ∀ (j : Nat) t v, Tryd.f9.params[j]? = some t → args[j]? = some v → Value.okWide Tryd.prog W .any base t v)
    (hW : DataW.Whole enc Tryd.prog Tryd.f9.params.toList Rows.quoteMeansSpec.vars false W args.toList ds gs before)
    (hsz0 : (DataW.weightsEach Tryd.prog (Tryd.f9.params.toList ++ (Rows.OpenSpec.upto Rows.quoteMeansSpec).bare.plain.varTypes Tryd.prog) (ds ++ gs)).all (· ≤ reachBytes) = true)
    (hbulk : Rows.uptoSmall H (ds ++ gs) = true)
    (hL : laidMetH Tryd.prog Rows.quoteMeansUptoRow.laid W) :
    Calls Tryd.prog 9 args W fun e W' => ∃ v, e = .returned v ∧ Rows.quoteMeansSpec.post enc Tryd.prog Tryd.f9 false true false false W args v W' := by
  have hW' := hW
  obtain ⟨p, q, hA0, hV, rfl, hfz, hnd⟩ := hW
  have hlt : ∀ x ∈ p, x.block < W.heap.size := fun x hx => hW'.lt x (List.mem_append_left _ hx)
  have hA : DataW.TrodAll enc Tryd.prog W 0 (fun _ => true) true Tryd.f9.params.toList args.toList ds p := hA0
  have hsz : (DataW.weightsEach Tryd.prog (Tryd.f9.params.toList ++ []) (ds ++ gs)).all (· ≤ reachBytes) = true := hsz0
  rw [Tryd.params9] at hA hval hsz
  have hA1 := hA
  obtain ⟨v0, vs0, d0, ds0, p0, q0, hargs, rfl, rfl, h0, r0⟩ := trodAll_cons hA
  obtain ⟨rfl, rfl, rfl⟩ := trodAll_nil r0
  obtain rfl : args = #[v0] := by cases args; simp_all
  obtain ⟨rfl, rfl⟩ := trodVars_none hV
  clear hA0 hsz0
  obtain ⟨s, rfl, rfl, rfl, wf0⟩ := ChangeMaps.open_string Tryd.underlying9 (hval 0 9 v0 rfl rfl) h0
  have z0 := sized_string hsz (j := 0) (t := 9) rfl rfl
  rw [← Lib.size_eq] at z0
  simp only [reachBytes] at z0
  have zb := of_decide_eq_true hbulk
  simp only [List.append_nil, Rows.uptoBulkAll, Rows.uptoBulk, ← Lib.size_eq] at zb
  simp only [List.append_nil] at hW'
  rw [MakeChecks.laidMetH_plain _ _ _ (by kernel_rfl)] at hL
  have hT : Tabs5 W := tabs5_of hL (by first | exact .head _ | exact .tail _ (.head _) | exact .tail _ (.tail _ (.head _)) | exact .tail _ (.tail _ (.tail _ (.head _))) | exact .tail _ (.tail _ (.tail _ (.tail _ (.head _)))) | exact .tail _ (.tail _ (.tail _ (.tail _ (.tail _ (.head _))))) | exact .tail _ (.tail _ (.tail _ (.tail _ (.tail _ (.tail _ (.head _)))))) | exact .tail _ (.tail _ (.tail _ (.tail _ (.tail _ (.tail _ (.tail _ (.head _))))))) | exact .tail _ (.tail _ (.tail _ (.tail _ (.tail _ (.tail _ (.tail _ (.tail _ (.head _)))))))) | simp [Rows.quoteMeansUptoRow]) (by first | exact .head _ | exact .tail _ (.head _) | exact .tail _ (.tail _ (.head _)) | exact .tail _ (.tail _ (.tail _ (.head _))) | exact .tail _ (.tail _ (.tail _ (.tail _ (.head _)))) | exact .tail _ (.tail _ (.tail _ (.tail _ (.tail _ (.head _))))) | exact .tail _ (.tail _ (.tail _ (.tail _ (.tail _ (.tail _ (.head _)))))) | exact .tail _ (.tail _ (.tail _ (.tail _ (.tail _ (.tail _ (.tail _ (.head _))))))) | exact .tail _ (.tail _ (.tail _ (.tail _ (.tail _ (.tail _ (.tail _ (.tail _ (.head _)))))))) | simp [Rows.quoteMeansUptoRow]) (by first | exact .head _ | exact .tail _ (.head _) | exact .tail _ (.tail _ (.head _)) | exact .tail _ (.tail _ (.tail _ (.head _))) | exact .tail _ (.tail _ (.tail _ (.tail _ (.head _)))) | exact .tail _ (.tail _ (.tail _ (.tail _ (.tail _ (.head _))))) | exact .tail _ (.tail _ (.tail _ (.tail _ (.tail _ (.tail _ (.head _)))))) | exact .tail _ (.tail _ (.tail _ (.tail _ (.tail _ (.tail _ (.tail _ (.head _))))))) | exact .tail _ (.tail _ (.tail _ (.tail _ (.tail _ (.tail _ (.tail _ (.tail _ (.head _)))))))) | simp [Rows.quoteMeansUptoRow]) (by first | exact .head _ | exact .tail _ (.head _) | exact .tail _ (.tail _ (.head _)) | exact .tail _ (.tail _ (.tail _ (.head _))) | exact .tail _ (.tail _ (.tail _ (.tail _ (.head _)))) | exact .tail _ (.tail _ (.tail _ (.tail _ (.tail _ (.head _))))) | exact .tail _ (.tail _ (.tail _ (.tail _ (.tail _ (.tail _ (.head _)))))) | exact .tail _ (.tail _ (.tail _ (.tail _ (.tail _ (.tail _ (.tail _ (.head _))))))) | exact .tail _ (.tail _ (.tail _ (.tail _ (.tail _ (.tail _ (.tail _ (.tail _ (.head _)))))))) | simp [Rows.quoteMeansUptoRow])
  refine (walk s W (by omega) hT).mono fun e W' ⟨he, hb⟩ => ?_
  subst he
  exact ⟨_, rfl, _, _, _, [], _, [], hW', trodAll_cons_mk (shut_bool Tryd.underlying4 _) trodAll_mk0, trodAll_stays laid_out _ _ _ _ (by kernel_rfl) hA1 (fun x hx => Below.same hb (hlt x hx)) (fun x hx => by simpa using hlt x hx), rfl, hb.frame _, fun h => by cases h⟩

set_option maxRecDepth 100000 in
theorem lifted (os : Os) (started : os.Started) (H : Type) (enc : TypeId × Value → H) (F : Stop.Interp) :
    ReturnsInHanded {} Tryd.checked os 9 .any ((Rows.OpenSpec.upto Rows.quoteMeansSpec).preRow enc Tryd.prog Tryd.f9 Rows.quoteMeansUptoRow.domain false Rows.quoteMeansUptoRow.laid) (((Rows.OpenSpec.upto Rows.quoteMeansSpec).at F).post enc Tryd.prog Tryd.f9 false true false false) := by
  have hx : DataW.whole enc Tryd.prog ((World.laidAll Tryd.prog os Rows.quoteMeansUptoRow.laid).forCall (fun _ _ => 0) ⟨#[], #[.string ByteArray.empty], []⟩).memory Tryd.f9.params.toList Rows.quoteMeansSpec.vars false (#[.string ByteArray.empty] : Array Value).toList 8 = some ([.lit (.string [])], [], []) := by kernel_rfl
  refine returnsInHanded_of_row (C := Tryd.checked) (s := (Rows.OpenSpec.upto Rows.quoteMeansSpec)) own started (by kernel_rfl) Tryd.func9
    (witness_row_atRef (enc := enc) (C := Tryd.checked) false (World.laidAll Tryd.prog os Rows.quoteMeansUptoRow.laid) #[.string ByteArray.empty] (World.laidAll_os _ _ _) (by kernel_rfl) (by kernel_rfl) (by kernel_rfl)
      (OpenSpec.preRow_of_cond 8 hx (by kernel_rfl) (fun k hk => by cases hk; kernel_rfl) (by kernel_rfl) (by rw [MakeChecks.laidMetH_plain _ _ _ (by kernel_rfl)]; exact laidMet_laidAll _ (by kernel_rfl) (by kernel_rfl)))) ?_
  intro W base args ds gs before hval hW _ hcond hsz hL _ _
  exact contract H enc W base args ds gs before hval hW hsz (hcond _ rfl) hL

theorem said : Rows.QuoteMeansUptoSaid :=
  OpenClaim.holds_of_cond 9 Tryd.f9 rfl rfl rfl rfl rfl rfl rfl ⟨rfl, rfl, rfl, rfl, rfl⟩ rfl rfl rfl rfl rfl (by kernel_rfl) Tryd.func9 (by kernel_rfl)
    (of_decide_eq_true (by kernel_rfl)) (by unfold Func.isWrapper; first | (rw [if_pos (by decide +kernel)]; kernel_rfl) | (rw [if_neg (by decide +kernel)]; exact ⟨rfl, rfl⟩))
    (fun os started H enc _ F => by rw [OpenClaim.pre_eq_preRow]; exact lifted os started H enc F)

theorem plain (f : FuncId) (fn : Func) (hf : Tryd.pinned.checked.prog.funcNamed "offside/offsidelaw05.QuoteMeans" = some f) (hfn : Tryd.pinned.checked.prog.funcs[f]? = some fn) :
    true = Tryd.pinned.checked.prog.looks [] ∧ ∀ (j : Nat) t, fn.params[j]? = some t → Tryd.pinned.checked.prog.wantsStandIn t = false := by
  obtain rfl : f = 9 := Option.some.inj ((show Tryd.prog.funcNamed "offside/offsidelaw05.QuoteMeans" = some 9 by kernel_rfl).symm.trans hf) |>.symm
  obtain rfl : fn = Tryd.f9 := (Option.some.inj (Tryd.func9.symm.trans hfn)).symm
  refine ⟨by kernel_rfl, fun j t ht => ?_⟩
  rw [Tryd.params9] at ht
  have hm : t ∈ ([9] : List TypeId) := by simpa using Array.mem_of_getElem? ht
  have hall : (([9] : List TypeId).all fun u => !Tryd.prog.wantsStandIn u) = true := by kernel_rfl
  exact (show Tryd.prog.wantsStandIn t = false by simpa using List.all_eq_true.1 hall t hm)

end Go.Proofs.YtmgnpgbganjgfaaDoor.quoteMeans
namespace Go.Proofs.YtmgnpgbganjgfaaDoor
open Go.Proofs.YtmgnpgbganjgfaaDoor.quoteMeans in
theorem quoteMeans_card : Rows.QuoteMeansUptoCardSaid :=
  Claim7.holds_tied_plain_at .later [] _ _ _ _ said (fun _ h => by cases h) (by kernel_rfl) (fun _ h => by cases h) quoteMeansUpto_row_tie rfl ⟨rfl, rfl⟩ (by kernel_rfl) rfl plain (by kernel_rfl)
end Go.Proofs.YtmgnpgbganjgfaaDoor
