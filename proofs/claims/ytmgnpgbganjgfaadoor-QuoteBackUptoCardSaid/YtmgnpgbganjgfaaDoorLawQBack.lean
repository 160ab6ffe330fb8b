/-
The law QuoteBack returns true for any numbers of the form's bulk: what characters are written as means these characters.
-/
import Derived.Test.YtmgnpgbganjgfaaDoorFrame
import Derived.Test.YtmgnpgbganjgfaaDoorL05Awake
import Derived.Test.YtmgnpgbganjgfaaDoorL05Laid
import Derived.Test.YtmgnpgbganjgfaaDoorIntsOpen
set_option linter.unusedSimpArgs false
set_option linter.unusedVariables false
namespace Go.Proofs.YtmgnpgbganjgfaaDoor.quoteBack
open Go.ChangeShapes Go.WideShapes Go.ChangeAt Go.RowKit

theorem decDigits_len (u : Nat) (h : u ≤ 1114111) : (Lib.decDigits u).length ≤ 7 := dec_len7 7 u (by omega) (by omega)
theorem piece_len (c : Int) (h : inW c = true) : (pieceW c).length ≤ 8 := by
  unfold inW at h
  simp only [Bool.and_eq_true, decide_eq_true_eq] at h
  unfold pieceW
  split
  · simp
  · split
    · have := decDigits_len c.toNat (by omega)
      simp only [List.length_cons]; omega
    · split <;> simp
theorem body_len (l : List Int) : ∀ num, l.all inW = true → (bodyW num l).length ≤ 10 * l.length := by
  induction l with
  | nil => intro num _; simp [bodyW]
  | cons c t ih =>
    intro num h
    rw [List.all_cons, Bool.and_eq_true] at h
    have h1 := ih (isNumW c) h.2
    have h2 := piece_len c h.1
    show ((if (num && isD c) = true then [92, 38] else []) ++ pieceW c ++ bodyW (isNumW c) t : List UInt8).length ≤ _
    have h3 : ((if (num && isD c) = true then [92, 38] else [] : List UInt8)).length ≤ 2 := by split <;> simp
    simp only [List.length_append, List.length_cons]
    omega
theorem writeP_len (l : List Int) (t : List UInt8) (h : writeP l = some t) : t.length ≤ 10 * l.length + 2 := by
  unfold writeP at h
  split at h
  · next hall =>
    injection h with h
    have := body_len l false hall
    rw [← h]
    simp only [List.length_append, List.length_cons, List.length_nil]
    omega
  · cases h
set_option maxRecDepth 20000 in
set_option maxHeartbeats 4000000 in
theorem walk (L : List Int) (v : Value) (w : World) (hL : IntsAt w v L) (hlen : L.length ≤ 1048576) (hT : Tabs5 w) :
    Calls Tryd.prog 6 #[v] w fun e w' => e = .returned (.bool true) ∧ Below w.heap.size w w' := by
  have c1 := fun w hL hT => write_any v L w hL hlen hT
  obtain ⟨a0, c0, rfl, hL0⟩ := hL
  have HL := Lib.hid (show IntsAt w (.slice a0 L.length c0) L from ⟨a0, c0, rfl, hL0⟩)
  clear hL0
  have HT := Lib.hid hT
  clear hT
  unfold writeX at c1
  cases hw : writeP L with
  | none =>
    rw [hw] at c1
    unfold textV at c1
    simp only at c1
    try rw [show (⟨([] : List UInt8).toArray⟩ : ByteArray) = ⟨#[]⟩ from rfl] at c1
    have C1 := Lib.hid c1
    clear c1 hw
    go_enter Tryd.func6, Tryd.ntmps6
    go_wp2_with fail
    refine (awake_any _ HT.out).mono ?_
    rintro e w1 ⟨rfl, hb1⟩
    have HB1 := Lib.hid (hb1)
    have HT1 := Lib.hid (HT.out.below hb1)
    clear hb1
    go_wp2_with fail
    refine (C1.out _ (HL.out.keep HB1.out) HT1.out).mono ?_
    rintro e w2 ⟨rfl, hb2⟩
    have HB2 := Lib.hid (Below.then HB1.out hb2)
    clear hb2
    go_wp2_with fail
    go_ret
    exact ⟨by first | rfl | simp, HB2.out⟩
  | some t =>
    rw [hw] at c1
    obtain ⟨hr, hwh⟩ := back_lit L t hw
    have hlt := writeP_len L t hw
    have hxs : (⟨t.toArray⟩ : ByteArray).size = t.length := by simp only [ByteArray.size, List.size_toArray]
    have hxd : (⟨t.toArray⟩ : ByteArray).data.toList = t := rfl
    have c2 := fun w hT => runes_any ⟨t.toArray⟩ w (by omega) hT
    have c3 := fun w hT => quoteScan_any ⟨t.toArray⟩ 0 w (by omega) hT
    unfold RunesPost at c2
    rw [hxd] at c2 c3
    rw [hwh, hr] at c2
    rw [hr] at c3
    unfold textV at c1
    unfold scanV5 at c3
    simp only [if_pos] at c1 c2 c3
    rw [← hxs] at c3
    have s1 := fun va vb w h1 h2 hf hf2 => sameI_any va vb L L w h1 h2 hf hf2
    rw [show decide (L = L) = true from decide_eq_true rfl] at s1
    clear hxd hxs hlt hr hwh hw
    generalize (⟨t.toArray⟩ : ByteArray) = x at *
    have g1 : ((x.size : Int) == (x.size : Int)) = true := by simp
    have g2 : (x.size == x.size) = true := by simp
    have C1 := Lib.hid c1; have C2 := Lib.hid c2; have C3 := Lib.hid c3; have S1 := Lib.hid s1
    clear c1 c2 c3 s1
    go_enter Tryd.func6, Tryd.ntmps6
    go_wp2_with fail
    refine (awake_any _ HT.out).mono ?_
    rintro e w1 ⟨rfl, hb1⟩
    have HB1 := Lib.hid (hb1)
    have HT1 := Lib.hid (HT.out.below hb1)
    clear hb1
    go_wp2_with fail
    refine (C1.out _ (HL.out.keep HB1.out) HT1.out).mono ?_
    rintro e w2 ⟨rfl, hb2⟩
    have HB2 := Lib.hid (Below.then HB1.out hb2)
    have HT2 := Lib.hid (HT1.out.below hb2)
    clear hb2
    go_wp2_with fail
    refine (C2.out _ HT2.out).mono ?_
    rintro e w3 ⟨hb3, ⟨_, v, rfl, ho3⟩ | ⟨h0, _⟩⟩
    rotate_left
    · exact absurd rfl h0
    obtain ⟨hi3, hf3⟩ := ints_own ho3
    have HI3 := Lib.hid hi3
    have HF3 := Lib.hid hf3
    have HB3 := Lib.hid (Below.then HB2.out hb3); have HT3 := Lib.hid (HT2.out.below hb3)
    clear hb3 ho3 hi3 hf3
    go_wp2_with fail
    refine (C3.out _ HT3.out).mono ?_
    rintro e w4 ⟨rfl, hb4⟩
    have HB4 := Lib.hid (Below.then HB3.out hb4)
    have HBX := Lib.hid hb4; clear hb4
    go_wp2_with fail
    refine (S1.out _ _ _ (HL.out.keep HB4.out) (HI3.out.keep (by exact HBX.out)) (by omega) HF3.out).mono ?_
    rintro e w5 ⟨rfl, hb5⟩
    have HB5 := Lib.hid (Below.then HB4.out hb5)
    clear hb5
    go_wp2_with fail
    go_ret
    exact ⟨by first | rfl | simp, HB5.out⟩

set_option maxRecDepth 100000 in
theorem contract (H : Type) (enc : TypeId × Value → H) (W : World) (base : Nat) (args : Array Value) (ds gs : List (DataW H)) (before : List MemPlace)
    (hval : ∀ (j : Nat) t v, Tryd.f6.params[j]? = some t → args[j]? = some v → Value.okWide Tryd.prog W .any base t v)
    (hW : DataW.Whole enc Tryd.prog Tryd.f6.params.toList Rows.quoteBackSpec.vars false W args.toList ds gs before)
    (hsz0 : (DataW.weightsEach Tryd.prog (Tryd.f6.params.toList ++ (Rows.OpenSpec.upto Rows.quoteBackSpec).bare.plain.varTypes Tryd.prog) (ds ++ gs)).all (· ≤ reachBytes) = true)
    (hbulk : Rows.uptoSmall H (ds ++ gs) = true)
    (hL : laidMetH Tryd.prog Rows.quoteBackUptoRow.laid W) :
    Calls Tryd.prog 6 args W fun e W' => ∃ v, e = .returned v ∧ Rows.quoteBackSpec.post enc Tryd.prog Tryd.f6 false true false false W args v W' := by
  have hW' := hW
  obtain ⟨p, q, hA0, hV, rfl, hfz, hnd⟩ := hW
  have hlt : ∀ x ∈ p, x.block < W.heap.size := fun x hx => hW'.lt x (List.mem_append_left _ hx)
  have hA : DataW.TrodAll enc Tryd.prog W 0 (fun _ => true) true Tryd.f6.params.toList args.toList ds p := hA0
  have hsz : (DataW.weightsEach Tryd.prog (Tryd.f6.params.toList ++ []) (ds ++ gs)).all (· ≤ reachBytes) = true := hsz0
  rw [Tryd.params6] at hA hval hsz
  have hA1 := hA
  obtain ⟨v0, vs0, d0, ds0, p0, q0, hargs, rfl, rfl, h0, r0⟩ := trodAll_cons hA
  obtain ⟨rfl, rfl, rfl⟩ := trodAll_nil r0
  obtain rfl : args = #[v0] := by cases args; simp_all
  obtain ⟨rfl, rfl⟩ := trodVars_none hV
  clear hA0 hsz0
  obtain ⟨L, hl0, hb0⟩ := open_intsV (hval 0 27 v0 rfl rfl) h0
  have zb := of_decide_eq_true hbulk
  simp only [List.append_nil, Rows.uptoBulkAll, Rows.uptoBulk, ← Lib.size_eq] at zb
  simp only [List.append_nil] at hW'
  rw [MakeChecks.laidMetH_plain _ _ _ (by kernel_rfl)] at hL
  have hT : Tabs5 W := tabs5_of hL (by first | exact .head _ | exact .tail _ (.head _) | exact .tail _ (.tail _ (.head _)) | exact .tail _ (.tail _ (.tail _ (.head _))) | exact .tail _ (.tail _ (.tail _ (.tail _ (.head _)))) | exact .tail _ (.tail _ (.tail _ (.tail _ (.tail _ (.head _))))) | exact .tail _ (.tail _ (.tail _ (.tail _ (.tail _ (.tail _ (.head _)))))) | exact .tail _ (.tail _ (.tail _ (.tail _ (.tail _ (.tail _ (.tail _ (.head _))))))) | exact .tail _ (.tail _ (.tail _ (.tail _ (.tail _ (.tail _ (.tail _ (.tail _ (.head _)))))))) | simp [Rows.quoteBackUptoRow]) (by first | exact .head _ | exact .tail _ (.head _) | exact .tail _ (.tail _ (.head _)) | exact .tail _ (.tail _ (.tail _ (.head _))) | exact .tail _ (.tail _ (.tail _ (.tail _ (.head _)))) | exact .tail _ (.tail _ (.tail _ (.tail _ (.tail _ (.head _))))) | exact .tail _ (.tail _ (.tail _ (.tail _ (.tail _ (.tail _ (.head _)))))) | exact .tail _ (.tail _ (.tail _ (.tail _ (.tail _ (.tail _ (.tail _ (.head _))))))) | exact .tail _ (.tail _ (.tail _ (.tail _ (.tail _ (.tail _ (.tail _ (.tail _ (.head _)))))))) | simp [Rows.quoteBackUptoRow]) (by first | exact .head _ | exact .tail _ (.head _) | exact .tail _ (.tail _ (.head _)) | exact .tail _ (.tail _ (.tail _ (.head _))) | exact .tail _ (.tail _ (.tail _ (.tail _ (.head _)))) | exact .tail _ (.tail _ (.tail _ (.tail _ (.tail _ (.head _))))) | exact .tail _ (.tail _ (.tail _ (.tail _ (.tail _ (.tail _ (.head _)))))) | exact .tail _ (.tail _ (.tail _ (.tail _ (.tail _ (.tail _ (.tail _ (.head _))))))) | exact .tail _ (.tail _ (.tail _ (.tail _ (.tail _ (.tail _ (.tail _ (.tail _ (.head _)))))))) | simp [Rows.quoteBackUptoRow]) (by first | exact .head _ | exact .tail _ (.head _) | exact .tail _ (.tail _ (.head _)) | exact .tail _ (.tail _ (.tail _ (.head _))) | exact .tail _ (.tail _ (.tail _ (.tail _ (.head _)))) | exact .tail _ (.tail _ (.tail _ (.tail _ (.tail _ (.head _))))) | exact .tail _ (.tail _ (.tail _ (.tail _ (.tail _ (.tail _ (.head _)))))) | exact .tail _ (.tail _ (.tail _ (.tail _ (.tail _ (.tail _ (.tail _ (.head _))))))) | exact .tail _ (.tail _ (.tail _ (.tail _ (.tail _ (.tail _ (.tail _ (.tail _ (.head _)))))))) | simp [Rows.quoteBackUptoRow])
  refine (walk L v0 W hl0 (by omega) hT).mono fun e W' ⟨he, hb⟩ => ?_
  subst he
  exact ⟨_, rfl, _, _, _, [], _, [], hW', trodAll_cons_mk (shut_bool Tryd.underlying4 _) trodAll_mk0, trodAll_stays laid_out _ _ _ _ (by kernel_rfl) hA1 (fun x hx => Below.same hb (hlt x hx)) (fun x hx => by simpa using hlt x hx), rfl, hb.frame _, fun h => by cases h⟩

set_option maxRecDepth 100000 in
theorem lifted (os : Os) (started : os.Started) (H : Type) (enc : TypeId × Value → H) (F : Stop.Interp) :
    ReturnsInHanded {} Tryd.checked os 6 .any ((Rows.OpenSpec.upto Rows.quoteBackSpec).preRow enc Tryd.prog Tryd.f6 Rows.quoteBackUptoRow.domain false Rows.quoteBackUptoRow.laid) (((Rows.OpenSpec.upto Rows.quoteBackSpec).at F).post enc Tryd.prog Tryd.f6 false true false false) := by
  have hx : DataW.whole enc Tryd.prog ((World.laidAll Tryd.prog os Rows.quoteBackUptoRow.laid).forCall (fun _ _ => 0) ⟨#[], #[.slice none 0 0], []⟩).memory Tryd.f6.params.toList Rows.quoteBackSpec.vars false (#[.slice none 0 0] : Array Value).toList 8 = some ([.nil], [], []) := by kernel_rfl
  refine returnsInHanded_of_row (C := Tryd.checked) (s := (Rows.OpenSpec.upto Rows.quoteBackSpec)) own started (by kernel_rfl) Tryd.func6
    (witness_row_atRef (enc := enc) (C := Tryd.checked) false (World.laidAll Tryd.prog os Rows.quoteBackUptoRow.laid) #[.slice none 0 0] (World.laidAll_os _ _ _) (by kernel_rfl) (by kernel_rfl) (by kernel_rfl)
      (OpenSpec.preRow_of_cond 8 hx (by kernel_rfl) (fun k hk => by cases hk; kernel_rfl) (by kernel_rfl) (by rw [MakeChecks.laidMetH_plain _ _ _ (by kernel_rfl)]; exact laidMet_laidAll _ (by kernel_rfl) (by kernel_rfl)))) ?_
  intro W base args ds gs before hval hW _ hcond hsz hL _ _
  exact contract H enc W base args ds gs before hval hW hsz (hcond _ rfl) hL

theorem said : Rows.QuoteBackUptoSaid :=
  OpenClaim.holds_of_cond 6 Tryd.f6 rfl rfl rfl rfl rfl rfl rfl ⟨rfl, rfl, rfl, rfl, rfl⟩ rfl rfl rfl rfl rfl (by kernel_rfl) Tryd.func6 (by kernel_rfl)
    (of_decide_eq_true (by kernel_rfl)) (by unfold Func.isWrapper; first | (rw [if_pos (by decide +kernel)]; kernel_rfl) | (rw [if_neg (by decide +kernel)]; exact ⟨rfl, rfl⟩))
    (fun os started H enc _ F => by rw [OpenClaim.pre_eq_preRow]; exact lifted os started H enc F)

theorem plain (f : FuncId) (fn : Func) (hf : Tryd.pinned.checked.prog.funcNamed "offside/offsidelaw05.QuoteBack" = some f) (hfn : Tryd.pinned.checked.prog.funcs[f]? = some fn) :
    true = Tryd.pinned.checked.prog.looks [] ∧ ∀ (j : Nat) t, fn.params[j]? = some t → Tryd.pinned.checked.prog.wantsStandIn t = false := by
  obtain rfl : f = 6 := Option.some.inj ((show Tryd.prog.funcNamed "offside/offsidelaw05.QuoteBack" = some 6 by kernel_rfl).symm.trans hf) |>.symm
  obtain rfl : fn = Tryd.f6 := (Option.some.inj (Tryd.func6.symm.trans hfn)).symm
  refine ⟨by kernel_rfl, fun j t ht => ?_⟩
  rw [Tryd.params6] at ht
  have hm : t ∈ ([27] : List TypeId) := by simpa using Array.mem_of_getElem? ht
  have hall : (([27] : List TypeId).all fun u => !Tryd.prog.wantsStandIn u) = true := by kernel_rfl
  exact (show Tryd.prog.wantsStandIn t = false by simpa using List.all_eq_true.1 hall t hm)

end Go.Proofs.YtmgnpgbganjgfaaDoor.quoteBack
namespace Go.Proofs.YtmgnpgbganjgfaaDoor
open Go.Proofs.YtmgnpgbganjgfaaDoor.quoteBack in
theorem quoteBack_card : Rows.QuoteBackUptoCardSaid :=
  Claim7.holds_tied_plain_at .later [] _ _ _ _ said (fun _ h => by cases h) (by kernel_rfl) (fun _ h => by cases h) quoteBackUpto_row_tie rfl ⟨rfl, rfl⟩ (by kernel_rfl) rfl plain (by kernel_rfl)
end Go.Proofs.YtmgnpgbganjgfaaDoor
