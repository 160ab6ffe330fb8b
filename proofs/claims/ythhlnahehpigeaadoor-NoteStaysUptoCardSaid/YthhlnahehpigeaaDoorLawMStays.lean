/-
The law NoteStays returns true for every text of the form's bulk and every number: a comment that is laid anew is of the same kind, and the same comment; laid anew once more it does not change.
-/
import Derived.Test.YthhlnahehpigeaaDoorFrame
import Derived.Test.YthhlnahehpigeaaDoorL06Laid
set_option linter.unusedSimpArgs false
set_option linter.unusedVariables false
namespace Go.Proofs.YthhlnahehpigeaaDoor.noteStays
open Go.ChangeShapes Go.WideShapes Go.ChangeAt Go.RowKit

theorem tidyN_none (l : List UInt8) (col : Int) (h : (tidyN l col).2 ≠ 0) : (tidyN l col).1 = [] := by
  unfold tidyN at h ⊢
  split
  · rfl
  · next hc =>
    rw [if_neg hc] at h
    cases hl : linesN l with
    | none => rfl
    | some ls => rw [hl] at h; exact absurd rfl h
set_option maxRecDepth 20000 in
set_option maxHeartbeats 2000000 in
theorem walk (s : ByteArray) (i : Int) (w : World) (hs : s.size ≤ 1048576) (hT : Len0 w) :
    Calls Tryd.prog 10 #[.string s, .int .i64 i] w fun e w' => e = .returned (.bool true) ∧ Below w.heap.size w w' := by
  have hbd := bd_text s 1048576 hs
  have hl : ∀ x ∈ linesL [] s.data.toList, x.length ≤ 4294967280 := fun x hx => Nat.le_trans (hbd.2 x hx) (by omega)
  have hlen := tidyN_len i hbd
  have c1 := fun w h0 => noteTidy_any s i w (by omega) hl (by omega) h0
  have HT := Lib.hid hT
  clear hT
  by_cases h0 : (tidyN s.data.toList i).2 = 0
  · obtain ⟨hk, hkn, hag, hsm⟩ := stays_plain s.data.toList i h0
    have hbd2 := tidyN_bd i hbd h0
    have hk1 := fun w => noteKind_any s w (by omega)
    generalize hR : tidyN s.data.toList i = R at *
    obtain ⟨a, b⟩ := R
    simp only at h0 hk hag hsm hbd2 hlen
    subst h0
    have hxs : (⟨a.toArray⟩ : ByteArray).size = a.length := by simp only [ByteArray.size, List.size_toArray]
    have hxd : (⟨a.toArray⟩ : ByteArray).data.toList = a := rfl
    have hl2 : ∀ x ∈ linesL [] a, x.length ≤ 4294967280 := fun x hx => Nat.le_trans (hbd2.2 x hx) (by omega)
    have hlen2 : (tidyN a i).1.length ≤ 140737488355327 := by rw [hag]; exact Nat.le_trans hlen (by omega)
    have c2 := fun w h0 => noteTidy_any ⟨a.toArray⟩ i w (by omega) hl2 hlen2 h0
    have c3 := fun w => noteKind_any ⟨a.toArray⟩ w (by omega)
    have c4 := fun w h0 => noteSame_any s ⟨a.toArray⟩ w (by omega) (by omega) hl hl2 (fun ls h => Nat.le_trans (linesN_join hbd h) (by omega)) (fun ls h => Nat.le_trans (linesN_join hbd2 h) (by omega)) h0
    rw [hxd] at c2 c3 c4
    rw [hag] at c2
    rw [hk] at c3
    rw [hsm] at c4
    generalize kindN s.data.toList = k at *
    unfold tidyV strV at c1 c2
    simp only at c1 c2
    generalize (⟨a.toArray⟩ : ByteArray) = x at *
    have g1 : (x.toList == x.toList) = true := by simp
    have g2 : (k == k) = true := by simp
    have g3 : (k == 0) = false := beq_eq_false_iff_ne.2 hkn
    have g4 : (k != 0) = true := by rw [bne_iff_ne]; exact hkn
    have C1 := Lib.hid c1; have C2 := Lib.hid c2; have C3 := Lib.hid c3; have C4 := Lib.hid c4; have K1 := Lib.hid hk1
    clear c1 c2 c3 c4 hk1 hl hbd hlen hl2 hlen2 hbd2 hxs hxd hR hag hsm hk hkn
    go_enter Tryd.func10, Tryd.ntmps10
    go_wp2_with fail
    refine (awake_any _ HT.out).mono ?_
    rintro e w1 ⟨rfl, hb1⟩
    have HB1 := Lib.hid (hb1)
    have HT1 := Lib.hid (HT.out.below HT.out.pos hb1)
    clear hb1
    go_wp2_with fail
    refine (C1.out _ HT1.out).mono ?_
    rintro e w2 ⟨rfl, hb2⟩
    have HB2 := Lib.hid (Below.then HB1.out hb2)
    have HT2 := Lib.hid (HT1.out.below HT1.out.pos hb2)
    clear hb2
    go_wp2_with fail
    refine (C2.out _ HT2.out).mono ?_
    rintro e w3 ⟨rfl, hb3⟩
    have HB3 := Lib.hid (Below.then HB2.out hb3)
    have HT3 := Lib.hid (HT2.out.below HT2.out.pos hb3)
    clear hb3
    go_wp2_with fail
    refine (C3.out _).mono ?_
    rintro e w4 ⟨rfl, hb4⟩
    have HB4 := Lib.hid (Below.then HB3.out hb4)
    have HT4 := Lib.hid (HT3.out.below HT3.out.pos hb4)
    clear hb4
    go_wp2_with fail
    refine (K1.out _).mono ?_
    rintro e w5 ⟨rfl, hb5⟩
    have HB5 := Lib.hid (Below.then HB4.out hb5)
    have HT5 := Lib.hid (HT4.out.below HT4.out.pos hb5)
    clear hb5
    go_wp2_with fail
    refine (K1.out _).mono ?_
    rintro e w6 ⟨rfl, hb6⟩
    have HB6 := Lib.hid (Below.then HB5.out hb6)
    have HT6 := Lib.hid (HT5.out.below HT5.out.pos hb6)
    clear hb6
    go_wp2_with fail
    refine (C4.out _ HT6.out).mono ?_
    rintro e w7 ⟨rfl, hb7⟩
    have HB7 := Lib.hid (Below.then HB6.out hb7)
    clear hb7
    go_wp2_with fail
    go_ret
    exact ⟨by first | rfl | simp, HB7.out⟩
  · have hn := tidyN_none _ _ h0
    generalize tidyN s.data.toList i = R at *
    obtain ⟨a, b⟩ := R
    simp only at h0 hn
    subst hn
    unfold tidyV at c1
    rw [show strV [] = .string ⟨#[]⟩ from rfl] at c1
    simp only at c1
    have g3 : (b == 0) = false := beq_eq_false_iff_ne.2 h0
    have g4 : (b != 0) = true := by rw [bne_iff_ne]; exact h0
    have C1 := Lib.hid c1
    clear c1 hl hbd hlen
    go_enter Tryd.func10, Tryd.ntmps10
    go_wp2_with fail
    refine (awake_any _ HT.out).mono ?_
    rintro e w1 ⟨rfl, hb1⟩
    have HB1 := Lib.hid (hb1)
    have HT1 := Lib.hid (HT.out.below HT.out.pos hb1)
    clear hb1
    go_wp2_with fail
    refine (C1.out _ HT1.out).mono ?_
    rintro e w2 ⟨rfl, hb2⟩
    have HB2 := Lib.hid (Below.then HB1.out hb2)
    clear hb2
    go_wp2_with fail
    go_ret
    exact ⟨by first | rfl | simp, HB2.out⟩

set_option maxRecDepth 100000 in
theorem contract (H : Type) (enc : TypeId × Value → H) (W : World) (base : Nat) (args : Array Value) (ds gs : List (DataW H)) (before : List MemPlace)
    (hval : ∀ (j : Nat) t v, Tryd.f10.params[j]? = some t → args[j]? = some v → Value.okWide Tryd.prog W .any base t v)
    (hW : DataW.Whole enc Tryd.prog Tryd.f10.params.toList Rows.noteStaysSpec.vars false W args.toList ds gs before)
    (hsz0 : (DataW.weightsEach Tryd.prog (Tryd.f10.params.toList ++ (Rows.OpenSpec.upto Rows.noteStaysSpec).bare.plain.varTypes Tryd.prog) (ds ++ gs)).all (· ≤ reachBytes) = true)
    (hbulk : Rows.uptoSmall H (ds ++ gs) = true)
    (hL : laidMetH Tryd.prog Rows.noteStaysUptoRow.laid W) (hsh : W.ShapedOpen Tryd.prog) :
    Calls Tryd.prog 10 args W fun e W' => ∃ v, e = .returned v ∧ Rows.noteStaysSpec.post enc Tryd.prog Tryd.f10 false true false false W args v W' := by
  have hW' := hW
  obtain ⟨p, q, hA0, hV, rfl, hfz, hnd⟩ := hW
  have hlt : ∀ x ∈ p, x.block < W.heap.size := fun x hx => hW'.lt x (List.mem_append_left _ hx)
  have hA : DataW.TrodAll enc Tryd.prog W 0 (fun _ => true) true Tryd.f10.params.toList args.toList ds p := hA0
  have hsz : (DataW.weightsEach Tryd.prog (Tryd.f10.params.toList ++ []) (ds ++ gs)).all (· ≤ reachBytes) = true := hsz0
  rw [Tryd.params10] at hA hval hsz
  have hA1 := hA
  obtain ⟨v0, vs0, d0, ds0, p0, q0, hargs, rfl, rfl, h0, r0⟩ := trodAll_cons hA
  obtain ⟨v1, vs1, d1, ds1, p1, q1, rfl, rfl, rfl, h1, r1⟩ := trodAll_cons r0
  obtain ⟨rfl, rfl, rfl⟩ := trodAll_nil r1
  obtain rfl : args = #[v0, v1] := by cases args; simp_all
  obtain ⟨rfl, rfl⟩ := trodVars_none hV
  clear hA0 hsz0
  obtain ⟨s, rfl, rfl, rfl, wf0⟩ := ChangeMaps.open_string Tryd.underlying9 (hval 0 9 v0 rfl rfl) h0
  obtain ⟨i, rfl, rfl, rfl, wf1⟩ := open_int Tryd.underlying3 (hval 1 3 v1 rfl rfl) h1
  have z0 := sized_string hsz (j := 0) (t := 9) rfl rfl
  rw [← Lib.size_eq] at z0
  simp only [reachBytes] at z0
  have zb := of_decide_eq_true hbulk
  simp only [List.append_nil, Rows.uptoBulkAll, Rows.uptoBulk, ← Lib.size_eq] at zb
  simp only [List.append_nil] at hW'
  rw [MakeChecks.laidMetH_plain _ _ _ (by kernel_rfl)] at hL
  have hT : Len0 W := len0_of hsh
  refine (walk s i W (by omega) hT).mono fun e W' ⟨he, hb⟩ => ?_
  subst he
  exact ⟨_, rfl, _, _, _, [], _, [], hW', trodAll_cons_mk (shut_bool Tryd.underlying4 _) trodAll_mk0, trodAll_stays laid_out _ _ _ _ (by kernel_rfl) hA1 (fun x hx => Below.same hb (hlt x hx)) (fun x hx => by simpa using hlt x hx), rfl, hb.frame _, fun h => by cases h⟩

set_option maxRecDepth 100000 in
theorem lifted (os : Os) (started : os.Started) (H : Type) (enc : TypeId × Value → H) (F : Stop.Interp) :
    ReturnsInHanded {} Tryd.checked os 10 .any ((Rows.OpenSpec.upto Rows.noteStaysSpec).preRow enc Tryd.prog Tryd.f10 Rows.noteStaysUptoRow.domain false Rows.noteStaysUptoRow.laid) (((Rows.OpenSpec.upto Rows.noteStaysSpec).at F).post enc Tryd.prog Tryd.f10 false true false false) := by
  have hx : DataW.whole enc Tryd.prog ((World.laidAll Tryd.prog os Rows.noteStaysUptoRow.laid).forCall (fun _ _ => 0) ⟨#[], #[.string ByteArray.empty, .int .i64 0], []⟩).memory Tryd.f10.params.toList Rows.noteStaysSpec.vars false (#[.string ByteArray.empty, .int .i64 0] : Array Value).toList 8 = some ([.lit (.string []), .lit (.int .i64 0)], [], []) := by kernel_rfl
  refine returnsInHanded_of_row (C := Tryd.checked) (s := (Rows.OpenSpec.upto Rows.noteStaysSpec)) own started (by kernel_rfl) Tryd.func10
    (witness_row_at (enc := enc) (C := Tryd.checked) false (World.laidAll Tryd.prog os Rows.noteStaysUptoRow.laid) #[.string ByteArray.empty, .int .i64 0] (World.laidAll_os _ _ _) (by kernel_rfl) (by kernel_rfl) (by kernel_rfl)
      (OpenSpec.preRow_of_cond 8 hx (by kernel_rfl) (fun k hk => by cases hk; kernel_rfl) (by kernel_rfl) (by rw [MakeChecks.laidMetH_plain _ _ _ (by kernel_rfl)]; exact laidMet_laidAll _ (by kernel_rfl) (by kernel_rfl)))) ?_
  intro W base args ds gs before hval hW _ hcond hsz hL hsh _
  exact contract H enc W base args ds gs before hval hW hsz (hcond _ rfl) hL hsh

theorem said : Rows.NoteStaysUptoSaid :=
  OpenClaim.holds_of_cond 10 Tryd.f10 rfl rfl rfl rfl rfl rfl rfl ⟨rfl, rfl, rfl, rfl, rfl⟩ rfl rfl rfl rfl rfl (by kernel_rfl) Tryd.func10 (by kernel_rfl)
    (of_decide_eq_true (by kernel_rfl)) (by unfold Func.isWrapper; first | (rw [if_pos (by decide +kernel)]; kernel_rfl) | (rw [if_neg (by decide +kernel)]; exact ⟨rfl, rfl⟩))
    (fun os started H enc _ F => by rw [OpenClaim.pre_eq_preRow]; exact lifted os started H enc F)

theorem plain (f : FuncId) (fn : Func) (hf : Tryd.pinned.checked.prog.funcNamed "offside/offsidelaw06.NoteStays" = some f) (hfn : Tryd.pinned.checked.prog.funcs[f]? = some fn) :
    false = Tryd.pinned.checked.prog.looks [] ∧ ∀ (j : Nat) t, fn.params[j]? = some t → Tryd.pinned.checked.prog.wantsStandIn t = false := by
  obtain rfl : f = 10 := Option.some.inj ((show Tryd.prog.funcNamed "offside/offsidelaw06.NoteStays" = some 10 by kernel_rfl).symm.trans hf) |>.symm
  obtain rfl : fn = Tryd.f10 := (Option.some.inj (Tryd.func10.symm.trans hfn)).symm
  refine ⟨by kernel_rfl, fun j t ht => ?_⟩
  rw [Tryd.params10] at ht
  have hm : t ∈ ([9, 3] : List TypeId) := by simpa using Array.mem_of_getElem? ht
  have hall : (([9, 3] : List TypeId).all fun u => !Tryd.prog.wantsStandIn u) = true := by kernel_rfl
  exact (show Tryd.prog.wantsStandIn t = false by simpa using List.all_eq_true.1 hall t hm)

end Go.Proofs.YthhlnahehpigeaaDoor.noteStays
namespace Go.Proofs.YthhlnahehpigeaaDoor
open Go.Proofs.YthhlnahehpigeaaDoor.noteStays in
theorem noteStays_card : Rows.NoteStaysUptoCardSaid :=
  Claim7.holds_tied_plain_at .later [] _ _ _ _ said (fun _ h => by cases h) (by kernel_rfl) (fun _ h => by cases h) noteStaysUpto_row_tie rfl ⟨rfl, rfl⟩ (by kernel_rfl) rfl plain (by kernel_rfl)
end Go.Proofs.YthhlnahehpigeaaDoor
