/-
The law NoteWhole returns true for every two texts of the form's bulk and every number: what is found as a comment in a text is one by itself; a nested one is found so, whatever stands behind it.
-/
import Derived.Test.YthhlnahehpigeaaDoorFrame
import Derived.Test.YthhlnahehpigeaaDoorL06Laid
set_option linter.unusedSimpArgs false
set_option linter.unusedVariables false
namespace Go.Proofs.YthhlnahehpigeaaDoor.noteWhole
open Go.ChangeShapes Go.WideShapes Go.ChangeAt Go.RowKit

theorem scanN_bad (l : List UInt8) (i : Int) (h : (scanN l i).2 ≠ 0) : (scanN l i).1 = 0 := by
  unfold scanN at h ⊢
  split
  · next h1 =>
    rw [if_pos h1] at h
    split
    · next h2 =>
      rw [if_pos h2] at h
      cases hn : nestI (l.drop i.toNat) 2 1 with
      | none => rfl
      | some n => rw [hn] at h; exact absurd rfl h
    · next h2 =>
      rw [if_neg h2] at h
      split
      · next h3 =>
        rw [if_pos h3] at h
        split
        · rfl
        · next h4 => rw [if_neg h4] at h; exact absurd rfl h
      · rfl
  · rfl
theorem drop_take6 (l : List UInt8) (m i : Nat) : (l.take m).drop i = (l.drop i).take (m - i) := by rw [List.drop_take]
set_option maxRecDepth 20000 in
set_option maxHeartbeats 2000000 in
theorem walk (s : ByteArray) (i : Int) (m : ByteArray) (w : World) (hs : s.size ≤ 1048576) (hm : m.size ≤ 1048576) (hT : Len0 w) :
    Calls Tryd.prog 8 #[.string s, .int .i64 i, .string m] w fun e w' => e = .returned (.bool true) ∧ Below w.heap.size w w' := by
  have c1 := fun w => noteScan_any s i w (by omega)
  have HT := Lib.hid hT
  clear hT
  by_cases h1 : (scanN s.data.toList i).2 = 0
  · by_cases h0 : (scanN s.data.toList i).1 = 0
    · generalize scanN s.data.toList i = R at *
      obtain ⟨a, b⟩ := R
      unfold twoV at c1
      simp only at c1 h0 h1
      subst h0 h1
      have C1 := Lib.hid c1
      clear c1
      go_enter Tryd.func8, Tryd.ntmps8
      go_wp2_with fail
      refine (awake_any _ HT.out).mono ?_
      rintro e w1 ⟨rfl, hb1⟩
      have HB1 := Lib.hid (hb1)
      have HT1 := Lib.hid (HT.out.below HT.out.pos hb1)
      clear hb1
      go_wp2_with fail
      refine (C1.out _).mono ?_
      rintro e w2 ⟨rfl, hb2⟩
      have HB2 := Lib.hid (Below.then HB1.out hb2)
      clear hb2
      go_wp2_with fail
      go_ret
      exact ⟨by first | rfl | simp, HB2.out⟩
    · obtain ⟨a, e, rfl, he, hae, hel, hk, hw⟩ := whole_plain s.data.toList i m.data.toList h0 h1
      rw [← Lib.size_eq] at hel
      generalize scanN s.data.toList a = R at *
      obtain ⟨x, b⟩ := R
      unfold twoV at c1
      simp only at c1 he h1
      subst he h1
      have hcs : (s.extract a e).size = e - a := by simp only [ByteArray.size_extract]; omega
      have hcd : (s.extract a e).data.toList = (s.data.toList.take e).drop a := by rw [drop_take6]; simp [Lib.extract_eq]
      have c2 := fun w => noteKind_any (s.extract a e) w (by omega)
      have hms : (s.extract a e ++ m).size = (s.extract a e).size + m.size := by simp
      have c3 := fun w => noteScan_any (s.extract a e ++ m) 0 w (by omega)
      have hmd : (s.extract a e ++ m).data.toList = (s.data.toList.take e).drop a ++ m.data.toList := by rw [← hcd]; simp
      have hcl : ((s.data.toList.take e).drop a).length = e - a := by rw [← hcd, ← Lib.size_eq, hcs]
      rw [hcd] at c2
      rw [hmd] at c3
      rw [hcl] at hw
      generalize hC : (s.data.toList.take e).drop a = c at *
      generalize kindN c = k at *
      have t0 : ((e : Int) == 0) = false := beq_eq_false_iff_ne.2 (by omega)
      have t1 : decide ((a : Int) < 0) = false := by simp
      have t2 : decide (e ≤ a) = false := by simp; omega
      have t3 : decide (s.size < e) = false := by simp; omega
      have b1 : (a : Int) ≤ e := by omega
      have b2 : (e : Int) ≤ s.size := by omega
      have u0 : (k == 0) = false := beq_eq_false_iff_ne.2 hk
      have u1 : (k != 0) = true := by rw [bne_iff_ne]; exact hk
      have hadd : ¬ 9223372036854775807 < (s.extract a e).size + m.size := by omega
      have C1 := Lib.hid c1; have C2 := Lib.hid c2
      clear c1 c2
      by_cases hk1 : k = 1
      · have u2 : (k == 1) = true := beq_iff_eq.2 hk1
        generalize scanN (c ++ m.data.toList) 0 = R2 at *
        obtain ⟨y, f⟩ := R2
        unfold twoV at c3
        have C3 := Lib.hid c3
        clear c3 hw hC hcd hmd hcl hk hms
        go_enter Tryd.func8, Tryd.ntmps8
        go_wp2_with fail
        refine (awake_any _ HT.out).mono ?_
        rintro e w1 ⟨rfl, hb1⟩
        have HB1 := Lib.hid (hb1)
        have HT1 := Lib.hid (HT.out.below HT.out.pos hb1)
        clear hb1
        go_wp2_with fail
        refine (C1.out _).mono ?_
        rintro e w2 ⟨rfl, hb2⟩
        have HB2 := Lib.hid (Below.then HB1.out hb2)
        clear hb2
        go_wp2_with fail
        refine (C2.out _).mono ?_
        rintro e w3 ⟨rfl, hb3⟩
        have HB3 := Lib.hid (Below.then HB2.out hb3)
        clear hb3
        go_wp2_with fail
        refine (C3.out _).mono ?_
        rintro e w4 ⟨rfl, hb4⟩
        have HB4 := Lib.hid (Below.then HB3.out hb4)
        clear hb4
        go_wp2_with fail
        go_ret
        exact ⟨by first | rfl | simp, HB4.out⟩
      · have u2 : (k == 1) = false := beq_eq_false_iff_ne.2 hk1
        have hw := hw.resolve_left hk1
        rw [hw] at c3
        unfold twoV at c3
        simp only at c3
        have u3 : (((e - a : Nat) : Int) == ((s.extract a e).size : Int)) = true := by rw [hcs]; simp
        have u4 : ((e - a) == (s.extract a e).size) = true := by rw [hcs]; simp
        have u5 : (((e - a : Nat) : Int) == (e : Int) - a) = true := by simp; omega
        have C3 := Lib.hid c3
        clear c3 hw hC hcd hmd hcl hk hms
        go_enter Tryd.func8, Tryd.ntmps8
        go_wp2_with fail
        refine (awake_any _ HT.out).mono ?_
        rintro e w1 ⟨rfl, hb1⟩
        have HB1 := Lib.hid (hb1)
        have HT1 := Lib.hid (HT.out.below HT.out.pos hb1)
        clear hb1
        go_wp2_with fail
        refine (C1.out _).mono ?_
        rintro e w2 ⟨rfl, hb2⟩
        have HB2 := Lib.hid (Below.then HB1.out hb2)
        clear hb2
        go_wp2_with fail
        refine (C2.out _).mono ?_
        rintro e w3 ⟨rfl, hb3⟩
        have HB3 := Lib.hid (Below.then HB2.out hb3)
        clear hb3
        go_wp2_with fail
        refine (C3.out _).mono ?_
        rintro e w4 ⟨rfl, hb4⟩
        have HB4 := Lib.hid (Below.then HB3.out hb4)
        clear hb4
        go_wp2_with fail
        go_ret
        exact ⟨by first | rfl | simp, HB4.out⟩
  · have h0 := scanN_bad _ _ h1
    generalize scanN s.data.toList i = R at *
    obtain ⟨a, b⟩ := R
    unfold twoV at c1
    simp only at c1 h0 h1
    subst h0
    have g3 : (b == 0) = false := beq_eq_false_iff_ne.2 h1
    have g4 : (b != 0) = true := by rw [bne_iff_ne]; exact h1
    have C1 := Lib.hid c1
    clear c1
    go_enter Tryd.func8, Tryd.ntmps8
    go_wp2_with fail
    refine (awake_any _ HT.out).mono ?_
    rintro e w1 ⟨rfl, hb1⟩
    have HB1 := Lib.hid (hb1)
    have HT1 := Lib.hid (HT.out.below HT.out.pos hb1)
    clear hb1
    go_wp2_with fail
    refine (C1.out _).mono ?_
    rintro e w2 ⟨rfl, hb2⟩
    have HB2 := Lib.hid (Below.then HB1.out hb2)
    clear hb2
    go_wp2_with fail
    go_ret
    exact ⟨by first | rfl | simp, HB2.out⟩

set_option maxRecDepth 100000 in
theorem contract (H : Type) (enc : TypeId × Value → H) (W : World) (base : Nat) (args : Array Value) (ds gs : List (DataW H)) (before : List MemPlace)
    (hval : ∀ (j : Nat) t v, Tryd.f8.params[j]? = some t → args[j]? = some v → Value.okWide Tryd.prog W .any base t v)
    (hW : DataW.Whole enc Tryd.prog Tryd.f8.params.toList Rows.noteWholeSpec.vars false W args.toList ds gs before)
    (hsz0 : (DataW.weightsEach Tryd.prog (Tryd.f8.params.toList ++ (Rows.OpenSpec.upto Rows.noteWholeSpec).bare.plain.varTypes Tryd.prog) (ds ++ gs)).all (· ≤ reachBytes) = true)
    (hbulk : Rows.uptoSmall H (ds ++ gs) = true)
    (hL : laidMetH Tryd.prog Rows.noteWholeUptoRow.laid W) (hsh : W.ShapedOpen Tryd.prog) :
    Calls Tryd.prog 8 args W fun e W' => ∃ v, e = .returned v ∧ Rows.noteWholeSpec.post enc Tryd.prog Tryd.f8 false true false false W args v W' := by
  have hW' := hW
  obtain ⟨p, q, hA0, hV, rfl, hfz, hnd⟩ := hW
  have hlt : ∀ x ∈ p, x.block < W.heap.size := fun x hx => hW'.lt x (List.mem_append_left _ hx)
  have hA : DataW.TrodAll enc Tryd.prog W 0 (fun _ => true) true Tryd.f8.params.toList args.toList ds p := hA0
  have hsz : (DataW.weightsEach Tryd.prog (Tryd.f8.params.toList ++ []) (ds ++ gs)).all (· ≤ reachBytes) = true := hsz0
  rw [Tryd.params8] at hA hval hsz
  have hA1 := hA
  obtain ⟨v0, vs0, d0, ds0, p0, q0, hargs, rfl, rfl, h0, r0⟩ := trodAll_cons hA
  obtain ⟨v1, vs1, d1, ds1, p1, q1, rfl, rfl, rfl, h1, r1⟩ := trodAll_cons r0
  obtain ⟨v2, vs2, d2, ds2, p2, q2, rfl, rfl, rfl, h2, r2⟩ := trodAll_cons r1
  obtain ⟨rfl, rfl, rfl⟩ := trodAll_nil r2
  obtain rfl : args = #[v0, v1, v2] := by cases args; simp_all
  obtain ⟨rfl, rfl⟩ := trodVars_none hV
  clear hA0 hsz0
  obtain ⟨s, rfl, rfl, rfl, wf0⟩ := ChangeMaps.open_string Tryd.underlying9 (hval 0 9 v0 rfl rfl) h0
  obtain ⟨i, rfl, rfl, rfl, wf1⟩ := open_int Tryd.underlying3 (hval 1 3 v1 rfl rfl) h1
  obtain ⟨m, rfl, rfl, rfl, wf2⟩ := ChangeMaps.open_string Tryd.underlying9 (hval 2 9 v2 rfl rfl) h2
  have z0 := sized_string hsz (j := 0) (t := 9) rfl rfl
  rw [← Lib.size_eq] at z0
  simp only [reachBytes] at z0
  have z2 := sized_string hsz (j := 2) (t := 9) rfl rfl
  rw [← Lib.size_eq] at z2
  simp only [reachBytes] at z2
  have zb := of_decide_eq_true hbulk
  simp only [List.append_nil, Rows.uptoBulkAll, Rows.uptoBulk, ← Lib.size_eq] at zb
  simp only [List.append_nil] at hW'
  rw [MakeChecks.laidMetH_plain _ _ _ (by kernel_rfl)] at hL
  have hT : Len0 W := len0_of hsh
  refine (walk s i m W (by omega) (by omega) hT).mono fun e W' ⟨he, hb⟩ => ?_
  subst he
  exact ⟨_, rfl, _, _, _, [], _, [], hW', trodAll_cons_mk (shut_bool Tryd.underlying4 _) trodAll_mk0, trodAll_stays laid_out _ _ _ _ (by kernel_rfl) hA1 (fun x hx => Below.same hb (hlt x hx)) (fun x hx => by simpa using hlt x hx), rfl, hb.frame _, fun h => by cases h⟩

set_option maxRecDepth 100000 in
theorem lifted (os : Os) (started : os.Started) (H : Type) (enc : TypeId × Value → H) (F : Stop.Interp) :
    ReturnsInHanded {} Tryd.checked os 8 .any ((Rows.OpenSpec.upto Rows.noteWholeSpec).preRow enc Tryd.prog Tryd.f8 Rows.noteWholeUptoRow.domain false Rows.noteWholeUptoRow.laid) (((Rows.OpenSpec.upto Rows.noteWholeSpec).at F).post enc Tryd.prog Tryd.f8 false true false false) := by
  have hx : DataW.whole enc Tryd.prog ((World.laidAll Tryd.prog os Rows.noteWholeUptoRow.laid).forCall (fun _ _ => 0) ⟨#[], #[.string ByteArray.empty, .int .i64 0, .string ByteArray.empty], []⟩).memory Tryd.f8.params.toList Rows.noteWholeSpec.vars false (#[.string ByteArray.empty, .int .i64 0, .string ByteArray.empty] : Array Value).toList 8 = some ([.lit (.string []), .lit (.int .i64 0), .lit (.string [])], [], []) := by kernel_rfl
  refine returnsInHanded_of_row (C := Tryd.checked) (s := (Rows.OpenSpec.upto Rows.noteWholeSpec)) own started (by kernel_rfl) Tryd.func8
    (witness_row_at (enc := enc) (C := Tryd.checked) false (World.laidAll Tryd.prog os Rows.noteWholeUptoRow.laid) #[.string ByteArray.empty, .int .i64 0, .string ByteArray.empty] (World.laidAll_os _ _ _) (by kernel_rfl) (by kernel_rfl) (by kernel_rfl)
      (OpenSpec.preRow_of_cond 8 hx (by kernel_rfl) (fun k hk => by cases hk; kernel_rfl) (by kernel_rfl) (by rw [MakeChecks.laidMetH_plain _ _ _ (by kernel_rfl)]; exact laidMet_laidAll _ (by kernel_rfl) (by kernel_rfl)))) ?_
  intro W base args ds gs before hval hW _ hcond hsz hL hsh _
  exact contract H enc W base args ds gs before hval hW hsz (hcond _ rfl) hL hsh

theorem said : Rows.NoteWholeUptoSaid :=
  OpenClaim.holds_of_cond 8 Tryd.f8 rfl rfl rfl rfl rfl rfl rfl ⟨rfl, rfl, rfl, rfl, rfl⟩ rfl rfl rfl rfl rfl (by kernel_rfl) Tryd.func8 (by kernel_rfl)
    (of_decide_eq_true (by kernel_rfl)) (by unfold Func.isWrapper; first | (rw [if_pos (by decide +kernel)]; kernel_rfl) | (rw [if_neg (by decide +kernel)]; exact ⟨rfl, rfl⟩))
    (fun os started H enc _ F => by rw [OpenClaim.pre_eq_preRow]; exact lifted os started H enc F)

theorem plain (f : FuncId) (fn : Func) (hf : Tryd.pinned.checked.prog.funcNamed "offside/offsidelaw06.NoteWhole" = some f) (hfn : Tryd.pinned.checked.prog.funcs[f]? = some fn) :
    false = Tryd.pinned.checked.prog.looks [] ∧ ∀ (j : Nat) t, fn.params[j]? = some t → Tryd.pinned.checked.prog.wantsStandIn t = false := by
  obtain rfl : f = 8 := Option.some.inj ((show Tryd.prog.funcNamed "offside/offsidelaw06.NoteWhole" = some 8 by kernel_rfl).symm.trans hf) |>.symm
  obtain rfl : fn = Tryd.f8 := (Option.some.inj (Tryd.func8.symm.trans hfn)).symm
  refine ⟨by kernel_rfl, fun j t ht => ?_⟩
  rw [Tryd.params8] at ht
  have hm : t ∈ ([9, 3, 9] : List TypeId) := by simpa using Array.mem_of_getElem? ht
  have hall : (([9, 3, 9] : List TypeId).all fun u => !Tryd.prog.wantsStandIn u) = true := by kernel_rfl
  exact (show Tryd.prog.wantsStandIn t = false by simpa using List.all_eq_true.1 hall t hm)

end Go.Proofs.YthhlnahehpigeaaDoor.noteWhole
namespace Go.Proofs.YthhlnahehpigeaaDoor
open Go.Proofs.YthhlnahehpigeaaDoor.noteWhole in
theorem noteWhole_card : Rows.NoteWholeUptoCardSaid :=
  Claim7.holds_tied_plain_at .later [] _ _ _ _ said (fun _ h => by cases h) (by kernel_rfl) (fun _ h => by cases h) noteWholeUpto_row_tie rfl ⟨rfl, rfl⟩ (by kernel_rfl) rfl plain (by kernel_rfl)
end Go.Proofs.YthhlnahehpigeaaDoor
