/-
The law NoteClean returns true for every text of the form's bulk and every number: a comment that is laid anew has no tab, no newline but 10, and no line of it ends with a blank.
-/
import Derived.Test.YthhlnahehpigeaaDoorFrame
import Derived.Test.YthhlnahehpigeaaDoorL06Laid
set_option linter.unusedSimpArgs false
set_option linter.unusedVariables false
namespace Go.Proofs.YthhlnahehpigeaaDoor.noteClean
open Go.ChangeShapes Go.WideShapes Go.ChangeAt Go.RowKit

theorem clean_at (l : List UInt8) : ∀ (i : Nat) (b : UInt8), cleanB l = true → l[i]? = some b → b ≠ 9 ∧ (b < 11 ∨ 13 < b) ∧ (b = 32 → ∃ c, l[i + 1]? = some c ∧ c ≠ 10) := by
  induction l with
  | nil => intro i b _ h; simp at h
  | cons a t ih =>
    intro i b hc h
    unfold cleanB at hc
    rw [Bool.and_eq_true] at hc
    cases i with
    | succ i =>
      rw [List.getElem?_cons_succ] at h
      rw [List.getElem?_cons_succ]
      exact ih i b hc.2 h
    | zero =>
      simp only [List.length_cons, Nat.zero_lt_succ, List.getElem?_eq_getElem, List.getElem_cons_zero, Option.some.injEq] at h
      subst h
      have h1 := hc.1
      simp only [Bool.not_eq_true', Bool.or_eq_false_iff, beq_eq_false_iff_ne, Bool.and_eq_false_iff] at h1
      obtain ⟨⟨⟨⟨h9, h11⟩, h12⟩, h13⟩, h32⟩ := h1
      refine ⟨h9, ?_, fun h => ?_⟩
      · rw [UInt8.lt_iff_toNat_lt, UInt8.lt_iff_toNat_lt]
        have k11 : a.toNat ≠ 11 := fun e => h11 (UInt8.toNat_inj.1 e)
        have k12 : a.toNat ≠ 12 := fun e => h12 (UInt8.toNat_inj.1 e)
        have k13 : a.toNat ≠ 13 := fun e => h13 (UInt8.toNat_inj.1 e)
        show a.toNat < 11 ∨ 13 < a.toNat
        omega
      · rcases h32 with h32 | ⟨hn, hh⟩
        · exact absurd h h32
        · cases t with
          | nil => exact absurd rfl hn
          | cons c t => exact ⟨c, rfl, fun e => hh (by rw [e]; rfl)⟩
set_option maxRecDepth 20000 in
set_option maxHeartbeats 2000000 in
theorem walk (s : ByteArray) (i : Int) (w : World) (hs : s.size ≤ 1048576) (hT : Len0 w) :
    Calls Tryd.prog 7 #[.string s, .int .i64 i] w fun e w' => e = .returned (.bool true) ∧ Below w.heap.size w w' := by
  have hbd := bd_text s 1048576 hs
  have hl : ∀ x ∈ linesL [] s.data.toList, x.length ≤ 4294967280 := fun x hx => Nat.le_trans (hbd.2 x hx) (by omega)
  have hlen := tidyN_len i hbd
  have c1 := fun w h0 => noteTidy_any s i w (by omega) hl (by omega) h0
  have HT := Lib.hid hT
  clear hT
  have hcl := clean_plain s.data.toList i
  generalize tidyN s.data.toList i = R at *
  obtain ⟨a, b⟩ := R
  unfold tidyV strV at c1
  simp only at c1 hcl hlen
  by_cases h0 : b = 0
  · subst h0
    have hat := fun j c => clean_at a j c (hcl rfl)
    have hxs : (⟨a.toArray⟩ : ByteArray).size ≤ 140737488355327 := by simp only [ByteArray.size, List.size_toArray]; omega
    have hxd : (⟨a.toArray⟩ : ByteArray).data.toList = a := rfl
    rw [← hxd] at hat
    generalize (⟨a.toArray⟩ : ByteArray) = x at *
    have C1 := Lib.hid c1; have HAT := Lib.hid hat
    clear c1 hl hbd hlen hcl hxd hat
    go_enter Tryd.func7, Tryd.ntmps7
    go_wp2_with fail
    refine (awake_any _ HT.out).mono ?_
    rintro e w1 ⟨rfl, hb1⟩
    have HB1 := Lib.hid (hb1)
    have HT1 := Lib.hid (HT.out.below HT.out.pos hb1)
    clear hb1
    go_wp2_with fail
    refine (C1.out _ HT1.out).mono ?_
    rintro e w2 ⟨rfl, hb2⟩
    have HB2 := Lib.hid (Below.then HB1.out hb2)
    clear hb2
    go_wp2_with fail
    go_loop [8] (fun a => ∃ i : Nat, a = .int .i64 i ∧ i ≤ x.size) (fun a => x.size - (intOf a).toNat)
    case atStart => exact ⟨0, rfl, by omega⟩
    case round =>
      obtain ⟨k, rfl, hk⟩ := hrel
      by_cases hin : k < x.size
      · have t3 : decide (k < x.size) = true := by simp; omega
        obtain ⟨h9, hr, h32⟩ := HAT.out k x[k] (at_get x k hin)
        have q9 : ((x[k].toNat : Int) == 9) = false := (byteKN x[k] 9 9 rfl (by decide)).2 h9
        have hrn : x[k].toNat < 11 ∨ 13 < x[k].toNat := hr
        by_cases hs32 : x[k] = 32
        · have q32 : ((x[k].toNat : Int) == 32) = true := (byteKN x[k] 32 32 rfl (by decide)).1 hs32
          obtain ⟨c, hc, hcn⟩ := h32 hs32
          have hk1 : k + 1 < x.size := by
            have := (List.getElem?_eq_some_iff.1 hc).1
            rwa [← Lib.size_eq] at this
          rw [at_get x (k + 1) hk1] at hc
          injection hc with hc
          have q10 : ((x[k + 1].toNat : Int) == 10) = false := (byteKN x[k + 1] 10 10 rfl (by decide)).2 (by rw [hc]; exact hcn)
          have qe : (((k : Int) + 1) == (x.size : Int)) = false := beq_eq_false_iff_ne.2 (by omega)
          have qr : x[k].toNat = 32 := by rw [hs32]; rfl
          have r1 : decide ((11 : Int) ≤ x[k].toNat) = true := by rw [qr]; rfl
          have r2 : decide ((x[k].toNat : Int) ≤ 13) = false := by rw [qr]; rfl
          have r3 : decide (11 ≤ x[k].toNat) = true := by rw [qr]; rfl
          have r4 : decide (x[k].toNat ≤ 13) = false := by rw [qr]; rfl
          clear h9 hr h32 hs32 hc hcn hrn qr
          go_wp2_with fail
          go_round
          case rel => exact ⟨k + 1, by go_num, by omega⟩
          case measure => simp [intOf]; omega
        · have q32 : ((x[k].toNat : Int) == 32) = false := (byteKN x[k] 32 32 rfl (by decide)).2 hs32
          clear h9 hr h32 hs32
          rcases hrn with hrn | hrn
          · have r1 : decide ((11 : Int) ≤ x[k].toNat) = false := by rw [decide_eq_false_iff_not]; omega
            have r3 : decide (11 ≤ x[k].toNat) = false := by rw [decide_eq_false_iff_not]; omega
            clear hrn
            go_wp2_with fail
            go_round
            case rel => exact ⟨k + 1, by go_num, by omega⟩
            case measure => simp [intOf]; omega
          · have r1 : decide ((11 : Int) ≤ x[k].toNat) = true := by rw [decide_eq_true_iff]; omega
            have r2 : decide ((x[k].toNat : Int) ≤ 13) = false := by rw [decide_eq_false_iff_not]; omega
            have r3 : decide (11 ≤ x[k].toNat) = true := by rw [decide_eq_true_iff]; omega
            have r4 : decide (x[k].toNat ≤ 13) = false := by rw [decide_eq_false_iff_not]; omega
            clear hrn
            go_wp2_with fail
            go_round
            case rel => exact ⟨k + 1, by go_num, by omega⟩
            case measure => simp [intOf]; omega
      · have t3 : decide (k < x.size) = false := by simp; omega
        go_wp2_with fail
        go_ret
        exact ⟨by first | rfl | simp, HB2.out⟩
  · generalize (⟨a.toArray⟩ : ByteArray) = x at *
    have g3 : (b == 0) = false := beq_eq_false_iff_ne.2 h0
    have g4 : (b != 0) = true := by rw [bne_iff_ne]; exact h0
    have C1 := Lib.hid c1
    clear c1 hl hbd hlen hcl
    go_enter Tryd.func7, Tryd.ntmps7
    go_wp2_with fail
    refine (awake_any _ HT.out).mono ?_
    rintro e w1 ⟨rfl, hb1⟩
    have HB1 := Lib.hid (hb1)
    have HT1 := Lib.hid (HT.out.below HT.out.pos hb1)
    clear hb1
    go_wp2_with fail
    refine (C1.out _ HT1.out).mono ?_
    rintro e w2 ⟨rfl, hb2⟩
    have HB2 := Lib.hid (Below.then HB1.out hb2)
    clear hb2
    go_wp2_with fail
    go_ret
    exact ⟨by first | rfl | simp, HB2.out⟩

set_option maxRecDepth 100000 in
theorem contract (H : Type) (enc : TypeId × Value → H) (W : World) (base : Nat) (args : Array Value) (ds gs : List (DataW H)) (before : List MemPlace)
    (hval : ∀ (j : Nat) t v, Tryd.f7.params[j]? = some t → args[j]? = some v → Value.okWide Tryd.prog W .any base t v)
    (hW : DataW.Whole enc Tryd.prog Tryd.f7.params.toList Rows.noteCleanSpec.vars false W args.toList ds gs before)
    (hsz0 : (DataW.weightsEach Tryd.prog (Tryd.f7.params.toList ++ (Rows.OpenSpec.upto Rows.noteCleanSpec).bare.plain.varTypes Tryd.prog) (ds ++ gs)).all (· ≤ reachBytes) = true)
    (hbulk : Rows.uptoSmall H (ds ++ gs) = true)
    (hL : laidMetH Tryd.prog Rows.noteCleanUptoRow.laid W) (hsh : W.ShapedOpen Tryd.prog) :
    Calls Tryd.prog 7 args W fun e W' => ∃ v, e = .returned v ∧ Rows.noteCleanSpec.post enc Tryd.prog Tryd.f7 false true false false W args v W' := by
  have hW' := hW
  obtain ⟨p, q, hA0, hV, rfl, hfz, hnd⟩ := hW
  have hlt : ∀ x ∈ p, x.block < W.heap.size := fun x hx => hW'.lt x (List.mem_append_left _ hx)
  have hA : DataW.TrodAll enc Tryd.prog W 0 (fun _ => true) true Tryd.f7.params.toList args.toList ds p := hA0
  have hsz : (DataW.weightsEach Tryd.prog (Tryd.f7.params.toList ++ []) (ds ++ gs)).all (· ≤ reachBytes) = true := hsz0
  rw [Tryd.params7] at hA hval hsz
  have hA1 := hA
  obtain ⟨v0, vs0, d0, ds0, p0, q0, hargs, rfl, rfl, h0, r0⟩ := trodAll_cons hA
  obtain ⟨v1, vs1, d1, ds1, p1, q1, rfl, rfl, rfl, h1, r1⟩ := trodAll_cons r0
  obtain ⟨rfl, rfl, rfl⟩ := trodAll_nil r1
  obtain rfl : args = #[v0, v1] := by cases args; simp_all
  obtain ⟨rfl, rfl⟩ := trodVars_none hV
  clear hA0 hsz0
  obtain ⟨s, rfl, rfl, rfl, wf0⟩ := ChangeMaps.open_string Tryd.underlying9 (hval 0 9 v0 rfl rfl) h0
  obtain ⟨i, rfl, rfl, rfl, wf1⟩ := open_int Tryd.underlying3 (hval 1 3 v1 rfl rfl) h1
  have z0 := sized_string hsz (j := 0) (t := 9) rfl rfl
  rw [← Lib.size_eq] at z0
  simp only [reachBytes] at z0
  have zb := of_decide_eq_true hbulk
  simp only [List.append_nil, Rows.uptoBulkAll, Rows.uptoBulk, ← Lib.size_eq] at zb
  simp only [List.append_nil] at hW'
  rw [MakeChecks.laidMetH_plain _ _ _ (by kernel_rfl)] at hL
  have hT : Len0 W := len0_of hsh
  refine (walk s i W (by omega) hT).mono fun e W' ⟨he, hb⟩ => ?_
  subst he
  exact ⟨_, rfl, _, _, _, [], _, [], hW', trodAll_cons_mk (shut_bool Tryd.underlying4 _) trodAll_mk0, trodAll_stays laid_out _ _ _ _ (by kernel_rfl) hA1 (fun x hx => Below.same hb (hlt x hx)) (fun x hx => by simpa using hlt x hx), rfl, hb.frame _, fun h => by cases h⟩

set_option maxRecDepth 100000 in
theorem lifted (os : Os) (started : os.Started) (H : Type) (enc : TypeId × Value → H) (F : Stop.Interp) :
    ReturnsInHanded {} Tryd.checked os 7 .any ((Rows.OpenSpec.upto Rows.noteCleanSpec).preRow enc Tryd.prog Tryd.f7 Rows.noteCleanUptoRow.domain false Rows.noteCleanUptoRow.laid) (((Rows.OpenSpec.upto Rows.noteCleanSpec).at F).post enc Tryd.prog Tryd.f7 false true false false) := by
  have hx : DataW.whole enc Tryd.prog ((World.laidAll Tryd.prog os Rows.noteCleanUptoRow.laid).forCall (fun _ _ => 0) ⟨#[], #[.string ByteArray.empty, .int .i64 0], []⟩).memory Tryd.f7.params.toList Rows.noteCleanSpec.vars false (#[.string ByteArray.empty, .int .i64 0] : Array Value).toList 8 = some ([.lit (.string []), .lit (.int .i64 0)], [], []) := by kernel_rfl
  refine returnsInHanded_of_row (C := Tryd.checked) (s := (Rows.OpenSpec.upto Rows.noteCleanSpec)) own started (by kernel_rfl) Tryd.func7
    (witness_row_at (enc := enc) (C := Tryd.checked) false (World.laidAll Tryd.prog os Rows.noteCleanUptoRow.laid) #[.string ByteArray.empty, .int .i64 0] (World.laidAll_os _ _ _) (by kernel_rfl) (by kernel_rfl) (by kernel_rfl)
      (OpenSpec.preRow_of_cond 8 hx (by kernel_rfl) (fun k hk => by cases hk; kernel_rfl) (by kernel_rfl) (by rw [MakeChecks.laidMetH_plain _ _ _ (by kernel_rfl)]; exact laidMet_laidAll _ (by kernel_rfl) (by kernel_rfl)))) ?_
  intro W base args ds gs before hval hW _ hcond hsz hL hsh _
  exact contract H enc W base args ds gs before hval hW hsz (hcond _ rfl) hL hsh

theorem said : Rows.NoteCleanUptoSaid :=
  OpenClaim.holds_of_cond 7 Tryd.f7 rfl rfl rfl rfl rfl rfl rfl ⟨rfl, rfl, rfl, rfl, rfl⟩ rfl rfl rfl rfl rfl (by kernel_rfl) Tryd.func7 (by kernel_rfl)
    (of_decide_eq_true (by kernel_rfl)) (by unfold Func.isWrapper; first | (rw [if_pos (by decide +kernel)]; kernel_rfl) | (rw [if_neg (by decide +kernel)]; exact ⟨rfl, rfl⟩))
    (fun os started H enc _ F => by rw [OpenClaim.pre_eq_preRow]; exact lifted os started H enc F)

theorem plain (f : FuncId) (fn : Func) (hf : Tryd.pinned.checked.prog.funcNamed "offside/offsidelaw06.NoteClean" = some f) (hfn : Tryd.pinned.checked.prog.funcs[f]? = some fn) :
    false = Tryd.pinned.checked.prog.looks [] ∧ ∀ (j : Nat) t, fn.params[j]? = some t → Tryd.pinned.checked.prog.wantsStandIn t = false := by
  obtain rfl : f = 7 := Option.some.inj ((show Tryd.prog.funcNamed "offside/offsidelaw06.NoteClean" = some 7 by kernel_rfl).symm.trans hf) |>.symm
  obtain rfl : fn = Tryd.f7 := (Option.some.inj (Tryd.func7.symm.trans hfn)).symm
  refine ⟨by kernel_rfl, fun j t ht => ?_⟩
  rw [Tryd.params7] at ht
  have hm : t ∈ ([9, 3] : List TypeId) := by simpa using Array.mem_of_getElem? ht
  have hall : (([9, 3] : List TypeId).all fun u => !Tryd.prog.wantsStandIn u) = true := by kernel_rfl
  exact (show Tryd.prog.wantsStandIn t = false by simpa using List.all_eq_true.1 hall t hm)

end Go.Proofs.YthhlnahehpigeaaDoor.noteClean
namespace Go.Proofs.YthhlnahehpigeaaDoor
open Go.Proofs.YthhlnahehpigeaaDoor.noteClean in
theorem noteClean_card : Rows.NoteCleanUptoCardSaid :=
  Claim7.holds_tied_plain_at .later [] _ _ _ _ said (fun _ h => by cases h) (by kernel_rfl) (fun _ h => by cases h) noteCleanUpto_row_tie rfl ⟨rfl, rfl⟩ (by kernel_rfl) rfl plain (by kernel_rfl)
end Go.Proofs.YthhlnahehpigeaaDoor
