/-
The law GlyphPieces returns true for every text: gone through rune by rune it falls into pieces of one to four bytes, each the same rune by itself, and together they are the text. No condition but the form's own reach.
-/
import Derived.Test.YtimcnmmkccdcdaaDoorCards
import Derived.Test.YtimcnmmkccdcdaaDoorTie
import Derived.Test.YtimcnmmkccdcdaaDoorLaidU8
import Derived.Test.YtimcnmmkccdcdaaDoorL01Awake
set_option linter.unusedSimpArgs false
set_option linter.unusedVariables false
namespace Go.Proofs.YtimcnmmkccdcdaaDoor.glyphPieces
open Go.ChangeShapes Go.WideShapes Go.ChangeAt Go.RowKit
open Go.ChangeMaps (open_string shut_string)

theorem ext_join (s : ByteArray) (a b : Nat) (h1 : a ≤ b) (h2 : b ≤ s.size) : s.extract 0 a ++ s.extract a b = s.extract 0 b := by
  rw [ByteArray.extract_append_extract, Nat.min_eq_left (Nat.zero_le _), Nat.max_eq_right h1]
theorem piece (s : ByteArray) (i n : Nat) : (s.extract i (i + n)).data.toList = (s.data.toList.drop i).take n := by
  rw [Lib.extract_data, Nat.add_sub_cancel_left]
set_option maxHeartbeats 1000000 in
theorem walk (s : ByteArray) (w : World) (hs : s.size ≤ 140737488351232) (hT : Tabs w) :
    Calls Tryd.prog 6 #[.string s] w fun e w' => e = .returned (.bool true) ∧ Below w.heap.size w w' := by
  have HT := Lib.hid hT
  clear hT
  go_enter Tryd.func6, Tryd.ntmps6
  go_wp2_with fail
  refine (awake_any _ HT.out).mono ?_
  rintro e w1 ⟨rfl, hb1⟩
  have hT1 := Lib.hid (HT.out.below hb1)
  have HB1 := Lib.hid hb1
  clear hb1
  go_wp2_with fail
  go_loopw [4, 5] (fun v i wr => ∃ pos : Nat, pos ≤ s.size ∧ i = .int .i64 pos ∧ v = .string (s.extract 0 pos) ∧ Hid (Tabs wr) ∧ Hid (Below w.heap.size w wr)) (fun _ i _ => s.size - (intOf i).toNat)
  case atStart => exact ⟨0, Nat.zero_le _, rfl, by (simp; rfl), hT1, HB1⟩
  case round =>
    obtain ⟨pos, hle, rfl, rfl, hTr, hBr⟩ := hrel
    by_cases hp : pos < s.size
    · have hpl : pos < s.data.toList.length := by rw [← Lib.size_eq]; exact hp
      have hdl := dec_len _ (drop_ne hpl)
      rw [List.length_drop, ← Lib.size_eq] at hdl
      have hn1 : nextL s.data.toList pos = (((dec (s.data.toList.drop pos)).1 : Int), ((dec (s.data.toList.drop pos)).2 : Int)) := by
        unfold nextL; rw [if_pos ⟨by omega, by omega⟩, Int.toNat_natCast]
      have hn2 : nextL (s.extract pos (pos + (dec (s.data.toList.drop pos)).2)).data.toList 0 = (((dec (s.data.toList.drop pos)).1 : Int), ((dec (s.data.toList.drop pos)).2 : Int)) := by
        unfold nextL
        rw [piece, if_pos ⟨Int.le_refl _, by rw [List.length_take, List.length_drop, ← Lib.size_eq]; omega⟩]
        have := dec_take _ (drop_ne hpl)
        rw [show ((0 : Int).toNat) = 0 from rfl, List.drop_zero, this]
      have c1 := fun w hT => next_any s pos w (by omega) hT
      have c2 := fun w hT => next_any (s.extract pos (pos + (dec (s.data.toList.drop pos)).2)) 0 w (by rw [ByteArray.size_extract]; omega) hT
      have hj := ext_join s pos (pos + (dec (s.data.toList.drop pos)).2) (by omega) (by omega)
      rw [hn1] at c1
      rw [hn2] at c2
      clear hn1 hn2
      have hcc : (((dec (s.data.toList.drop pos)).1 : Int) != ((dec (s.data.toList.drop pos)).1 : Int)) = false := by simp
      generalize (dec (s.data.toList.drop pos)).1 = c at *
      generalize (dec (s.data.toList.drop pos)).2 = n at *
      have C1 := Lib.hid c1; have C2 := Lib.hid c2; have HJ := Lib.hid hj
      clear c1 c2 hj
      have hz : Hid ((s.extract 0 pos).size = pos) := by show _ = _; simp; omega
      have hz2 : Hid ((s.extract pos (pos + n)).size = n) := by show _ = _; simp; omega
      obtain ⟨d1, d2, d3⟩ := hdl
      have hb5 : pos + n ≤ s.size := by omega
      go_wp2_with fail
      refine (C1.out _ hTr.out).mono ?_
      rintro e w2 ⟨rfl, hb2⟩
      have hT2 := Lib.hid (hTr.out.below hb2)
      have HB2 := Lib.hid (hBr.out.trans (hb2.mono hBr.out.size))
      clear hb2
      go_wp2_with fail
      refine (C2.out _ hT2.out).mono ?_
      rintro e w3 ⟨rfl, hb3⟩
      have hT3 := Lib.hid (hT2.out.below hb3)
      have HB3 := Lib.hid (HB2.out.trans (hb3.mono HB2.out.size))
      clear hb3
      go_wp2_with fail
      go_roundw
      case rel => exact ⟨pos + n, hb5, by go_num, rfl, hT3, HB3⟩
      case measure => simp [intOf]; omega
    · obtain rfl : pos = s.size := by omega
      have hw : s.extract 0 s.size = s := ByteArray.extract_zero_size
      have hbb : (s.toList == s.toList) = true := by simp
      have HW := Lib.hid hw
      clear hw
      go_wp2_with fail
      go_ret
      exact ⟨rfl, hBr.out⟩

theorem own : ownKnob Tryd.prog.godebug = none := by kernel_rfl
set_option maxRecDepth 100000 in
theorem contract (H : Type) (enc : TypeId × Value → H) (W : World) (base : Nat) (args : Array Value) (ds gs : List (DataW H)) (before : List MemPlace)
    (hval : ∀ (j : Nat) t v, Tryd.f6.params[j]? = some t → args[j]? = some v → Value.okWide Tryd.prog W .any base t v)
    (hW : DataW.Whole enc Tryd.prog Tryd.f6.params.toList Rows.glyphPiecesSpec.vars false W args.toList ds gs before)
    (hsz0 : (DataW.weightsEach Tryd.prog (Tryd.f6.params.toList ++ (OpenSpec.ofChange Rows.glyphPiecesSpec).bare.plain.varTypes Tryd.prog) (ds ++ gs)).all (· ≤ reachBytes) = true)
    (hL : laidMetH Tryd.prog Rows.glyphPiecesRow.laid W) :
    Calls Tryd.prog 6 args W fun e W' => ∃ v, e = .returned v ∧ Rows.glyphPiecesSpec.post enc Tryd.prog Tryd.f6 false true false false W args v W' := by
  have hW' := hW
  obtain ⟨p, q, hA0, hV, rfl, hfz, hnd⟩ := hW
  have hA : DataW.TrodAll enc Tryd.prog W 0 (fun _ => true) true Tryd.f6.params.toList args.toList ds p := hA0
  have hsz : (DataW.weightsEach Tryd.prog (Tryd.f6.params.toList ++ []) (ds ++ gs)).all (· ≤ reachBytes) = true := hsz0
  rw [Tryd.params6] at hA hval hsz
  obtain ⟨v0, vs0, d0, ds0, p0, q0, hargs, rfl, rfl, h0, r0⟩ := trodAll_cons hA
  obtain ⟨rfl, rfl, rfl⟩ := trodAll_nil r0
  obtain rfl : args = #[v0] := by cases args; simp_all
  obtain ⟨rfl, rfl⟩ := trodVars_none hV
  obtain ⟨s, rfl, rfl, rfl, wf0⟩ := open_string Tryd.underlying9 (hval 0 9 v0 rfl rfl) h0
  clear hA0 hsz0
  have z0 := sized_string hsz (j := 0) (t := 9) rfl rfl
  rw [← Lib.size_eq] at z0
  simp only [reachBytes] at z0
  simp only [List.append_nil] at hW'
  rw [MakeChecks.laidMetH_plain _ _ _ (by kernel_rfl)] at hL
  have hT : Tabs W := tabs_of hL (by first | exact .head _ | exact .tail _ (.head _) | exact .tail _ (.tail _ (.head _)) | simp [Rows.glyphPiecesRow]) (by first | exact .head _ | exact .tail _ (.head _) | exact .tail _ (.tail _ (.head _)) | simp [Rows.glyphPiecesRow])
  refine (walk s W z0 hT).mono fun e W' ⟨he, hb⟩ => ?_
  subst he
  exact ⟨_, rfl, _, _, _, [], [], [], hW', trodAll_cons_mk (shut_bool Tryd.underlying4 _) trodAll_mk0, trodAll_cons_mk (shut_string Tryd.underlying9 wf0) (trodAll_mk0), rfl, hb.frame _, fun h => by cases h⟩

set_option maxRecDepth 100000 in
theorem lifted (os : Os) (started : os.Started) (H : Type) (enc : TypeId × Value → H) (F : Stop.Interp) :
    ReturnsInHanded {} Tryd.checked os 6 .any ((OpenSpec.ofChange Rows.glyphPiecesSpec).preRow enc Tryd.prog Tryd.f6 Rows.glyphPiecesRow.domain false Rows.glyphPiecesRow.laid) (((OpenSpec.ofChange Rows.glyphPiecesSpec).at F).post enc Tryd.prog Tryd.f6 false true false false) := by
  have hx : DataW.whole enc Tryd.prog ((World.laidAll Tryd.prog os Rows.glyphPiecesRow.laid).forCall (fun _ _ => 0) ⟨#[], #[.string ByteArray.empty], []⟩).memory Tryd.f6.params.toList Rows.glyphPiecesSpec.vars false (#[.string ByteArray.empty] : Array Value).toList 8 = some ([.lit (.string [])], [], []) := by kernel_rfl
  refine returnsInHanded_of_row (C := Tryd.checked) (s := (OpenSpec.ofChange Rows.glyphPiecesSpec)) own started (by kernel_rfl) Tryd.func6
    (witness_row_at (enc := enc) (C := Tryd.checked) false (World.laidAll Tryd.prog os Rows.glyphPiecesRow.laid) #[.string ByteArray.empty] (World.laidAll_os _ _ _) (by kernel_rfl) (by kernel_rfl) (by kernel_rfl)
      (OpenSpec.preRow_of_cond 8 hx (by kernel_rfl) (fun k hk => by cases hk) (by kernel_rfl) (by rw [MakeChecks.laidMetH_plain _ _ _ (by kernel_rfl)]; exact laidMet_laidAll _ (by kernel_rfl) (by kernel_rfl)))) ?_
  intro W base args ds gs before hval hW _ _ hsz hL _ _
  exact contract H enc W base args ds gs before hval hW hsz hL

theorem said : Rows.GlyphPiecesSaid :=
  OpenClaim.holds_of_cond 6 Tryd.f6 rfl rfl rfl rfl rfl rfl rfl ⟨rfl, rfl, rfl, rfl, rfl⟩ rfl rfl rfl rfl rfl (by kernel_rfl) Tryd.func6 (by kernel_rfl)
    (of_decide_eq_true (by kernel_rfl)) (by unfold Func.isWrapper; first | (rw [if_pos (by decide +kernel)]; kernel_rfl) | (rw [if_neg (by decide +kernel)]; exact ⟨rfl, rfl⟩))
    (fun os started H enc _ F => by rw [OpenClaim.pre_eq_preRow]; exact lifted os started H enc F)

theorem plain (f : FuncId) (fn : Func) (hf : Tryd.pinned.checked.prog.funcNamed "offside/offsidelaw01.GlyphPieces" = some f) (hfn : Tryd.pinned.checked.prog.funcs[f]? = some fn) :
    false = Tryd.pinned.checked.prog.looks [] ∧ ∀ (j : Nat) t, fn.params[j]? = some t → Tryd.pinned.checked.prog.wantsStandIn t = false := by
  obtain rfl : f = 6 := Option.some.inj ((show Tryd.prog.funcNamed "offside/offsidelaw01.GlyphPieces" = some 6 by kernel_rfl).symm.trans hf) |>.symm
  obtain rfl : fn = Tryd.f6 := (Option.some.inj (Tryd.func6.symm.trans hfn)).symm
  refine ⟨by kernel_rfl, fun j t ht => ?_⟩
  rw [Tryd.params6] at ht
  have hm : t ∈ ([9] : List TypeId) := by simpa using Array.mem_of_getElem? ht
  have hall : (([9] : List TypeId).all fun u => !Tryd.prog.wantsStandIn u) = true := by kernel_rfl
  exact (show Tryd.prog.wantsStandIn t = false by simpa using List.all_eq_true.1 hall t hm)

end Go.Proofs.YtimcnmmkccdcdaaDoor.glyphPieces
namespace Go.Proofs.YtimcnmmkccdcdaaDoor
open Go.Proofs.YtimcnmmkccdcdaaDoor.glyphPieces in
theorem glyphPieces_card : Rows.GlyphPiecesCardSaid :=
  Claim7.holds_tied_plain_at .later [] _ _ _ _ said (fun _ h => by cases h) (by kernel_rfl) (fun _ h => by cases h) glyphPieces_row_tie rfl ⟨rfl, rfl⟩ (by kernel_rfl) rfl plain (by kernel_rfl)
end Go.Proofs.YtimcnmmkccdcdaaDoor
