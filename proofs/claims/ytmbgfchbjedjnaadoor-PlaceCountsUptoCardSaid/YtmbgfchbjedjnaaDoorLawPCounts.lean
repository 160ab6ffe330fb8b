/-
The law PlaceCounts returns true for every text of the form's bulk: the line in which it ends is how many lines it has, and its column is the one behind its last line.
-/
import Derived.Test.YtmbgfchbjedjnaaDoorCards
import Derived.Test.YtmbgfchbjedjnaaDoorTie
import Derived.Test.YtmbgfchbjedjnaaDoorLaidU8
import Derived.Test.YtmbgfchbjedjnaaDoorL02Awake
import Derived.Test.YtmbgfchbjedjnaaDoorPlaceI
set_option linter.unusedSimpArgs false
set_option linter.unusedVariables false
namespace Go.Proofs.YtmbgfchbjedjnaaDoor.placeCounts
open Go.ChangeShapes Go.WideShapes Go.ChangeAt Go.RowKit
open Go.ChangeMaps (open_string shut_string)

theorem last_of (w : World) (B n : Nat) (v : Value) (ini : List (List UInt8)) (last : List UInt8) (hn : ini.length = n) (h : OwnsT w B v (ini ++ [last])) :
    ∃ g cap, v = .slice (some ⟨g, 0, none⟩) (n + 1) cap ∧ w.cell? ⟨g, n, none⟩ = some (.string ⟨last.toArray⟩) := by
  subst hn
  obtain ⟨g, cap, h1, h2, h3⟩ := h.rows (by simp)
  have hget : (ini ++ [last]).getD ini.length [] = last := by simp [List.getD_eq_getElem?_getD]
  rw [List.length_append] at h1 h3
  refine ⟨g, cap, h1, ?_⟩
  rw [h3 _ (by simp), hget]
set_option maxHeartbeats 1000000 in
theorem walk (s : ByteArray) (w : World) (_ : s.size ≤ 140737488351232) (hs : s.size ≤ 1048576) (hT : Tabs w) :
    Calls Tryd.prog 7 #[.string s] w fun e w' => e = .returned (.bool true) ∧ Below w.heap.size w w' := by
  have c1 := fun w => lines_any s w (by omega)
  have c2 := fun w hT => of_any s s.size w (by omega) hT
  obtain ⟨ini, last, e1, e2⟩ := counts s.size s.data.toList 1 (by rw [← Lib.size_eq]; omega)
  rw [← Lib.size_eq] at e2
  have hll := linesL_le s.size s.data.toList [] (by rw [← Lib.size_eq]; omega) last (by rw [e1]; simp)
  rw [← Lib.size_eq] at hll
  simp only [List.length_nil, Nat.zero_add] at hll
  have hsz : (⟨last.toArray⟩ : ByteArray).size = last.length := by simp [ByteArray.size]
  have c3 := fun w hT => width_any ⟨last.toArray⟩ 1 w (by omega) hT
  have hv : ofV s s.size = .tuple #[.int .i64 (1 + (ini.length : Int)), .int .i64 (ofL last last.length 1 1).2, .int .i64 0] := by
    unfold ofV; rw [if_neg (by omega), Int.toNat_natCast, e2]
  have hv2 : widthV ⟨last.toArray⟩ 1 = .tuple #[.int .i64 (ofL last last.length 1 1).2, .int .i64 0] := by
    unfold widthV; rw [if_neg (by omega), hsz]
  rw [hv] at c2
  rw [hv2] at c3
  have hin : ini.length ≤ 1048576 := by
    have := linesL_pos s.size s.data.toList [] (by rw [← Lib.size_eq]; omega)
    rw [e1, ← Lib.size_eq] at this
    simp at this; omega
  obtain ⟨n, hn⟩ : ∃ n, ini.length = n := ⟨_, rfl⟩
  rw [hn] at c2 hin
  rw [e1] at c1
  have r1 := fun w B v => last_of w B n v ini last hn
  clear e1 e2 hv hv2 hsz hll hn
  generalize (ofL last last.length 1 1).2 = C at *
  generalize (⟨last.toArray⟩ : ByteArray) = lst at *
  have HT := Lib.hid hT; have C1 := Lib.hid c1; have C2 := Lib.hid c2; have C3 := Lib.hid c3; have R1 := Lib.hid r1
  clear hT c1 c2 c3 r1
  have g1 : decide (((n + 1 : Nat) : Int) = 0) = false := by simp; omega
  have g2 : (((n + 1 : Nat) : Int) == 0) = false := by simp; omega
  have g3 : ((1 + (n : Int)) == ((n + 1 : Nat) : Int)) = true := by simp; omega
  have g4 : (C == C) = true := by simp
  have g5 : ((n + 1 : Nat) : Int) - 1 = (n : Int) := by omega
  go_enter Tryd.func7, Tryd.ntmps7
  go_wp2_with fail
  refine (awake_any _ HT.out).mono ?_
  rintro e w1 ⟨rfl, hb1⟩
  have HB1 := Lib.hid hb1
  have HT1 := Lib.hid (HT.out.below hb1)
  clear hb1
  go_wp2_with fail
  refine (C1.out _).mono ?_
  rintro e w2 ⟨va, rfl, ho1, hb2⟩
  have HB2 := Lib.hid (Below.then HB1.out hb2)
  have HT2 := Lib.hid (HT1.out.below hb2)
  obtain ⟨g, cap, rfl, hcell⟩ := R1.out _ _ _ ho1
  have hglt := lt_of_cell hcell
  have HC := Lib.hid hcell
  clear hb2 ho1 hcell
  go_wp2_with fail
  refine (C2.out _ HT2.out).mono ?_
  rintro e w3 ⟨rfl, hb3⟩
  have HB3 := Lib.hid (Below.then HB2.out hb3)
  have HT3 := Lib.hid (HT2.out.below hb3)
  have hcell : w3.cell? ⟨g, n, none⟩ = some (.string lst) := by rw [hb3.cell (by exact hglt)]; exact HC.out
  clear hb3
  go_wp2_with fail
  refine (C3.out _ HT3.out).mono ?_
  rintro e w4 ⟨rfl, hb4⟩
  have HB4 := Lib.hid (Below.then HB3.out hb4)
  clear hb4
  go_wp2_with fail
  go_ret
  exact ⟨rfl, HB4.out⟩

theorem own : ownKnob Tryd.prog.godebug = none := by kernel_rfl
set_option maxRecDepth 100000 in
theorem contract (H : Type) (enc : TypeId × Value → H) (W : World) (base : Nat) (args : Array Value) (ds gs : List (DataW H)) (before : List MemPlace)
    (hval : ∀ (j : Nat) t v, Tryd.f7.params[j]? = some t → args[j]? = some v → Value.okWide Tryd.prog W .any base t v)
    (hW : DataW.Whole enc Tryd.prog Tryd.f7.params.toList Rows.placeCountsSpec.vars false W args.toList ds gs before)
    (hsz0 : (DataW.weightsEach Tryd.prog (Tryd.f7.params.toList ++ (Rows.OpenSpec.upto Rows.placeCountsSpec).bare.plain.varTypes Tryd.prog) (ds ++ gs)).all (· ≤ reachBytes) = true)
    (hbulk : Rows.uptoSmall H (ds ++ gs) = true)
    (hL : laidMetH Tryd.prog Rows.placeCountsUptoRow.laid W) :
    Calls Tryd.prog 7 args W fun e W' => ∃ v, e = .returned v ∧ Rows.placeCountsSpec.post enc Tryd.prog Tryd.f7 false true false false W args v W' := by
  have hW' := hW
  obtain ⟨p, q, hA0, hV, rfl, hfz, hnd⟩ := hW
  have hA : DataW.TrodAll enc Tryd.prog W 0 (fun _ => true) true Tryd.f7.params.toList args.toList ds p := hA0
  have hsz : (DataW.weightsEach Tryd.prog (Tryd.f7.params.toList ++ []) (ds ++ gs)).all (· ≤ reachBytes) = true := hsz0
  rw [Tryd.params7] at hA hval hsz
  obtain ⟨v0, vs0, d0, ds0, p0, q0, hargs, rfl, rfl, h0, r0⟩ := trodAll_cons hA
  obtain ⟨rfl, rfl, rfl⟩ := trodAll_nil r0
  obtain rfl : args = #[v0] := by cases args; simp_all
  obtain ⟨rfl, rfl⟩ := trodVars_none hV
  obtain ⟨s, rfl, rfl, rfl, wf0⟩ := open_string Tryd.underlying9 (hval 0 9 v0 rfl rfl) h0
  clear hA0 hsz0
  have z0 := sized_string hsz (j := 0) (t := 9) rfl rfl
  rw [← Lib.size_eq] at z0
  simp only [reachBytes] at z0
  have zb := of_decide_eq_true hbulk
  simp only [List.append_nil, Rows.uptoBulkAll, Rows.uptoBulk, ← Lib.size_eq] at zb
  simp only [List.append_nil] at hW'
  rw [MakeChecks.laidMetH_plain _ _ _ (by kernel_rfl)] at hL
  have hT : Tabs W := tabs_of hL (by first | exact .head _ | exact .tail _ (.head _) | exact .tail _ (.tail _ (.head _)) | simp [Rows.placeCountsUptoRow]) (by first | exact .head _ | exact .tail _ (.head _) | exact .tail _ (.tail _ (.head _)) | simp [Rows.placeCountsUptoRow])
  refine (walk s W z0 (by omega) hT).mono fun e W' ⟨he, hb⟩ => ?_
  subst he
  exact ⟨_, rfl, _, _, _, [], [], [], hW', trodAll_cons_mk (shut_bool Tryd.underlying4 _) trodAll_mk0, trodAll_cons_mk (shut_string Tryd.underlying9 wf0) (trodAll_mk0), rfl, hb.frame _, fun h => by cases h⟩

set_option maxRecDepth 100000 in
theorem lifted (os : Os) (started : os.Started) (H : Type) (enc : TypeId × Value → H) (F : Stop.Interp) :
    ReturnsInHanded {} Tryd.checked os 7 .any ((Rows.OpenSpec.upto Rows.placeCountsSpec).preRow enc Tryd.prog Tryd.f7 Rows.placeCountsUptoRow.domain false Rows.placeCountsUptoRow.laid) (((Rows.OpenSpec.upto Rows.placeCountsSpec).at F).post enc Tryd.prog Tryd.f7 false true false false) := by
  have hx : DataW.whole enc Tryd.prog ((World.laidAll Tryd.prog os Rows.placeCountsUptoRow.laid).forCall (fun _ _ => 0) ⟨#[], #[.string ByteArray.empty], []⟩).memory Tryd.f7.params.toList Rows.placeCountsSpec.vars false (#[.string ByteArray.empty] : Array Value).toList 8 = some ([.lit (.string [])], [], []) := by kernel_rfl
  refine returnsInHanded_of_row (C := Tryd.checked) (s := (Rows.OpenSpec.upto Rows.placeCountsSpec)) own started (by kernel_rfl) Tryd.func7
    (witness_row_at (enc := enc) (C := Tryd.checked) false (World.laidAll Tryd.prog os Rows.placeCountsUptoRow.laid) #[.string ByteArray.empty] (World.laidAll_os _ _ _) (by kernel_rfl) (by kernel_rfl) (by kernel_rfl)
      (OpenSpec.preRow_of_cond 8 hx (by kernel_rfl) (fun k hk => by cases hk; kernel_rfl) (by kernel_rfl) (by rw [MakeChecks.laidMetH_plain _ _ _ (by kernel_rfl)]; exact laidMet_laidAll _ (by kernel_rfl) (by kernel_rfl)))) ?_
  intro W base args ds gs before hval hW _ hcond hsz hL _ _
  exact contract H enc W base args ds gs before hval hW hsz (hcond _ rfl) hL

theorem said : Rows.PlaceCountsUptoSaid :=
  OpenClaim.holds_of_cond 7 Tryd.f7 rfl rfl rfl rfl rfl rfl rfl ⟨rfl, rfl, rfl, rfl, rfl⟩ rfl rfl rfl rfl rfl (by kernel_rfl) Tryd.func7 (by kernel_rfl)
    (of_decide_eq_true (by kernel_rfl)) (by unfold Func.isWrapper; first | (rw [if_pos (by decide +kernel)]; kernel_rfl) | (rw [if_neg (by decide +kernel)]; exact ⟨rfl, rfl⟩))
    (fun os started H enc _ F => by rw [OpenClaim.pre_eq_preRow]; exact lifted os started H enc F)

theorem plain (f : FuncId) (fn : Func) (hf : Tryd.pinned.checked.prog.funcNamed "offside/offsidelaw02.PlaceCounts" = some f) (hfn : Tryd.pinned.checked.prog.funcs[f]? = some fn) :
    false = Tryd.pinned.checked.prog.looks [] ∧ ∀ (j : Nat) t, fn.params[j]? = some t → Tryd.pinned.checked.prog.wantsStandIn t = false := by
  obtain rfl : f = 7 := Option.some.inj ((show Tryd.prog.funcNamed "offside/offsidelaw02.PlaceCounts" = some 7 by kernel_rfl).symm.trans hf) |>.symm
  obtain rfl : fn = Tryd.f7 := (Option.some.inj (Tryd.func7.symm.trans hfn)).symm
  refine ⟨by kernel_rfl, fun j t ht => ?_⟩
  rw [Tryd.params7] at ht
  have hm : t ∈ ([9] : List TypeId) := by simpa using Array.mem_of_getElem? ht
  have hall : (([9] : List TypeId).all fun u => !Tryd.prog.wantsStandIn u) = true := by kernel_rfl
  exact (show Tryd.prog.wantsStandIn t = false by simpa using List.all_eq_true.1 hall t hm)

end Go.Proofs.YtmbgfchbjedjnaaDoor.placeCounts
namespace Go.Proofs.YtmbgfchbjedjnaaDoor
open Go.Proofs.YtmbgfchbjedjnaaDoor.placeCounts in
theorem placeCounts_card : Rows.PlaceCountsUptoCardSaid :=
  Claim7.holds_tied_plain_at .later [] _ _ _ _ said (fun _ h => by cases h) (by kernel_rfl) (fun _ h => by cases h) placeCountsUpto_row_tie rfl ⟨rfl, rfl⟩ (by kernel_rfl) rfl plain (by kernel_rfl)
end Go.Proofs.YtmbgfchbjedjnaaDoor
