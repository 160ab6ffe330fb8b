/- DERIVED. The walk of the law FixityFinds. -/
import Derived.Test.YtikkdkacflkifaaDoorL16Awake
import Derived.Test.YtikkdkacflkifaaDoorRefFixC
import Derived.Test.YtikkdkacflkifaaDoorSameFx
set_option linter.unusedSimpArgs false
set_option linter.unusedVariables false
namespace Go.Proofs.YtikkdkacflkifaaDoor
open Go.RowKit

set_option maxRecDepth 20000 in
set_option maxHeartbeats 4000000 in
theorem fixityFinds_walk (env : List Fx) (xa : Option Addr) (cap b o : Nat) (op : ByteArray) (w : World) (hxa : 0 < env.length → xa = some ⟨b, o, none⟩) (hE : Fixes w b o env) (hT : Tabs16 w) :
    Calls Tryd.prog 3 #[.slice xa env.length cap, .string op] w fun e w' => e = .returned (.bool true) ∧ Below w.heap.size w w' := by
  have F1 := Lib.hid fun w hE hT => find_any env xa cap b o op w hxa hE hT
  have F2 := Lib.hid fun w hE => refFind_any env xa cap b o op w hxa hE
  have HE := Lib.hid hE
  have HT := Lib.hid hT
  obtain ⟨R, hR⟩ : ∃ R, findX env op = R := ⟨_, rfl⟩
  rw [hR] at F1 F2
  clear hE hT hxa hR
  go_enter Tryd.func3, Tryd.ntmps3
  go_wp2_with fail
  refine (awake_any _ HT.out).mono ?_
  rintro e w1 ⟨rfl, hb1⟩
  have HB1 := Lib.hid hb1
  clear hb1
  go_wp2_with fail
  refine (F1.out _ (HE.out.below HB1.out) (HT.out.below HB1.out)).mono ?_
  rintro e w2 ⟨rfl, hb2⟩
  have HB2 := Lib.hid (Below.then HB1.out hb2)
  clear hb2
  unfold fxV
  go_wp2_with fail
  refine (F2.out _ (HE.out.below HB2.out)).mono ?_
  rintro e w3 ⟨rfl, hb3⟩
  have HB3 := Lib.hid (Below.then HB2.out hb3)
  clear hb3
  unfold fxV
  go_wp2_with fail
  refine (known_any _ (HT.out.below HB3.out)).mono ?_
  rintro e w4 ⟨v, rfl, hO4, hb4⟩
  obtain ⟨ya, yc, b4, o4, rfl, hy4, hF4⟩ := hO4.fixes
  have HB4 := Lib.hid (Below.then HB3.out hb4)
  have HF4 := Lib.hid hF4
  have HY4 := Lib.hid hy4
  clear hb4 hO4 hF4 hy4
  go_wp2_with fail
  refine (refKnown_any _).mono ?_
  rintro e w5 ⟨v, rfl, hO5, hb5, -⟩
  obtain ⟨za, zc, b5, o5, rfl, hz5, hF5⟩ := hO5.fixes
  have HB5 := Lib.hid (Below.then HB4.out hb5)
  have HF4' := Lib.hid (HF4.out.below hb5)
  have HF5 := Lib.hid hF5
  have HZ5 := Lib.hid hz5
  clear hb5 hO5 hF5 hz5
  go_wp2_with fail
  refine (sameFx_any knownL ya za yc zc b4 o4 b5 o5 _ (by rw [known_len]; omega) HY4.out HZ5.out HF4'.out HF5.out).mono ?_
  rintro e w6 ⟨rfl, hb6⟩
  have HB6 := Lib.hid (Below.then HB5.out hb6)
  clear hb6
  go_wp2_with fail
  go_ret
  exact ⟨rfl, HB6.out⟩
#print axioms fixityFinds_walk
end Go.Proofs.YtikkdkacflkifaaDoor
