/- DERIVED. The walk of the document's SameFixes, at one list twice. -/
import Derived.Test.YtikkdkacflkifaaDoorRefFixB
import Derived.Deep.RegionHeld3
set_option linter.unusedSimpArgs false
set_option linter.unusedVariables false
namespace Go.Proofs.YtikkdkacflkifaaDoor
open Go.RowKit

set_option maxRecDepth 20000 in
set_option maxHeartbeats 4000000 in
theorem sameFx_any (l : List Fx) (xa ya : Option Addr) (cap cbp b o d p : Nat) (w : World) (hlen : l.length ≤ 9223372036854775807) (hxa : 0 < l.length → xa = some ⟨b, o, none⟩) (hya : 0 < l.length → ya = some ⟨d, p, none⟩) (hE : Fixes w b o l) (hF : Fixes w d p l) :
    Calls Tryd.prog 13 #[.slice xa l.length cap, .slice ya l.length cbp] w fun e w' => e = .returned (.bool true) ∧ Below w.heap.size w w' := by
  have HE := Lib.hid hE; have HF := Lib.hid hF; have HX := Lib.hid hxa; have HY := Lib.hid hya
  have t0 : ((l.length : Int) != l.length) = false := by simp
  clear hE hF hxa hya
  go_enter Tryd.func13, Tryd.ntmps13
  go_wp2_with fail
  go_loopw [5] (fun a wr => ∃ i : Nat, a = .int .i64 i ∧ i ≤ l.length ∧ Below w.heap.size w wr) (fun a _ => l.length - (intOf a).toNat)
  case atStart => exact ⟨0, rfl, by omega, Below.refl _ _⟩
  case round =>
    obtain ⟨i, rfl, hi, hb⟩ := hrel
    have HB := Lib.hid hb
    clear t0
    by_cases hin : i < l.length
    · have hx := HX.out (by omega)
      have hy := HY.out (by omega)
      subst hx hy
      have hEk := (HE.out.at_ i hin).below hb
      have hFk := (HF.out.at_ i hin).below hb
      generalize l[i] = x at *
      have c0 := hEk.c0; have c1 := hEk.c1; have c2 := hEk.c2
      have d0 := hFk.c0; have d1 := hFk.c1; have d2 := hFk.c2
      have hi0 : (0 : Int) ≤ (i : Int) := by omega
      have hi1 : (i : Int) < l.length := by omega
      clear hb hEk hFk
      go_wp2_with fail
      go_quiet (fail)
      go_wp2_with fail
      go_roundw
      case rel => exact ⟨i + 1, by go_num, by omega, below_drewN HB.out _⟩
      case measure => simp [intOf]; omega
    · have hi' : i = l.length := by omega
      subst hi'
      have t3 : decide ((l.length : Int) < l.length) = false := by simp
      clear hb
      go_wp2_with fail
      go_ret
      exact ⟨rfl, HB.out⟩
end Go.Proofs.YtikkdkacflkifaaDoor
