/- DERIVED. The walk of number's Same. -/
import Derived.Test.YthcogfceighbpaaDoorNumJ
set_option linter.unusedSimpArgs false
set_option linter.unusedVariables false
namespace Go.Proofs.YthcogfceighbpaaDoor
open Go.RowKit

def sameW (x y : List UInt8 × Int × Bool) : Bool := x.2.2 && y.2.2 && decide (x.1 = y.1) && decide (x.2.1 = y.2.1)
set_option maxRecDepth 20000 in
set_option maxHeartbeats 4000000 in
theorem same_any (a b : ByteArray) (w : World) (ha : a.size ≤ 1152921504606846976) (hb : b.size ≤ 1152921504606846976) (hT : Pow w) :
    Calls Tryd.prog 20 #[.string a, .string b] w fun e w' => e = .returned (.bool (sameW (worthX a.data.toList) (worthX b.data.toList))) ∧ Below w.heap.size w w' := by
  have a1 := worth_any a w ha hT
  have b1 := fun w hT => worth_any b w hb hT
  generalize worthX a.data.toList = X at *
  generalize worthX b.data.toList = Y at *
  obtain ⟨c, m, ok⟩ := X
  obtain ⟨d, n, is⟩ := Y
  have A1 := Lib.hid a1
  have B1 := Lib.hid b1
  have HT := Lib.hid hT
  clear a1 b1 hT
  unfold worthV at A1 B1
  simp only at A1 B1
  unfold sameW
  simp only
  have hcd2 : ((⟨c.toArray⟩ : ByteArray).toList == (⟨d.toArray⟩ : ByteArray).toList) = decide (c = d) := by
    rw [Lib.toList_data, Lib.toList_data, Bool.eq_iff_iff]; simp
  generalize (⟨c.toArray⟩ : ByteArray) = cz at *
  generalize (⟨d.toArray⟩ : ByteArray) = dz at *
  generalize decide (c = d) = q at *
  cases ok
  · go_enter Tryd.func20, Tryd.ntmps20
    go_wp2_with fail
    refine A1.out.mono ?_
    rintro e' w1 ⟨rfl, hb1⟩
    have HB1 := Lib.hid hb1
    have HT1 := Lib.hid (HT.out.below hb1)
    clear hb1
    go_wp2_with fail
    refine (B1.out _ HT1.out).mono ?_
    rintro e' w2 ⟨rfl, hb2⟩
    have HB2 := Lib.hid (Below.then HB1.out hb2)
    clear hb2
    go_wp2_with fail
    go_ret
    exact ⟨rfl, HB2.out⟩
  · cases is
    · go_enter Tryd.func20, Tryd.ntmps20
      go_wp2_with fail
      refine A1.out.mono ?_
      rintro e' w1 ⟨rfl, hb1⟩
      have HB1 := Lib.hid hb1
      have HT1 := Lib.hid (HT.out.below hb1)
      clear hb1
      go_wp2_with fail
      refine (B1.out _ HT1.out).mono ?_
      rintro e' w2 ⟨rfl, hb2⟩
      have HB2 := Lib.hid (Below.then HB1.out hb2)
      clear hb2
      go_wp2_with fail
      go_ret
      exact ⟨rfl, HB2.out⟩
    · cases q
      · go_enter Tryd.func20, Tryd.ntmps20
        go_wp2_with fail
        refine A1.out.mono ?_
        rintro e' w1 ⟨rfl, hb1⟩
        have HB1 := Lib.hid hb1
        have HT1 := Lib.hid (HT.out.below hb1)
        clear hb1
        go_wp2_with fail
        refine (B1.out _ HT1.out).mono ?_
        rintro e' w2 ⟨rfl, hb2⟩
        have HB2 := Lib.hid (Below.then HB1.out hb2)
        clear hb2
        go_wp2_with fail
        go_ret
        exact ⟨rfl, HB2.out⟩
      · go_enter Tryd.func20, Tryd.ntmps20
        go_wp2_with fail
        refine A1.out.mono ?_
        rintro e' w1 ⟨rfl, hb1⟩
        have HB1 := Lib.hid hb1
        have HT1 := Lib.hid (HT.out.below hb1)
        clear hb1
        go_wp2_with fail
        refine (B1.out _ HT1.out).mono ?_
        rintro e' w2 ⟨rfl, hb2⟩
        have HB2 := Lib.hid (Below.then HB1.out hb2)
        clear hb2
        go_wp2_with fail
        go_ret
        refine ⟨?_, HB2.out⟩
        first | rfl | (simp) | trace_state
end Go.Proofs.YthcogfceighbpaaDoor
