/- DERIVED. The walk of the document's Same of comments. -/
import Derived.Test.YthhlnahehpigeaaDoorRefNoteE
import Derived.Test.YthhlnahehpigeaaDoorPlaceS
set_option linter.unusedSimpArgs false
set_option linter.unusedVariables false
namespace Go.Proofs.YthhlnahehpigeaaDoor
open Go.RowKit

set_option maxRecDepth 20000 in
set_option maxHeartbeats 4000000 in
theorem refNoteSame_any (s t : ByteArray) (w : World) (hs : s.size ≤ 8796093022206) (ht : t.size ≤ 8796093022206) :
    Calls Tryd.prog 22 #[.string s, .string t] w fun e w' => e = .returned (.bool (sameN s.data.toList t.data.toList)) ∧ Below w.heap.size w w' := by
  have l1 := refNoteLines_any s w hs
  have m1 := fun (w1 : World) => refNoteLines_any t w1 ht
  unfold sameN
  generalize linesN s.data.toList = L at *
  generalize linesN t.data.toList = M at *
  cases L with
  | none =>
    have L1 := Lib.hid l1
    clear l1
    cases M with
    | none =>
      have M1 := Lib.hid m1
      clear m1
      go_enter Tryd.func22, Tryd.ntmps22
      go_wp2_with fail
      refine L1.out.mono ?_
      rintro e w1 ⟨v, rfl, rfl, hb1⟩
      have HB1 := Lib.hid hb1
      clear hb1
      go_wp2_with fail
      refine (M1.out _).mono ?_
      rintro e w2 ⟨v, rfl, rfl, hb2⟩
      have HB2 := Lib.hid (Below.then HB1.out hb2)
      clear hb2
      go_wp2_with fail
      go_ret
      exact ⟨rfl, HB2.out⟩
    | some ms =>
      have M1 := Lib.hid m1
      clear m1
      go_enter Tryd.func22, Tryd.ntmps22
      go_wp2_with fail
      refine L1.out.mono ?_
      rintro e w1 ⟨v, rfl, rfl, hb1⟩
      have HB1 := Lib.hid hb1
      clear hb1
      go_wp2_with fail
      refine (M1.out _).mono ?_
      rintro e w2 ⟨v, rfl, v2, rfl, hO2, hb2⟩
      have HB2 := Lib.hid (Below.then HB1.out hb2)
      obtain ⟨a2, cap2, rfl⟩ := hO2.shape
      clear hb2 hO2
      go_wp2_with fail
      go_ret
      exact ⟨rfl, HB2.out⟩
  | some ls =>
    have L1 := Lib.hid l1
    clear l1
    cases M with
    | none =>
      have M1 := Lib.hid m1
      clear m1
      go_enter Tryd.func22, Tryd.ntmps22
      go_wp2_with fail
      refine L1.out.mono ?_
      rintro e w1 ⟨v, rfl, v1, rfl, hO1, hb1⟩
      have HB1 := Lib.hid hb1
      obtain ⟨a, cap, rfl⟩ := hO1.shape
      clear hb1 hO1
      go_wp2_with fail
      refine (M1.out _).mono ?_
      rintro e w2 ⟨v, rfl, rfl, hb2⟩
      have HB2 := Lib.hid (Below.then HB1.out hb2)
      clear hb2
      go_wp2_with fail
      go_ret
      exact ⟨rfl, HB2.out⟩
    | some ms =>
      have M1 := Lib.hid m1
      have S1 := Lib.hid fun (va vb : Value) (B1 B2 : Nat) (w : World) (h1 : OwnsT w B1 va ls) (h2 : OwnsT w B2 vb ms) => sameR_any va vb ls ms B1 B2 w h1 h2
      clear m1
      go_enter Tryd.func22, Tryd.ntmps22
      go_wp2_with fail
      refine L1.out.mono ?_
      rintro e w1 ⟨v, rfl, v1, rfl, hO1, hb1⟩
      have HB1 := Lib.hid hb1
      have HO1 := Lib.hid hO1
      obtain ⟨a, cap, rfl⟩ := hO1.shape
      clear hb1 hO1
      go_wp2_with fail
      refine (M1.out _).mono ?_
      rintro e w2 ⟨v, rfl, v2, rfl, hO2, hb2⟩
      have HB2 := Lib.hid (Below.then HB1.out hb2)
      have HO2 := Lib.hid hO2
      have HO3 := Lib.hid (HO1.out.below hb2)
      obtain ⟨a2, cap2, rfl⟩ := hO2.shape
      clear hb2 hO2
      go_wp2_with fail
      refine (S1.out _ _ _ _ _ HO3.out HO2.out).mono ?_
      rintro e w3 ⟨rfl, hb3⟩
      have HB3 := Lib.hid (Below.then HB2.out hb3)
      clear hb3
      go_wp2_with fail
      go_ret
      exact ⟨rfl, HB3.out⟩
end Go.Proofs.YthhlnahehpigeaaDoor
