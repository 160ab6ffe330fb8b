/- DERIVED. The walk of strings.Cut at one byte. -/
import Derived.Test.YthcogfceighbpaaDoorNumY
import Derived.Lib.IndexLaws
set_option linter.unusedSimpArgs false
set_option linter.unusedVariables false
namespace Go.Proofs.YthcogfceighbpaaDoor
open Go.RowKit

theorem ix_bd (l : List UInt8) (c : UInt8) : -1 ≤ Lib.indexByte l c ∧ (0 ≤ Lib.indexByte l c → Lib.indexByte l c < l.length) := by
  refine ⟨Lib.indexByte_ge l c, fun h => ?_⟩
  obtain ⟨o, ho⟩ := Int.eq_ofNat_of_zero_le h
  have := (List.getElem?_eq_some_iff.1 (Lib.indexByte_some ho).1).1
  omega
/-- What Cut gives at one byte. -/
def cutV (s : ByteArray) (j : Int) : Value := if 0 ≤ j then .tuple #[.string (s.extract 0 j.toNat), .string (s.extract (j.toNat + 1) s.size), .bool true] else .tuple #[.string s, .string ⟨#[]⟩, .bool false]
set_option maxHeartbeats 2000000 in
theorem cutL_any (s : ByteArray) (w : World) (hs : s.size ≤ 1152921504606846976) :
    Calls Tryd.prog 50 #[.string s, .string ⟨#[46]⟩] w fun e w' => e = .returned (cutV s (Lib.indexByte s.data.toList 46)) ∧ Below w.heap.size w w' := by
  have I1 := Lib.hid fun w => Tryd.stringslite_Index_one s 46 w
  have hb := ix_bd s.data.toList 46
  rw [← Lib.size_eq] at hb
  generalize Lib.indexByte s.data.toList 46 = j at *
  by_cases h0 : 0 ≤ j
  · obtain ⟨k, rfl⟩ := Int.eq_ofNat_of_zero_le h0
    have hk : k < s.size := by omega
    have HR := Lib.hid (show cutV s k = .tuple #[.string (s.extract 0 k), .string (s.extract (k + 1) s.size), .bool true] from by unfold cutV; rw [if_pos h0, Int.toNat_natCast])
    have k1 : IntKind.i64.wrap ((k : Int) + 1) = k + 1 := IntWalk.i64_in _ (by omega)
    have k2 : (0 : Int) ≤ (k : Int) + 1 := by omega
    have k3 : ((k : Int) + 1).toNat = k + 1 := by omega
    have k4 : (k : Int) + 1 ≤ s.size := by omega
    clear hb h0
    go_enter Tryd.func50, Tryd.ntmps50
    go_wp2_with fail
    refine (I1.out _).mono ?_
    rintro e w1 ⟨rfl, rfl⟩
    go_wp2_with fail
    go_quiet (fail)
    go_wp2_with fail
    go_ret3
    exact ⟨by rw [HR.out]; rfl, below_drewN (Below.refl _ _) _⟩
  · have hj : j = -1 := by omega
    subst hj
    have HR := Lib.hid (show cutV s (-1) = .tuple #[.string s, .string ⟨#[]⟩, .bool false] from by unfold cutV; rw [if_neg h0])
    clear hb h0
    go_enter Tryd.func50, Tryd.ntmps50
    go_wp2_with fail
    refine (I1.out _).mono ?_
    rintro e w1 ⟨rfl, rfl⟩
    go_wp2_with fail
    go_ret3
    exact ⟨by rw [HR.out]; rfl, Below.refl _ _⟩

set_option maxHeartbeats 1000000 in
theorem cut_any (s : ByteArray) (w : World) (hs : s.size ≤ 1152921504606846976) :
    Calls Tryd.prog 35 #[.string s, .string ⟨#[46]⟩] w fun e w' => e = .returned (cutV s (Lib.indexByte s.data.toList 46)) ∧ Below w.heap.size w w' := by
  have C1 := cutL_any s w hs
  unfold cutV at C1 ⊢
  by_cases h : 0 ≤ Lib.indexByte s.data.toList 46
  · rw [if_pos h] at C1 ⊢
    have C1 := Lib.hid C1
    clear h
    go_enter Tryd.func35, Tryd.ntmps35
    go_wp2_with fail
    refine C1.out.mono ?_
    rintro e w1 ⟨rfl, hb1⟩
    have HB1 := Lib.hid hb1
    clear hb1
    go_wp2_with fail
    go_ret3
    exact ⟨rfl, HB1.out⟩
  · rw [if_neg h] at C1 ⊢
    have C1 := Lib.hid C1
    clear h
    go_enter Tryd.func35, Tryd.ntmps35
    go_wp2_with fail
    refine C1.out.mono ?_
    rintro e w1 ⟨rfl, hb1⟩
    have HB1 := Lib.hid hb1
    clear hb1
    go_wp2_with fail
    go_ret3
    exact ⟨rfl, HB1.out⟩
end Go.Proofs.YthcogfceighbpaaDoor
