/- DERIVED. The walk of digits. -/
import Derived.Test.YtmgnpgbganjgfaaDoorQuoteD
import Derived.Deep.RegionHeld3
set_option linter.unusedSimpArgs false
set_option linter.unusedVariables false
namespace Go.Proofs.YtmgnpgbganjgfaaDoor
open Go.RowKit

theorem Rd.drew1 {W0 : World} {b : Nat} {s : ByteArray} {k : Int} {text : Bool} {out : List Int} {gaps : List (Nat × Nat)} {vo vg : Value} {w : World} (h : Rd W0 b s k text out gaps vo vg w) : Rd W0 b s k text out gaps vo vg w.drew :=
  ⟨h.1, h.2.1, h.2.2.1.drew, h.2.2.2.1, h.2.2.2.2⟩
theorem numV3_some (base : Int) (l : List UInt8) (v : Int) (n : Nat) (h : numP base l = some (v, n)) : numV3 base l = .tuple #[.int .i64 v, .int .i64 (n : Int), .bool true] := by
  unfold numP at h
  split at h
  · next hc =>
    simp only [Option.some.injEq, Prod.mk.injEq] at h
    unfold numV3
    rw [decide_eq_true hc.1, decide_eq_true hc.2, h.1, h.2]
    rfl
  · cases h
theorem numV3_none (base : Int) (l : List UInt8) (h : numP base l = none) : ∃ (v : Int) (n : Nat), numV3 base l = .tuple #[.int .i64 v, .int .i64 (n : Int), .bool false] := by
  unfold numP at h
  split at h
  · cases h
  · next hc =>
    refine ⟨valP base (l.takeWhile (digB base)), (l.takeWhile (digB base)).length, ?_⟩
    unfold numV3
    have e : (decide (l.takeWhile (digB base) ≠ []) && decide (valP base (l.takeWhile (digB base)) ≤ 1114111)) = false := by
      rw [Bool.and_eq_false_iff, decide_eq_false_iff_not, decide_eq_false_iff_not]
      by_cases h1 : l.takeWhile (digB base) ≠ []
      · exact .inr (fun h2 => hc ⟨h1, h2⟩)
      · exact .inl h1
    rw [e]
/-- Where a call of a reader's ends: it has read, or has thrown. -/
def Read (W0 : World) (b : Nat) (s : ByteArray) (text : Bool) (out : List Int) (gaps : List (Nat × Nat)) (a : Int) (R : Option (Int × Nat)) (e : Ending) (w' : World) : Prop :=
  match R with
  | some (v, k) => e = .returned (.int .i64 v) ∧ ∃ vo vg, Rd W0 b s k text out gaps vo vg w'
  | none => e = .panicked (faultV a 51) ∧ ∃ k vo vg, Rd W0 b s k text out gaps vo vg w'
set_option maxHeartbeats 2000000 in
theorem digits_any (W0 : World) (b : Nat) (s : ByteArray) (k m : Nat) (a base : Int) (text : Bool) (out : List Int) (gaps : List (Nat × Nat)) (vo vg : Value) (w : World) (hs : s.size ≤ 16777216) (hk : k + m ≤ s.size) (hm : m ≤ 1) (hb0 : 2 ≤ base ∧ base ≤ 16) (h : Rd W0 b s k text out gaps vo vg w) :
    Calls Tryd.prog 60 #[.pointer (some ⟨b, 0, none⟩), .int .i64 a, .int .i64 (m : Int), .int .i64 base] w
      (Read W0 b s text out gaps a (match numP base (s.data.toList.drop (k + m)) with | some (v, n) => some (v, k + m + n) | none => none)) := by
  have g1 : IntKind.i64.wrap ((k : Int) + m) = (k : Int) + m := IntWalk.i64_in _ (by omega)
  have b1 : (0 : Int) ≤ (k : Int) + m := by omega
  have b2 : (k : Int) + m ≤ s.size := by omega
  have b3 : ((k : Int) + m).toNat = k + m := by omega
  have n1 := fun w => number_any (s.extract (k + m) s.size) base w (by simp only [ByteArray.size_extract]; omega) hb0
  rw [cut_data] at n1
  have r0 := fun w' (h : Rd W0 b s k text out gaps vo vg w') => h.cells.1
  have r1 := fun w' (h : Rd W0 b s k text out gaps vo vg w') => h.cells.2.1
  have HS0 := Lib.hid h.drew1
  cases hn : numP base (s.data.toList.drop (k + m)) with
  | none =>
    obtain ⟨v, n, hv⟩ := numV3_none _ _ hn
    rw [hv] at n1
    have N1 := Lib.hid n1
    clear n1 hn hv h
    unfold Read
    go_enter Tryd.func60, Tryd.ntmps60
    go_wp2_with fail
    go_region_held3 (fun w' => Rd W0 b s k text out gaps vo vg w')
      (first
        | with_reducible exact HS1.out
        | with_reducible exact HS0.out)
      (first
        | (go_at_call 71; refine (N1.out _).mono ?_; rintro e w1 ⟨rfl, hb1⟩; have HS1 := Lib.hid (HS0.out.keep hb1)))
    go_wp2_with fail
    refine (fail_any _ _ _ _).mono ?_
    rintro e w2 ⟨rfl, rfl⟩
    go_wp2_with fail
    exact ⟨rfl, rfl, _, _, _, HS1.out⟩
  | some p =>
    obtain ⟨v, n⟩ := p
    rw [numV3_some _ _ v n hn] at n1
    have hnb := (numP_bd _ _ _ _ hn).2
    rw [List.length_drop, ← Lib.size_eq] at hnb
    have N1 := Lib.hid n1
    clear n1 hn h
    unfold Read
    go_enter Tryd.func60, Tryd.ntmps60
    go_wp2_with fail
    go_region_held3 (fun w' => Rd W0 b s k text out gaps vo vg w')
      (first
        | with_reducible exact HS1.out
        | with_reducible exact HS0.out)
      (first
        | (go_at_call 71; refine (N1.out _).mono ?_; rintro e w1 ⟨rfl, hb1⟩; have HS1 := Lib.hid (HS0.out.keep hb1)))
    obtain ⟨_, c1, _, _, _, hz⟩ := HS1.out.cells
    have hz1 := hz 1
    clear hz
    go_wp2_with fail
    go_ret
    exact ⟨rfl, _, _, by have := HS1.out.go ((k : Int) + (m + n)); rw [show ((k + m + n : Nat) : Int) = (k : Int) + (m + n) from by omega]; exact this⟩
end Go.Proofs.YtmgnpgbganjgfaaDoor
