/- DERIVED. The walk of the reference's Same, of two rows of the same texts. -/
import Derived.Test.YthhlnahehpigeaaDoorPlaceG
set_option linter.unusedSimpArgs false
set_option linter.unusedVariables false
namespace Go.Proofs.YthhlnahehpigeaaDoor
open Go.RowKit

theorem OwnsT.rows {w : World} {B : Nat} {v : Value} {ls : List (List UInt8)} (h : OwnsT w B v ls) (h0 : 0 < ls.length) :
    ∃ g cap, v = .slice (some ⟨g, 0, none⟩) ls.length cap ∧ B ≤ g ∧ ∀ j, j < ls.length → w.cell? ⟨g, j, none⟩ = some (.string ⟨(ls.getD j []).toArray⟩) := by
  obtain ⟨g, cap, hv, hge⟩ : ∃ g cap, v = .slice (some ⟨g, 0, none⟩) ls.length cap ∧ B ≤ g := by
    obtain ⟨_, ⟨_, e⟩ | ⟨g, cap, _, e, hg, _⟩⟩ := h
    · omega
    · exact ⟨g, cap, e, hg⟩
  subst hv
  refine ⟨g, cap, rfl, hge, fun j hj => ?_⟩
  have := World.ownsRow.cellAt h j (by omega)
  rw [this, List.getElem?_map, List.getElem?_eq_getElem hj, List.getD_eq_getElem?_getD, List.getElem?_eq_getElem hj]
  rfl

theorem OwnsT.below {w w' : World} {B : Nat} {v : Value} {ls : List (List UInt8)} (h : OwnsT w B v ls) (hb : Below w.heap.size w w') : OwnsT w' B v ls := by
  obtain ⟨e, ⟨a, b⟩ | ⟨g, cap, cur, a, b, c, d⟩⟩ := h
  · exact ⟨e, .inl ⟨a, b⟩⟩
  · exact ⟨e, .inr ⟨g, cap, cur, a, b, (hb.block g (Array.getElem?_eq_some_iff.1 c).1).trans c, d⟩⟩

set_option maxHeartbeats 1000000 in
theorem same_any (va vb : Value) (ls : List (List UInt8)) (B1 B2 : Nat) (w : World) (h1 : OwnsT w B1 va ls) (h2 : OwnsT w B2 vb ls) (h0 : 0 < ls.length) (hl : ls.length ≤ 1152921504606846976) :
    Calls Tryd.prog 18 #[va, vb] w fun e w' => e = .returned (.bool true) ∧ Below w.heap.size w w' := by
  obtain ⟨g, cap, rfl, _, hc⟩ := h1.rows h0
  obtain ⟨g2, cap2, rfl, _, hc2⟩ := h2.rows h0
  have hg := lt_of_cell (hc 0 h0)
  have hg2 := lt_of_cell (hc2 0 h0)
  have HC := Lib.hid hc; have HC2 := Lib.hid hc2
  clear h1 h2 hc hc2
  generalize hn : ls.length = n at *
  go_enter Tryd.func18, Tryd.ntmps18
  go_wp2_with fail
  go_loopw [5] (fun c wr => ∃ i : Nat, c = .int .i64 i ∧ i ≤ n ∧ Below w.heap.size w wr) (fun c _ => n - (intOf c).toNat)
  case atStart => exact ⟨0, rfl, by omega, Below.refl _ _⟩
  case round =>
    obtain ⟨i, rfl, hi, hb⟩ := hrel
    have HB := Lib.hid hb
    by_cases hin : i < n
    · have e1 : wr.cell? ⟨g, i, none⟩ = some (.string ⟨(ls.getD i []).toArray⟩) := by rw [hb.cell (by exact hg)]; exact HC.out i hin
      have e2 : wr.cell? ⟨g2, i, none⟩ = some (.string ⟨(ls.getD i []).toArray⟩) := by rw [hb.cell (by exact hg2)]; exact HC2.out i hin
      clear hb
      generalize (⟨(ls.getD i []).toArray⟩ : ByteArray) = x at *
      have hx : (x.toList == x.toList) = true := by simp
      go_wp2_with fail
      go_quiet (fail)
      go_wp2_with fail
      go_roundw
      case rel => exact ⟨i + 1, by go_num, by omega, below_drewN HB.out _⟩
      case measure => simp [intOf]; omega
    · clear hb
      have t3 : decide ((i : Int) < n) = false := by simp; omega
      go_wp2_with fail
      go_ret
      exact ⟨rfl, HB.out⟩
end Go.Proofs.YthhlnahehpigeaaDoor
