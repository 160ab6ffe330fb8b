/- DERIVED. The walk of SameAll, of two rows of the same tokens. -/
import Derived.Test.YtjdpbfjfcbjlfaaDoorTreeI
set_option linter.unusedSimpArgs false
set_option linter.unusedVariables false
namespace Go.Proofs.YtjdpbfjfcbjlfaaDoor
open Go.RowKit

theorem OwnsK.tok {w : World} {B : Nat} {v : Value} {l : List Tk} (h : OwnsK w B v l) (h0 : 0 < l.length) :
    ∃ g cap, v = .slice (some ⟨g, 0, none⟩) l.length cap ∧ g < w.heap.size ∧ ∀ i (hi : i < l.length), w.cell? ⟨g, i * 4, none⟩ = some (.int .i64 l[i].kind) ∧ w.cell? ⟨g, i * 4 + 1, none⟩ = some (.string l[i].text) ∧ w.cell? ⟨g, i * 4 + 2, none⟩ = some (.int .i64 l[i].line) ∧ w.cell? ⟨g, i * 4 + 3, none⟩ = some (.int .i64 l[i].col) := by
  rcases h.src with ⟨_, h1⟩ | ⟨g, cap, hv, _, hg, hc⟩
  · rw [h1] at h0; simp at h0
  · refine ⟨g, cap, hv, hg, fun i hi => ?_⟩
    have key : ∀ (l : List Tk) (i : Nat) (hi : i < l.length) (j : Nat), j < 4 → (l.flatMap tkCells)[i * 4 + j]? = (tkCells l[i])[j]? := by
      intro l
      induction l with
      | nil => intro i hi; simp at hi
      | cons x r ih =>
        intro i hi j hj
        rw [List.flatMap_cons]
        cases i with
        | zero => rw [List.getElem?_append_left (by simp [tkCells]; omega)]; simp
        | succ i =>
          rw [List.getElem?_append_right (by simp [tkCells]; omega)]
          have := ih i (by simpa using hi) j hj
          rw [show (i + 1) * 4 + j - (tkCells x).length = i * 4 + j from by simp [tkCells]; omega, this]
          simp
    have h3 : ∀ k, (⟨g, 0, none⟩ : Addr).add k = ⟨g, k, none⟩ := by intro k; simp [Addr.add]; intro h; subst h; rfl
    have h4 : ∀ j u, j < 4 → (tkCells l[i])[j]? = some u → w.cell? ⟨g, i * 4 + j, none⟩ = some u := fun j u hj hu => by
      rw [← h3]; exact hc _ _ (by rw [key l i hi j hj, hu])
    exact ⟨h4 0 _ (by omega) rfl, h4 1 _ (by omega) rfl, h4 2 _ (by omega) rfl, h4 3 _ (by omega) rfl⟩

set_option maxHeartbeats 1000000 in
theorem toks_any (va vb : Value) (l : List Tk) (B1 B2 : Nat) (w : World) (h1 : OwnsK w B1 va l) (h2 : OwnsK w B2 vb l) (hl : l.length ≤ 1152921504606846976) :
    Calls Tryd.prog 17 #[va, vb] w fun e w' => e = .returned (.bool true) ∧ Below w.heap.size w w' := by
  by_cases h0 : l.length = 0
  · obtain ⟨a, c, rfl⟩ := h1.shape
    obtain ⟨b, d, rfl⟩ := h2.shape
    rw [h0]
    clear h1 h2
    go_enter Tryd.func17, Tryd.ntmps17
    go_wp2_with fail
    go_loop [5] (fun a => a = .int .i64 0) (fun _ => 0)
    case atStart => rfl
    case round =>
      subst hrel
      go_wp2_with fail
      go_ret
      exact ⟨rfl, Below.refl _ _⟩
  · obtain ⟨g, cap, rfl, hg, hc⟩ := h1.tok (by omega)
    obtain ⟨g2, cap2, rfl, hg2, hc2⟩ := h2.tok (by omega)
    have HC := Lib.hid hc; have HC2 := Lib.hid hc2
    clear h1 h2 hc hc2
    go_enter Tryd.func17, Tryd.ntmps17
    go_wp2_with fail
    go_loopw [5] (fun c wr => ∃ i : Nat, c = .int .i64 i ∧ i ≤ l.length ∧ Below w.heap.size w wr) (fun c _ => l.length - (intOf c).toNat)
    case atStart => exact ⟨0, rfl, by omega, Below.refl _ _⟩
    case round =>
      obtain ⟨i, rfl, hi, hb⟩ := hrel
      have HB := Lib.hid hb
      by_cases hin : i < l.length
      · have e1 := HC.out i (by omega)
        have e2 := HC2.out i (by omega)
        rw [← hb.cell (by exact hg), ← hb.cell (by exact hg), ← hb.cell (by exact hg), ← hb.cell (by exact hg)] at e1
        rw [← hb.cell (by exact hg2), ← hb.cell (by exact hg2), ← hb.cell (by exact hg2), ← hb.cell (by exact hg2)] at e2
        obtain ⟨a0, a1, a2, a3⟩ := e1
        obtain ⟨b0, b1, b2, b3⟩ := e2
        clear hb
        generalize l[i] = x at *
        go_wp2_with fail
        go_quiet (fail)
        go_wp2_with fail
        go_roundw
        case rel => exact ⟨i + 1, by go_num, by omega, below_drewN HB.out _⟩
        case measure => simp [intOf]; omega
      · clear hb
        have t3 : decide ((i : Int) < l.length) = false := by simp; omega
        go_wp2_with fail
        go_ret
        exact ⟨rfl, HB.out⟩
end Go.Proofs.YtjdpbfjfcbjlfaaDoor
