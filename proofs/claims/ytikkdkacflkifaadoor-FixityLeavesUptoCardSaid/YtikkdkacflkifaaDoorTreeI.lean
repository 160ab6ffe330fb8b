/- DERIVED. The walks of the reference's Leaves, and of SameAll of tokens. DERIVED. The walk of SameAll, of two rows of the same tokens. -/
import Derived.Test.YtikkdkacflkifaaDoorTreeH
import Derived.Test.YtikkdkacflkifaaDoorTreeA
set_option linter.unusedSimpArgs false
set_option linter.unusedVariables false
namespace Go.Proofs.YtikkdkacflkifaaDoor
open Go.RowKit

/-- What a row of tokens is, as the source of an append. -/
theorem OwnsK.src {w : World} {B : Nat} {v : Value} {l : List Tk} (h : OwnsK w B v l) :
    (v = .slice none 0 0 ∧ l = []) ∨ ∃ g cap, v = .slice (some ⟨g, 0, none⟩) l.length cap ∧ B ≤ g ∧ g < w.heap.size ∧ ∀ j u, (l.flatMap tkCells)[j]? = some u → w.cell? ((⟨g, 0, none⟩ : Addr).add j) = some u := by
  obtain ⟨e, ⟨a, b⟩ | ⟨g, cap, cur, a, b, c, d⟩⟩ := id h
  · exact .inl ⟨a, List.eq_nil_of_length_eq_zero b⟩
  · refine .inr ⟨g, cap, a, b, (Array.getElem?_eq_some_iff.1 c).1, fun j u hj => ?_⟩
    subst a
    have h3 : (⟨g, 0, none⟩ : Addr).add j = ⟨g, j, none⟩ := by simp [Addr.add]; intro h; subst h; rfl
    rw [h3, World.ownsRow.cellAt h j (by have := (List.getElem?_eq_some_iff.1 hj).1; omega), hj]

theorem OwnsK.base {w : World} {B B' : Nat} {v : Value} {l : List Tk} (h : OwnsK w B v l) (hB : B' ≤ B) : OwnsK w B' v l := by
  obtain ⟨e, ⟨a, b⟩ | ⟨g, cap, cur, a, b, c, d⟩⟩ := h
  · exact ⟨e, .inl ⟨a, b⟩⟩
  · exact ⟨e, .inr ⟨g, cap, cur, a, by omega, c, d⟩⟩
theorem made_tok (w : World) (x : Tk) (B n : Nat) (hB : B ≤ w.heap.size) (hn : n = w.heap.size) : OwnsK (w.alloc (.cells #[.int .i64 x.kind, .string x.text, .int .i64 x.line, .int .i64 x.col] 74)) B (.slice (some ⟨n, 0, none⟩) 1 1) [x] := by
  subst hn
  exact ⟨rfl, .inr ⟨_, 1, _, rfl, hB, heap_alloc_new _ _, Nat.le_refl _, by decide, rfl, rfl⟩⟩
theorem Boxed.grown {w w1 : World} {b : Nat} {t : Tr} {kv : Value} {row : Option Nat} (h : Boxed w b t kv) (hg : w.grownBy w1 row) (hr : some b ≠ row) : Boxed w1 b t kv := by
  have hb := hg.block b h.lt hr
  exact ⟨(World.cell?_of_block (w := w) hb).trans h.c0, (World.cell?_of_block (w := w) hb).trans h.c1, (World.cell?_of_block (w := w) hb).trans h.c2, (World.cell?_of_block (w := w) hb).trans h.c3, (World.cell?_of_block (w := w) hb).trans h.c4, (World.cell?_of_block (w := w) hb).trans h.c5⟩

end Go.Proofs.YtikkdkacflkifaaDoor

namespace Go.Proofs.YtikkdkacflkifaaDoor
open Go.RowKit

theorem OwnsK.tok {w : World} {B : Nat} {v : Value} {l : List Tk} (h : OwnsK w B v l) (h0 : 0 < l.length) :
    ∃ g cap, v = .slice (some ⟨g, 0, none⟩) l.length cap ∧ g < w.heap.size ∧ ∀ i (hi : i < l.length), w.cell? ⟨g, i * 4, none⟩ = some (.int .i64 l[i].kind) ∧ w.cell? ⟨g, i * 4 + 1, none⟩ = some (.string l[i].text) ∧ w.cell? ⟨g, i * 4 + 2, none⟩ = some (.int .i64 l[i].line) ∧ w.cell? ⟨g, i * 4 + 3, none⟩ = some (.int .i64 l[i].col) := by
  rcases h.src with ⟨_, h1⟩ | ⟨g, cap, hv, _, hg, hc⟩
  · rw [h1] at h0; simp at h0
  · refine ⟨g, cap, hv, hg, fun i hi => ?_⟩
    have key : ∀ (l : List Tk) (i : Nat) (hi : i < l.length) (j : Nat), j < 4 → (l.flatMap tkCells)[i * 4 + j]? = (tkCells l[i])[j]? := by
      intro l
      induction l with
      | nil => intro i hi; simp at hi
      | cons x r ih =>
        intro i hi j hj
        rw [List.flatMap_cons]
        cases i with
        | zero => rw [List.getElem?_append_left (by simp [tkCells]; omega)]; simp
        | succ i =>
          rw [List.getElem?_append_right (by simp [tkCells]; omega)]
          have := ih i (by simpa using hi) j hj
          rw [show (i + 1) * 4 + j - (tkCells x).length = i * 4 + j from by simp [tkCells]; omega, this]
          simp
    have h3 : ∀ k, (⟨g, 0, none⟩ : Addr).add k = ⟨g, k, none⟩ := by intro k; simp [Addr.add]; intro h; subst h; rfl
    have h4 : ∀ j u, j < 4 → (tkCells l[i])[j]? = some u → w.cell? ⟨g, i * 4 + j, none⟩ = some u := fun j u hj hu => by
      rw [← h3]; exact hc _ _ (by rw [key l i hi j hj, hu])
    exact ⟨h4 0 _ (by omega) rfl, h4 1 _ (by omega) rfl, h4 2 _ (by omega) rfl, h4 3 _ (by omega) rfl⟩

set_option maxHeartbeats 1000000 in
theorem toks_any (va vb : Value) (l : List Tk) (B1 B2 : Nat) (w : World) (h1 : OwnsK w B1 va l) (h2 : OwnsK w B2 vb l) (hl : l.length ≤ 1152921504606846976) :
    Calls Tryd.prog 25 #[va, vb] w fun e w' => e = .returned (.bool true) ∧ Below w.heap.size w w' := by
  by_cases h0 : l.length = 0
  · obtain ⟨a, c, rfl⟩ := h1.shape
    obtain ⟨b, d, rfl⟩ := h2.shape
    rw [h0]
    clear h1 h2
    go_enter Tryd.func25, Tryd.ntmps25
    go_wp2_with fail
    go_loop [5] (fun a => a = .int .i64 0) (fun _ => 0)
    case atStart => rfl
    case round =>
      subst hrel
      go_wp2_with fail
      go_ret
      exact ⟨rfl, Below.refl _ _⟩
  · obtain ⟨g, cap, rfl, hg, hc⟩ := h1.tok (by omega)
    obtain ⟨g2, cap2, rfl, hg2, hc2⟩ := h2.tok (by omega)
    have HC := Lib.hid hc; have HC2 := Lib.hid hc2
    clear h1 h2 hc hc2
    go_enter Tryd.func25, Tryd.ntmps25
    go_wp2_with fail
    go_loopw [5] (fun c wr => ∃ i : Nat, c = .int .i64 i ∧ i ≤ l.length ∧ Below w.heap.size w wr) (fun c _ => l.length - (intOf c).toNat)
    case atStart => exact ⟨0, rfl, by omega, Below.refl _ _⟩
    case round =>
      obtain ⟨i, rfl, hi, hb⟩ := hrel
      have HB := Lib.hid hb
      by_cases hin : i < l.length
      · have e1 := HC.out i (by omega)
        have e2 := HC2.out i (by omega)
        rw [← hb.cell (by exact hg), ← hb.cell (by exact hg), ← hb.cell (by exact hg), ← hb.cell (by exact hg)] at e1
        rw [← hb.cell (by exact hg2), ← hb.cell (by exact hg2), ← hb.cell (by exact hg2), ← hb.cell (by exact hg2)] at e2
        obtain ⟨a0, a1, a2, a3⟩ := e1
        obtain ⟨b0, b1, b2, b3⟩ := e2
        clear hb
        generalize l[i] = x at *
        go_wp2_with fail
        go_quiet (fail)
        go_wp2_with fail
        go_roundw
        case rel => exact ⟨i + 1, by go_num, by omega, below_drewN HB.out _⟩
        case measure => simp [intOf]; omega
      · clear hb
        have t3 : decide ((i : Int) < l.length) = false := by simp; omega
        go_wp2_with fail
        go_ret
        exact ⟨rfl, HB.out⟩
end Go.Proofs.YtikkdkacflkifaaDoor

