/- DERIVED. The walk of read's deferred function. -/
import Derived.Test.YtmgnpgbganjgfaaDoorQuoteN
import Derived.Defers
import Derived.Recover
set_option linter.unusedSimpArgs false
set_option linter.unusedVariables false
namespace Go.Proofs.YtmgnpgbganjgfaaDoor
open Go.RowKit

theorem catch_idle (p q r : Addr) (w : World) :
    CallsD Tryd.prog 30 #[.pointer (some p), .pointer (some q), .pointer (some r)] .returning w fun e u' w' => e = .returned (.tuple #[]) ∧ u' = .returning ∧ w' = w := by
  refine callsD_of_wpS Tryd.func30 rfl fun c₀ cs hu => ?_
  apply wpS_seq
  apply wpS_region
  simp [wpOpsS, go_sem, recoverD, hu, Tryd.ntmps30, Exit.thenS]
  apply wpS_seq
  apply wpS_seq
  apply wpS_region
  simp [wpOpsS, go_sem, Exit.thenS]
  refine wpS_cond (t := true) (by simp [Act.eval, Array.replicate]) ?_
  simp only [if_true]
  refine wpS_of_wp (wp_ret ?_)
  cases c₀
  simp_all [bodyPostS, results, Tryd.results30, Exit.thenS]
set_option maxRecDepth 20000 in
set_option maxHeartbeats 4000000 in
theorem catch_fault (b p : Nat) (a e : Int) (w : World) (W0 : World) (s : ByteArray) (k : Int) (text : Bool) (out : List Int) (gaps : List (Nat × Nat)) (vo vg : Value) (hR : Rd W0 b s k text out gaps vo vg w) (hsz : W0.heap.size = p + 3)
    (h0 : w.heap[p]? = some (.cells #[.pointer (some ⟨b, 0, none⟩)] 36 (0, 0))) (h1 : w.heap[p + 1]? = some (.cells #[.int .i64 0] 3 (0, 0))) (h2 : w.heap[p + 2]? = some (.cells #[.int .i64 0] 22 (0, 0))) :
    CallsD Tryd.prog 30 #[.pointer (some ⟨p, 0, none⟩), .pointer (some ⟨p + 1, 0, none⟩), .pointer (some ⟨p + 2, 0, none⟩)] (.panicking (faultV a e)) w fun x u' w' =>
      x = .returned (.tuple #[]) ∧ u' = .panicking [{ v := .iface 62 (.agg #[.int .i64 a, .int .i64 e]), recovered := true }] ∧
        ∃ w2, Rd W0 b s a text out gaps vo vg w2 ∧ w' = (w2.setCell ⟨p + 1, 0, none⟩ (.int .i64 0)).setCell ⟨p + 2, 0, none⟩ (.int .i64 e) := by
  unfold faultV
  refine callsD_of_wpS Tryd.func30 rfl fun c₀ cs hu => ?_
  apply wpS_seq
  apply wpS_region
  simp [wpOpsS, go_sem, recoverD, hu, Tryd.ntmps30, Exit.thenS]
  apply wpS_seq
  apply wpS_seq
  apply wpS_region
  simp [wpOpsS, go_sem, Exit.thenS]
  refine wpS_cond (t := false) (by simp [Act.eval, Array.replicate]) ?_
  simp only [Bool.false_eq_true, if_false]
  refine wpS_of_wp (wp_skip ?_)
  simp only [Exit.thenS]
  refine wpS_of_wp ?_
  refine Code.wp_mono (Q := fun x a' w' => x = Exit.normal ∧ a'.defers = [] ∧ ∃ w2, Rd W0 b s a text out gaps vo vg w2 ∧ w' = (w2.setCell ⟨p + 1, 0, none⟩ (.int .i64 0)).setCell ⟨p + 2, 0, none⟩ (.int .i64 e)) ?_ ?_
  · rintro x a' w' ⟨rfl, hd, hw2⟩
    cases c₀
    simp_all [bodyPostS, results, Tryd.results30, Exit.thenS]
  · obtain ⟨V, hV⟩ : ∃ V, Value.iface 62 (Value.agg #[Value.int IntKind.i64 a, Value.int IntKind.i64 e]) = V := ⟨_, rfl⟩
    have et : (#[Value.pointer (some ⟨p, 0, none⟩), Value.pointer (some ⟨p + 1, 0, none⟩), Value.pointer (some ⟨p + 2, 0, none⟩)] ++ ((((Array.replicate 21 undef).setIfInBounds 3 V).setIfInBounds 0 V).setIfInBounds 4 V).setIfInBounds 5 (Value.bool false) : Array Value) =
      #[Value.pointer (some ⟨p, 0, none⟩), Value.pointer (some ⟨p + 1, 0, none⟩), Value.pointer (some ⟨p + 2, 0, none⟩), V, undef, undef, V, V, Value.bool false, undef, undef, undef, undef, undef, undef, undef, undef, undef, undef, undef, undef, undef, undef, undef] := by kernel_rfl
    rw [hV, et, ← hV]
    clear et hV
    obtain ⟨_, _, _, _, _, hz⟩ := hR.cells
    have hz1 := hz 1
    have p0 : w.cell? ⟨p, 0, none⟩ = some (.pointer (some ⟨b, 0, none⟩)) := cell_of_row _ _ _ _ _ _ h0
    have HR := Lib.hid hR
    have hta : ∀ w : World, (Instr.typeAssert (.iface 62 (.agg #[.int .i64 a, .int .i64 e])) 20 62 true).run Tryd.prog w = .ok (.tuple #[.agg #[.int .i64 a, .int .i64 e], .bool true]) w := fun _ => by kernel_rfl
    have HRA := Lib.hid (HR.out.keep ((Below.refl _ _).alloc (Nat.le_refl _) (.cells #[.int .i64 a, .int .i64 e] 62)))
    have hpl := (Array.getElem?_eq_some_iff.1 h0).1
    have hp1 := (Array.getElem?_eq_some_iff.1 h1).1
    have hp2 := (Array.getElem?_eq_some_iff.1 h2).1
    have HF := Lib.hid (show (w.alloc (.cells #[.int .i64 a, .int .i64 e] 62)).cell? ⟨w.heap.size, 0, none⟩ = some (.int .i64 a) ∧ (w.alloc (.cells #[.int .i64 a, .int .i64 e] 62)).cell? ⟨w.heap.size, 1, none⟩ = some (.int .i64 e) from ⟨World.cell?_alloc_new _ _ _ _, World.cell?_alloc_new _ _ _ _⟩)
    have HG := Lib.hid (show ∀ g, g < w.heap.size → (w.alloc (.cells #[.int .i64 a, .int .i64 e] 62)).heap[g]? = w.heap[g]? from fun g hg => Below.heap_alloc w _ g hg)
    have H1 := Lib.hid h1
    have H2 := Lib.hid h2
    have H0 := Lib.hid h0
    clear hz hR hu hz1 p0 h0 h1 h2
    go_wp2_with fail
    generalize w.alloc (.cells #[.int .i64 a, .int .i64 e] 62) = wA at *
    obtain ⟨f0, f1⟩ := HF.out
    have p0 : wA.cell? ⟨p, 0, none⟩ = some (.pointer (some ⟨b, 0, none⟩)) := cell_of_row _ _ _ _ _ _ ((HG.out p hpl).trans H0.out)
    have p1 : wA.cell? ⟨p + 1, 0, none⟩ = some (.int .i64 0) := cell_of_row _ _ _ _ _ _ ((HG.out (p + 1) hp1).trans H1.out)
    have p2 : wA.cell? ⟨p + 2, 0, none⟩ = some (.int .i64 0) := cell_of_row _ _ _ _ _ _ ((HG.out (p + 2) hp2).trans H2.out)
    have z1 : wA.frozen? ⟨p + 1, 0, none⟩ = false := frozen_of_row _ _ _ _ _ ((HG.out (p + 1) hp1).trans H1.out)
    have z2 : wA.frozen? ⟨p + 2, 0, none⟩ = false := frozen_of_row _ _ _ _ _ ((HG.out (p + 2) hp2).trans H2.out)
    obtain ⟨_, d1, _, _, _, hz⟩ := HRA.out.cells
    have hz1 := hz 1
    have hbp : W0.heap.size ≤ b := HRA.out.2.1
    have hbl := HR.out.lt
    obtain ⟨m, hm⟩ : ∃ m, w.heap.size = m := ⟨_, rfl⟩
    rw [hm] at f0 f1 hpl hp1 hp2 hbl
    simp only [hm]
    have n1 : ¬ b = m := by omega
    have n2 : ¬ m = b := by omega
    have n3 : ¬ p + 1 = m := by omega
    have n4 : ¬ m = p + 1 := by omega
    have n5 : ¬ p + 2 = m := by omega
    have n6 : ¬ m = p + 2 := by omega
    have n7 : ¬ b = p + 1 := by omega
    have n8 : ¬ p + 1 = b := by omega
    have n9 : ¬ b = p + 2 := by omega
    have n10 : ¬ p + 2 = b := by omega
    have n11 : ¬ b = p := by omega
    have n12 : ¬ p = b := by omega
    clear hz hm
    go_region
    all_goals
      refine ⟨rfl, rfl, (wA.setCell ⟨b, 1, none⟩ (.int .i64 a)).drew, (HRA.out.go a).drew1, ?_⟩
      simp [go_sem]
/-- Behind the deferred function: the reader in the world in which read began. -/
theorem Rd.settle {W W0 : World} {b p : Nat} {s : ByteArray} {k : Int} {text : Bool} {out : List Int} {gaps : List (Nat × Nat)} {vo vg : Value} {w w' : World} (h : Rd W0 b s k text out gaps vo vg w) (hsz : W0.heap.size = p + 3) (hW : W.heap.size = p) (hb : Below p W W0)
    (hb' : Below p w w') (hk : ∀ g, p + 3 ≤ g → w'.heap[g]? = w.heap[g]?) : Rd W b s k text out gaps vo vg w' := by
  obtain ⟨h1, h2, h3, h4, h5⟩ := h
  rw [hsz] at h2
  have lower : ∀ {e size n : Nat} {v : Value} {xs : List Value}, w.ownsRow W0.heap.size e size v n xs → w'.ownsRow W.heap.size e size v n xs := by
    intro e size n v xs h
    obtain ⟨hl, ⟨a, c⟩ | ⟨g, cap, cur, hv, hg, hgg, r⟩⟩ := h
    · exact ⟨hl, .inl ⟨a, c⟩⟩
    · exact ⟨hl, .inr ⟨g, cap, cur, hv, by omega, (hk g (by omega)).trans hgg, r⟩⟩
  refine ⟨(hk b h2).trans h1, by omega, ?_, lower h4, lower h5⟩
  rw [hW]
  exact (hb.trans ((h3.mono (by omega)))).trans hb'
end Go.Proofs.YtmgnpgbganjgfaaDoor
