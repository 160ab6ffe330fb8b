/- DERIVED. The walk of one. -/
import Derived.Test.YtmgnpgbganjgfaaDoorQuoteI
import Derived.Test.YtmgnpgbganjgfaaDoorGlyph
set_option linter.unusedSimpArgs false
set_option linter.unusedVariables false
namespace Go.Proofs.YtmgnpgbganjgfaaDoor
open Go.RowKit

theorem int_info : ∃ i, Tryd.prog.info? 3 = some i ∧ i.zero = some (.int .i64 0) ∧ i.size = 1 ∧ i.bytes = 8 := by
  have h : (Tryd.prog.info? 3).map (fun i => (i.zero, i.size, i.bytes)) = some (some (.int .i64 0), 1, 8) := by kernel_rfl
  cases e : Tryd.prog.info? 3 with
  | none => rw [e] at h; cases h
  | some i =>
    rw [e] at h
    simp only [Option.map_some, Option.some.injEq, Prod.mk.injEq] at h
    exact ⟨i, rfl, h.1, h.2.1, h.2.2⟩
/-- One character more. -/
theorem out_app {ops : Array Oper} {rest : List Oper} {o : Oper} {a : Act} {Q : Exit → Act → World → Prop} (hgd : o.guard = none) (sl x : Operand)
    (ho : o.op = .call { callee := .builtin .append, args := #[sl, x], argTypes := #[27, 27] })
    (W0 : World) (b : Nat) (s : ByteArray) (k : Int) (text : Bool) (out : List Int) (gaps : List (Nat × Nat)) (vo vg : Value) (w0 : World) (hR : Rd W0 b s k text out gaps vo vg w0)
    (hs : a.eval sl = vo) (c : Int) (hx : a.eval x = .slice (some ⟨w0.heap.size, 0, none⟩) 1 1) (hlen : out.length ≤ 33554432)
    (h : ∀ a3 n3 x3 w', w'.heap[b]? = some (.cells (rdC s k text vo vg) 41 (0, 0)) → Rd W0 b s k text (out ++ [c]) gaps (.slice a3 n3 x3) vg (w'.setCell ⟨b, 3, none⟩ (.slice a3 n3 x3)) → wpList Tryd.prog ops Q rest (a.put o.dst (.slice a3 n3 x3)) w') :
    wpList Tryd.prog ops Q (o :: rest) a (w0.alloc (.cells #[.int .i64 c] 3)) := by
  obtain ⟨i0, hi0, hz0, hz1, hz2⟩ := int_info
  have hown : (w0.alloc (.cells #[.int .i64 c] 3)).ownsRow W0.heap.size 3 1 vo out.length (out.map intC) :=
    row_keep hR.2.2.2.1 fun g cur hg => Below.heap_alloc w0 _ g (Array.getElem?_eq_some_iff.1 hg).1
  have hsz := hR.2.2.1.size
  refine wpList_append_own _ hgd sl x 27 ho W0.heap.size 3 i0 (.int .i64 0) 1 8 Tryd.underlying27 hi0 hz0 hz1 hz2 rfl (by decide) vo out.length (out.map intC) hs hown ⟨w0.heap.size, 0, none⟩ 1 1 [intC c] hx rfl
    (World.news_of_block (heap_alloc_new w0 (.cells #[.int .i64 c] 3 (0, 0)))) (by intro u hu; simp at hu; subst hu; rfl) (by unfold maxLen; omega) (by omega) (by simp; omega) ?_
  intro v' w' h2 h3 _
  obtain ⟨k1, k2⟩ := hR.outs _ c h2 h3
  obtain ⟨a3, n3, x3, rfl⟩ := row_shape k2.2.2.2.1
  exact h a3 n3 x3 w' k1 k2
theorem escP_val (l : List UInt8) (v : Int) (n : Nat) (h : escP l = some (v, n)) : v = -2 ∨ 0 ≤ v := by
  cases l with
  | nil => cases h
  | cons c t =>
    rw [escP_cons] at h
    unfold escC at h
    cases hs : signP c with
    | some x =>
      rw [hs] at h
      simp only [Option.some.injEq, Prod.mk.injEq] at h
      have := (signP_bd _ _ hs).2
      omega
    | none =>
      rw [hs] at h
      simp only at h
      split at h
      · simp only [Option.some.injEq, Prod.mk.injEq] at h; omega
      split at h
      · cases t with
        | nil => cases h
        | cons d t =>
          simp only at h
          split at h
          · simp only [Option.some.injEq, Prod.mk.injEq] at h; omega
          · cases h
      have hnum : ∀ base, 0 ≤ base → (match numP base t with | none => none | some (v, n) => some (v, n + 1)) = some (v, n) → v = -2 ∨ 0 ≤ v := by
        intro base hb h
        cases hn : numP base t with
        | none => rw [hn] at h; cases h
        | some p =>
          obtain ⟨v', n'⟩ := p
          rw [hn] at h
          simp only [Option.some.injEq, Prod.mk.injEq] at h
          have := numP_val base hb _ _ _ hn
          omega
      split at h
      · exact hnum 8 (by omega) h
      split at h
      · exact hnum 16 (by omega) h
      split at h
      · exact .inr (numP_val 10 (by omega) _ _ _ h).1
      split at h
      · simp only [Option.some.injEq, Prod.mk.injEq] at h
        obtain ⟨h1, _⟩ := h
        generalize (nameP (c :: t)).1 = q at *
        omega
      · cases h
theorem nextL_at (s : ByteArray) (i : Nat) (hi : i < s.size) : nextL s.data.toList i = (((dec (s.data.toList.drop i)).1 : Int), ((dec (s.data.toList.drop i)).2 : Int)) := by
  unfold nextL; rw [if_pos ⟨by omega, by rw [← Lib.size_eq]; omega⟩, Int.toNat_natCast]
/-- What one does. -/
def OnePost (W0 : World) (b : Nat) (s : ByteArray) (k : Nat) (text : Bool) (out : List Int) (gaps : List (Nat × Nat)) (R : Except Int (Int × Nat)) (g : Bool) (e : Ending) (w' : World) : Prop :=
  match R with
  | .error x => e = .panicked (faultV k x) ∧ ∃ k' vo vg, Rd W0 b s k' text out gaps vo vg w'
  | .ok (c, n) => e = .returned (.tuple #[]) ∧ ∃ vo vg, Rd W0 b s ((k + n : Nat) : Int) text (if c = -2 then out else out ++ [c]) (if g = true then gaps ++ [(k, k + n)] else gaps) vo vg w'
set_option maxHeartbeats 4000000 in
theorem one_end (W0 : World) (b : Nat) (s : ByteArray) (k : Nat) (text : Bool) (out : List Int) (gaps : List (Nat × Nat)) (vo vg : Value) (w : World) (hs : s.size ≤ 16777216) (hk : k = s.size) (h : Rd W0 b s k text out gaps vo vg w) :
    Calls Tryd.prog 41 #[.pointer (some ⟨b, 0, none⟩)] w (OnePost W0 b s k text out gaps (.error 50) false) := by
  obtain ⟨c0, c1, _, _, _, _⟩ := h.cells
  have t1 : decide ((s.size : Int) ≤ k) = true := by simp; omega
  have t2 : decide (s.size ≤ k) = true := by simp; omega
  have HR := Lib.hid h
  clear h hk
  unfold OnePost
  go_enter Tryd.func41, Tryd.ntmps41
  go_wp2_with fail
  go_quiet (fail)
  go_wp2_with fail
  refine (fail_any _ _ _ _).mono ?_
  rintro e w2 ⟨rfl, rfl⟩
  go_wp2_with fail
  exact ⟨rfl, rfl, _, _, _, HR.out.drew _⟩
set_option maxHeartbeats 4000000 in
theorem one_gap (W0 : World) (b : Nat) (s : ByteArray) (k : Nat) (text : Bool) (out : List Int) (gaps : List (Nat × Nat)) (vo vg : Value) (w : World) (hs : s.size ≤ 16777216) (hk : k < s.size) (hgl : gaps.length ≤ 16777216) (hg : (text && isGap (s.data.toList.drop k)) = true) (h : Rd W0 b s k text out gaps vo vg w) :
    Calls Tryd.prog 41 #[.pointer (some ⟨b, 0, none⟩)] w (OnePost W0 b s k text out gaps (.ok (-2, gapP (s.data.toList.drop (k + 1)) + 1)) true) := by
  obtain ⟨c0, c1, _, _, _, _⟩ := h.cells
  have t1 : decide ((s.size : Int) ≤ k) = false := by simp; omega
  have t2 : decide (s.size ≤ k) = false := by simp; omega
  have G1 := Lib.hid fun w h => gap_any W0 b s k text out gaps vo vg w hs hk hgl h
  rw [hg] at G1
  unfold GapPost at G1
  have HR := Lib.hid h
  clear h hk
  unfold OnePost
  simp only [if_true]
  go_enter Tryd.func41, Tryd.ntmps41
  go_wp2_with fail
  go_quiet (fail)
  go_wp2_with fail
  refine (G1.out _ (HR.out.drew _)).mono ?_
  rintro e w2 ⟨rfl, vo2, vg2, hR2⟩
  go_wp2_with fail
  refine bodyPost_ret (results_none rfl _ _ _) rfl ?_
  exact ⟨rfl, _, _, hR2⟩
end Go.Proofs.YtmgnpgbganjgfaaDoor
