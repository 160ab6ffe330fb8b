/- DERIVED. A slice of fixities that came in as a parameter, opened. -/
import Derived.Test.YtikkdkacflkifaaDoorFix
import Derived.Test.YtikkdkacflkifaaDoorRows
import Derived.ChangeArms
import Derived.Deep.Slices
import Derived.Lib.SmallJoins
set_option linter.unusedSimpArgs false
set_option linter.unusedVariables false
namespace Go.Proofs.YtikkdkacflkifaaDoor
open Go.RowKit Go.ChangeShapes Go.WideShapes
set_option maxRecDepth 20000

theorem fix_fields : ∃ fs : Array Field, Tryd.prog.underlying 25 = some (.struct fs) ∧ fs.toList.map (fun f => (f.type, f.offset)) = [(9, 0), (3, 1), (3, 2)] := by
  have h : (match Tryd.prog.underlying 25 with | some (.struct fs) => fs.toList.map (fun f => (f.type, f.offset)) | _ => []) = [(9, 0), (3, 1), (3, 2)] := by kernel_rfl
  split at h
  · rename_i fs e
    exact ⟨fs, e, h⟩
  · simp at h
theorem cellsFx : Tryd.prog.cellsOf 25 = 3 := by kernel_rfl
theorem cellsIx : Tryd.prog.cellsOf 3 = 1 := by kernel_rfl
theorem cellsSx : Tryd.prog.cellsOf 9 = 1 := by kernel_rfl
section
variable {H : Type} {enc : TypeId × Value → H} {W : World}
theorem open_fix {n : Nat} {cs : List Value} {x : DataW H × List MemPlace} (h : DataW.trod enc Tryd.prog W 0 (fun _ => true) true n 25 cs = some x) : ∃ f : Fx, cs = fxCells f := by
  obtain ⟨fs, hfs, hmap⟩ := fix_fields
  obtain ⟨xs, m, rfl, rfl, hl, hlen, hf⟩ := DataW.trod_struct hfs h
  rw [cellsFx] at hl
  have hsz : fs.size = 3 := by have := congrArg List.length hmap; simpa using this
  match cs, hl with
  | [c0, c1, c2], _ =>
    match xs, hlen.trans hsz with
    | [y0, y1, y2], _ =>
      have key : ∀ (i : Nat) (t : TypeId) (o : Nat), ([(9, 0), (3, 1), (3, 2)] : List (TypeId × Nat))[i]? = some (t, o) →
          DataW.trod enc Tryd.prog W 0 (fun _ => true) true m t (([c0, c1, c2].drop o).take (Tryd.prog.cellsOf t)) = [y0, y1, y2][i]? := fun i t o hi => by
        rw [← hmap, List.getElem?_map] at hi
        cases hfi : fs.toList[i]? with
        | none => rw [hfi] at hi; simp at hi
        | some f =>
          rw [hfi] at hi
          simp only [Option.map_some, Option.some.injEq, Prod.mk.injEq] at hi
          obtain ⟨rfl, rfl⟩ := hi
          exact hf i f (by rw [← Array.getElem?_toList]; exact hfi)
      have k0 := key 0 _ _ rfl
      have k1 := key 1 _ _ rfl
      have k2 := key 2 _ _ rfl
      simp only [cellsIx, cellsSx, List.drop_succ_cons, List.drop_zero, List.take_succ_cons, List.take_zero, List.getElem?_cons_zero, List.getElem?_cons_succ] at k0 k1 k2
      obtain ⟨s0, e0, rfl, _⟩ := DataW.trod_string Tryd.underlying9 k0
      obtain ⟨n1, e1, rfl, _⟩ := DataW.trod_int Tryd.underlying3 k1
      obtain ⟨n2, e2, rfl, _⟩ := DataW.trod_int Tryd.underlying3 k2
      simp only [List.cons.injEq, and_true] at e0 e1 e2
      subst e0 e1 e2
      exact ⟨⟨s0, n1, n2⟩, rfl⟩
theorem choose_list_x (Q : Nat → Fx → Prop) : ∀ len : Nat, (∀ i, i < len → ∃ x, Q i x) → ∃ (l : List Fx), l.length = len ∧ ∀ i (h : i < l.length), Q i l[i] := by
  intro len
  induction len with
  | zero => intro _; exact ⟨[], rfl, fun i h => by simp at h⟩
  | succ n ih =>
    intro h
    obtain ⟨l, hl, hq⟩ := ih (fun i hi => h i (by omega))
    obtain ⟨x, hn⟩ := h n (by omega)
    refine ⟨l ++ [x], by simp [hl], fun i hi => ?_⟩
    by_cases hin : i < l.length
    · rw [List.getElem_append_left hin]; exact hq i hin
    · have : i = n := by simp at hi; omega
      subst this
      rw [List.getElem_append_right (by omega)]
      simp only [hl, Nat.sub_self, List.getElem_cons_zero]; exact hn
/-- A slice of fixities that came in as a parameter. -/
theorem open_fixes {r : Reach} {b0 : Nat} {v : Value} {d : DataW H} {p : List MemPlace} (hv : Value.okWide Tryd.prog W r b0 22 v) (h : DataW.Trod enc Tryd.prog W 0 (fun _ => true) true 22 v d p) :
    ∃ (env : List Fx) (xa : Option Addr) (cap b o : Nat), v = .slice xa env.length cap ∧ (0 < env.length → xa = some ⟨b, o, none⟩) ∧ Fixes W b o env := by
  obtain ⟨a, len, cap, rfl⟩ := okWide_slice Tryd.underlying22 hv
  obtain ⟨fuel, hf⟩ := h
  have hf : DataW.trod enc Tryd.prog W 0 (fun _ => true) true fuel 22 [Value.slice a len cap] = some (d, p) := by simpa [Value.cells] using hf
  rcases DataW.trod_slice Tryd.underlying22 hf with ⟨hc, hy⟩ | ⟨a, len, cap, elems, rest, q, rfl, hc, hy, _, hlc, hcm, hlen, hel, _, _⟩
  · simp only [List.cons.injEq, and_true, Value.slice.injEq] at hc
    obtain ⟨rfl, rfl, rfl⟩ := hc
    exact ⟨[], none, 0, 0, 0, rfl, fun h => by simp at h, by simp, fun i h => by simp at h⟩
  · simp only [List.cons.injEq, and_true, Value.slice.injEq] at hc
    obtain ⟨rfl, rfl, rfl⟩ := hc
    have hone : ∀ i, i < len → ∃ x, FixAt W a.block (a.off + i * 3) x ∧ (i = 0 → a.spot = none) := fun i hi => by
      have h1 := hel i hi
      rw [cellsFx, List.getElem?_eq_getElem (by omega)] at h1
      cases hcs : W.cells? 0 (a.add (i * 3)) 3 with
      | none => rw [hcs] at h1; simp at h1
      | some cs' =>
        rw [hcs] at h1
        simp only [Option.bind_some] at h1
        obtain ⟨x, rfl⟩ := open_fix h1
        obtain ⟨_, _, hcell⟩ := World.cells?_some hcs
        obtain ⟨b, o, spot⟩ := a
        have g := fun j (hj : j < 3) => hcell j hj
        have hsp : i = 0 → spot = none := fun h0 => by
          subst h0
          have h := World.cell?_spot (hcell 0 (by omega))
          simpa [Addr.add] using h
        refine ⟨x, ?_, hsp⟩
        have g0 := g 0 (by omega); have g1 := g 1 (by omega); have g2 := g 2 (by omega)
        have hb2 : ∀ k o, (⟨b, o, none⟩ : Addr).add k = ⟨b, o + k, none⟩ := by intro k o; unfold Addr.add; split <;> simp_all
        have ha : (⟨b, o, spot⟩ : Addr).add (i * 3) = ⟨b, o + i * 3, none⟩ := by
          by_cases h0 : i = 0
          · rw [hsp h0, hb2]
          · unfold Addr.add; rw [if_neg (by omega)]
        rw [ha] at g0 g1 g2
        simp only [hb2] at g0 g1 g2
        exact ⟨g0, g1, g2⟩
    obtain ⟨l, hl, hq⟩ := choose_list_x _ len hone
    subst hl
    refine ⟨l, some a, cap, a.block, a.off, rfl, fun h => ?_, by unfold maxLen at hcm; omega, fun i h => (hq i h).1⟩
    have := (hq 0 h).2 rfl
    obtain ⟨b, o, spot⟩ := a
    simp only at this
    rw [this]
end
end Go.Proofs.YtikkdkacflkifaaDoor
