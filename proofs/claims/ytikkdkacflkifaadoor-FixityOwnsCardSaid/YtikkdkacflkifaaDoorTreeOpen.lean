/- DERIVED. A tree that came in as a parameter, opened. -/
import Derived.Test.YtikkdkacflkifaaDoorRows
import Derived.Test.YtikkdkacflkifaaDoorTree
import Derived.Test.YtikkdkacflkifaaDoorTreeD
import Derived.ChangeArms
import Derived.Deep.Slices
import Derived.Lib.SmallJoins
set_option linter.unusedSimpArgs false
set_option linter.unusedVariables false
namespace Go.Proofs.YtikkdkacflkifaaDoor
open Go.RowKit Go.ChangeShapes Go.WideShapes
set_option maxRecDepth 20000

theorem node_fields : ∃ fs : Array Field, Tryd.prog.underlying 32 = some (.struct fs) ∧ fs.toList.map (fun f => (f.type, f.offset)) = [(3, 0), (3, 1), (9, 2), (3, 3), (3, 4), (30, 5)] := by
  have h : (match Tryd.prog.underlying 32 with | some (.struct fs) => fs.toList.map (fun f => (f.type, f.offset)) | _ => []) = [(3, 0), (3, 1), (9, 2), (3, 3), (3, 4), (30, 5)] := by kernel_rfl
  split at h
  · rename_i fs e
    exact ⟨fs, e, h⟩
  · simp at h
theorem cellsN : Tryd.prog.cellsOf 32 = 6 := by kernel_rfl
theorem cellsI : Tryd.prog.cellsOf 3 = 1 := by kernel_rfl
theorem cellsS : Tryd.prog.cellsOf 9 = 1 := by kernel_rfl
theorem cellsL : Tryd.prog.cellsOf 30 = 1 := by kernel_rfl

theorem choose_list (Q : Nat → Tr → Value → Prop) : ∀ len : Nat, (∀ i, i < len → ∃ t kv, Q i t kv) → ∃ (ks : List Tr) (K : Nat → Value), ks.length = len ∧ ∀ i (h : i < ks.length), Q i ks[i] (K i) := by
  intro len
  induction len with
  | zero => intro _; exact ⟨[], fun _ => .nilIface, rfl, fun i h => by simp at h⟩
  | succ n ih =>
    intro h
    obtain ⟨ks, K, hl, hq⟩ := ih (fun i hi => h i (by omega))
    obtain ⟨t, kv, hn⟩ := h n (by omega)
    refine ⟨ks ++ [t], fun i => if i = n then kv else K i, by simp [hl], fun i hi => ?_⟩
    by_cases hin : i < ks.length
    · rw [List.getElem_append_left hin]
      show Q i ks[i] (if i = n then kv else K i)
      rw [if_neg (by omega)]; exact hq i hin
    · have : i = n := by simp at hi; omega
      subst this
      rw [List.getElem_append_right (by omega)]
      show Q i _ (if i = i then kv else K i)
      rw [if_pos rfl]
      simp only [hl, Nat.sub_self, List.getElem_cons_zero]; exact hn
theorem blks_bulk {H : Type} (ks : List Tr) : ∀ (es : List (DataW H × List MemPlace)), ks.length = es.length → (∀ i (h : i < ks.length) (h2 : i < es.length), (ks[i]).blk ≤ Rows.uptoBulk es[i].1) → blks ks ≤ Rows.uptoBulkAll (es.map (·.1)) := by
  induction ks with
  | nil => intro es _ _; simp [blks]
  | cons k r ih =>
    intro es hl hb
    cases es with
    | nil => simp at hl
    | cons e s =>
      rw [blks, List.map_cons, Rows.uptoBulkAll]
      have h0 := hb 0 (by simp) (by simp)
      have h1 := ih s (by simpa using hl) (fun i h h2 => by have := hb (i + 1) (by simpa using h) (by simpa using h2); simpa using this)
      simp only [List.getElem_cons_zero] at h0
      omega

section
variable {H : Type} {enc : TypeId × Value → H} {W : World}
/-- The six parts. -/
theorem open_parts {n : Nat} {cs : List Value} {x : DataW H × List MemPlace} (h : DataW.trod enc Tryd.prog W 0 (fun _ => true) true n 32 cs = some x) :
    ∃ m, n = m + 1 ∧ ∃ (kd fm ln cl : Int) (tx : ByteArray) (kv : Value) (y : DataW H × List MemPlace), cs = [.int .i64 kd, .int .i64 fm, .string tx, .int .i64 ln, .int .i64 cl, kv] ∧
      DataW.trod enc Tryd.prog W 0 (fun _ => true) true m 30 [kv] = some y ∧ x.1 = .agg [.lit (.int .i64 kd), .lit (.int .i64 fm), .lit (.string tx.data.toList), .lit (.int .i64 ln), .lit (.int .i64 cl), y.1] := by
  obtain ⟨fs, hfs, hmap⟩ := node_fields
  obtain ⟨xs, m, rfl, rfl, hl, hlen, hf⟩ := DataW.trod_struct hfs h
  rw [cellsN] at hl
  have hsz : fs.size = 6 := by have := congrArg List.length hmap; simpa using this
  match cs, hl with
  | [c0, c1, c2, c3, c4, c5], _ =>
    match xs, hlen.trans hsz with
    | [y0, y1, y2, y3, y4, y5], _ =>
      have key : ∀ (i : Nat) (t : TypeId) (o : Nat), ([(3, 0), (3, 1), (9, 2), (3, 3), (3, 4), (30, 5)] : List (TypeId × Nat))[i]? = some (t, o) →
          DataW.trod enc Tryd.prog W 0 (fun _ => true) true m t (([c0, c1, c2, c3, c4, c5].drop o).take (Tryd.prog.cellsOf t)) = [y0, y1, y2, y3, y4, y5][i]? := fun i t o hi => by
        rw [← hmap, List.getElem?_map] at hi
        cases hfi : fs.toList[i]? with
        | none => rw [hfi] at hi; simp at hi
        | some f =>
          rw [hfi] at hi
          simp only [Option.map_some, Option.some.injEq, Prod.mk.injEq] at hi
          obtain ⟨rfl, rfl⟩ := hi
          exact hf i f (by rw [← Array.getElem?_toList]; exact hfi)
      have k0 := key 0 _ _ rfl
      have k1 := key 1 _ _ rfl
      have k2 := key 2 _ _ rfl
      have k3 := key 3 _ _ rfl
      have k4 := key 4 _ _ rfl
      have k5 := key 5 _ _ rfl
      simp only [cellsI, cellsS, cellsL, List.drop_succ_cons, List.drop_zero, List.take_succ_cons, List.take_zero, List.getElem?_cons_zero, List.getElem?_cons_succ] at k0 k1 k2 k3 k4 k5
      obtain ⟨n0, e0, rfl, _⟩ := DataW.trod_int Tryd.underlying3 k0
      obtain ⟨n1, e1, rfl, _⟩ := DataW.trod_int Tryd.underlying3 k1
      obtain ⟨s2, e2, rfl, _⟩ := DataW.trod_string Tryd.underlying9 k2
      obtain ⟨n3, e3, rfl, _⟩ := DataW.trod_int Tryd.underlying3 k3
      obtain ⟨n4, e4, rfl, _⟩ := DataW.trod_int Tryd.underlying3 k4
      simp only [List.cons.injEq, and_true] at e0 e1 e2 e3 e4
      subst e0 e1 e2 e3 e4
      exact ⟨m, rfl, n0, n1, n3, n4, s2, c5, y5, rfl, k5, rfl⟩
/-- A tree that came in. -/
theorem open_node (n : Nat) : ∀ (cs : List Value) (x : DataW H × List MemPlace), DataW.trod enc Tryd.prog W 0 (fun _ => true) true n 32 cs = some x →
    ∃ (t : Tr) (kv : Value), cs = [.int .i64 t.kind, .int .i64 t.form, .string t.text, .int .i64 t.line, .int .i64 t.col, kv] ∧ Lies W t kv ∧ t.blk ≤ Rows.uptoBulk x.1 := by
  induction n using Nat.strongRecOn with
  | _ n ih =>
    intro cs x h
    obtain ⟨m, rfl, kd, fm, ln, cl, tx, kv, y, rfl, hk, hx⟩ := open_parts h
    have hbulk : Rows.uptoBulk x.1 = tx.size + Rows.uptoBulk y.1 + 6 := by
      rw [hx]; simp only [Rows.uptoBulk, Rows.uptoBulkAll]; rw [← Lib.size_eq]; omega
    rcases DataW.trod_slice Tryd.underlying30 hk with ⟨hc, hy⟩ | ⟨a, len, cap, elems, rest, q, rfl, hc, hy, _, hlc, hcm, hlen, hel, _, _⟩
    · simp only [List.cons.injEq, and_true] at hc
      subst hc
      refine ⟨.mk kd fm tx ln cl [], .slice none 0 0, rfl, Lies.leaf .., ?_⟩
      rw [Tr.blk_def, hbulk, hy]
      simp only [Tr.text, Tr.kids, blks, Rows.uptoBulk]
      omega
    · simp only [List.cons.injEq, and_true] at hc
      subst hc
      have hone : ∀ i, i < len → ∃ t kv, (Cells6 W a.block (a.off + i * 6) t kv ∧ (i = 0 → a.spot = none)) ∧ Lies W t kv ∧ ∀ h2 : i < elems.length, t.blk ≤ Rows.uptoBulk elems[i].1 := fun i hi => by
        have h1 := hel i hi
        rw [cellsN, List.getElem?_eq_getElem (by omega)] at h1
        cases hcs : W.cells? 0 (a.add (i * 6)) 6 with
        | none => rw [hcs] at h1; simp at h1
        | some cs' =>
          rw [hcs] at h1
          simp only [Option.bind_some] at h1
          obtain ⟨t, kv, rfl, hl, hb⟩ := ih q (by omega) cs' _ h1
          obtain ⟨_, _, hcell⟩ := World.cells?_some hcs
          obtain ⟨b, o, spot⟩ := a
          have g := fun j (hj : j < 6) => hcell j hj
          have hsp : i = 0 → spot = none := fun h0 => by
            subst h0
            have h := World.cell?_spot (hcell 0 (by omega))
            simpa [Addr.add] using h
          refine ⟨t, kv, ⟨?_, hsp⟩, hl, fun _ => hb⟩
          have g0 := g 0 (by omega); have g1 := g 1 (by omega); have g2 := g 2 (by omega); have g3 := g 3 (by omega); have g4 := g 4 (by omega); have g5 := g 5 (by omega)
          have hb2 : ∀ k o, (⟨b, o, none⟩ : Addr).add k = ⟨b, o + k, none⟩ := by intro k o; unfold Addr.add; split <;> simp_all
          have ha : (⟨b, o, spot⟩ : Addr).add (i * 6) = ⟨b, o + i * 6, none⟩ := by
            by_cases h0 : i = 0
            · rw [hsp h0, hb2]
            · unfold Addr.add; rw [if_neg (by omega)]
          rw [ha] at g0 g1 g2 g3 g4 g5
          simp only [hb2] at g0 g1 g2 g3 g4 g5
          exact ⟨g0, g1, g2, g3, g4, g5⟩
      obtain ⟨ks, K, hkl, hq⟩ := choose_list _ len hone
      subst hkl
      refine ⟨.mk kd fm tx ln cl ks, .slice (some a) ks.length cap, rfl, ?_, ?_⟩
      · refine Lies.mk kd fm tx ln cl ks (some a) cap a.block a.off K ⟨hlc, hcm⟩ (fun h => ?_) (fun i h => (hq i h).1.1) (fun i h => (hq i h).2.1)
        have := (hq 0 h).1.2 rfl
        obtain ⟨b, o, spot⟩ := a
        simp only at this
        rw [this]
      · have hb := blks_bulk ks elems hlen.symm (fun i h h2 => (hq i h).2.2 h2)
        rw [Tr.blk_def, hbulk, hy]
        simp only [Tr.text, Tr.kids, Rows.uptoBulk]
        omega
/-- A tree that came in as a parameter. -/
theorem open_tree {r : Reach} {b0 : Nat} {v : Value} {d : DataW H} {p : List MemPlace} (hv : Value.okWide Tryd.prog W r b0 32 v) (h : DataW.Trod enc Tryd.prog W 0 (fun _ => true) true 32 v d p) :
    ∃ (t : Tr) (kv : Value), v = nodeV t kv ∧ Lies W t kv ∧ t.blk ≤ Rows.uptoBulk d := by
  obtain ⟨fs, hfs, _⟩ := node_fields
  obtain ⟨cs, rfl, _⟩ := okWide_struct hfs hv
  obtain ⟨fuel, hf⟩ := h
  obtain ⟨t, kv, hc, hl, hb⟩ := open_node fuel _ _ hf
  refine ⟨t, kv, ?_, hl, hb⟩
  unfold nodeV
  congr 1
  apply Array.toList_inj.1
  simpa [Value.cells] using hc
end
theorem same_refl (n : Nat) : ∀ t : Tr, t.size ≤ n → t.same t = true := by
  induction n with
  | zero => intro t h; rw [Tr.size_def] at h; omega
  | succ n ih =>
    intro t h
    rw [Tr.size_def] at h
    have key : ∀ ks : List Tr, sizes ks ≤ n → sames ks ks = true := by
      intro ks
      induction ks with
      | nil => intro _; rfl
      | cons k r ihr =>
        intro hs
        rw [sizes] at hs
        rw [sames, ih k (by omega), ihr (by omega)]; rfl
    rw [Tr.same_def, key t.kids (by omega)]; simp
end Go.Proofs.YtikkdkacflkifaaDoor
