/- DERIVED. A tree that came in as a parameter, opened: its texts are within the form's reach. -/
import Derived.Test.YtikkdkacflkifaaDoorTreeOpen
import Derived.Test.YtikkdkacflkifaaDoorFixC
import Derived.SizedLaws
set_option linter.unusedSimpArgs false
set_option linter.unusedVariables false
namespace Go.Proofs.YtikkdkacflkifaaDoor
open Go.RowKit Go.ChangeShapes Go.WideShapes
set_option maxRecDepth 20000

/-- A tree's texts are within reach. -/
inductive Fits : Tr → Prop
  | mk (kd fm : Int) (tx : ByteArray) (ln cl : Int) (ks : List Tr) (h : tx.size ≤ 140737488351232) (hn : ks.length * 72 ≤ 140737488351232) (hk : ∀ i (h : i < ks.length), Fits ks[i]) : Fits (.mk kd fm tx ln cl ks)
theorem Fits.text {t : Tr} (h : Fits t) : t.text.size ≤ 140737488351232 := by cases h; assumption
theorem Fits.kid {t : Tr} (h : Fits t) (i : Nat) (hi : i < t.kids.length) : Fits t.kids[i] := by cases h with | mk kd fm tx ln cl ks h hn hk => exact hk i hi
theorem Fits.few {t : Tr} (h : Fits t) : t.kids.length ≤ 2199023255552 := by cases h with | mk kd fm tx ln cl ks h hn hk => show ks.length ≤ _; omega
theorem Fits.mid {t : Tr} (h : Fits t) : t.mid.text.size ≤ 1152921504606846976 := by
  by_cases hl : t.kids.length / 2 < t.kids.length
  · have h1 := (h.kid _ hl).text
    rw [mid_get t hl] at h1
    omega
  · unfold Tr.mid
    rw [List.getElem?_eq_none (by omega)]
    show (⟨#[]⟩ : ByteArray).size ≤ _
    decide
theorem weightsAll_mem {H : Type} {P : Program} {e : TypeId} : ∀ (l : List (DataW H)) (d : DataW H) (n : Nat), d ∈ l → n ∈ d.weights P e → n ∈ DataW.weightsAll P e l := by
  intro l
  induction l with
  | nil => intro d n h; cases h
  | cons x r ih =>
    intro d n h hn
    rw [DataW.weightsAll, List.mem_append]
    cases h with
    | head => exact .inl hn
    | tail _ h => exact .inr (ih d n h hn)
theorem node_weights {H : Type} (a b c d : Int) (s : List UInt8) (y : DataW H) : (DataW.agg [.lit (.int .i64 a), .lit (.int .i64 b), .lit (.string s), .lit (.int .i64 c), .lit (.int .i64 d), y]).weights Tryd.prog 32 = s.length :: y.weights Tryd.prog 30 := by
  obtain ⟨fs, hfs, hmap⟩ := node_fields
  have h2 : fs.toList.map (·.type) = [3, 3, 9, 3, 3, 30] := by
    have := congrArg (List.map (·.1)) hmap
    simpa [List.map_map, Function.comp_def] using this
  rw [DataW.weights, hfs]
  simp only [h2, DataW.weightsEach, DataW.weights, List.nil_append, List.append_nil, List.cons_append]
theorem slice_weights {H : Type} (elems : List (DataW H × List MemPlace)) (rest : List (DataW H)) (i : Nat) (hi : i < elems.length) (v : Nat) (hv : v ∈ (elems[i]).1.weights Tryd.prog 32) : v ∈ (DataW.slice (elems.map (·.1)) rest).weights Tryd.prog 30 := by
  rw [DataW.weights, Tryd.underlying30]
  simp only
  refine List.mem_cons_of_mem _ (List.mem_append_left _ (weightsAll_mem _ (elems[i]).1 v ?_ hv))
  exact List.mem_map.2 ⟨elems[i], List.getElem_mem hi, rfl⟩
theorem bytesN : Tryd.prog.bytesOf 32 = 72 := by kernel_rfl
theorem slice_weight0 {H : Type} (elems rest : List (DataW H)) : (elems.length + rest.length) * 72 ∈ (DataW.slice elems rest).weights Tryd.prog 30 := by
  rw [DataW.weights, Tryd.underlying30]
  simp only
  rw [bytesN]
  exact List.mem_cons_self ..
section
variable {H : Type} {enc : TypeId × Value → H} {W : World}
/-- A tree that came in, its texts within reach. -/
theorem open_node_fits (n : Nat) : ∀ (cs : List Value) (x : DataW H × List MemPlace), DataW.trod enc Tryd.prog W 0 (fun _ => true) true n 32 cs = some x → (∀ v ∈ x.1.weights Tryd.prog 32, v ≤ 140737488351232) →
    ∃ (t : Tr) (kv : Value), cs = [.int .i64 t.kind, .int .i64 t.form, .string t.text, .int .i64 t.line, .int .i64 t.col, kv] ∧ Lies W t kv ∧ t.blk ≤ Rows.uptoBulk x.1 ∧ Fits t := by
  induction n using Nat.strongRecOn with
  | _ n ih =>
    intro cs x h hwt
    obtain ⟨m, rfl, kd, fm, ln, cl, tx, kv, y, rfl, hk, hx⟩ := open_parts h
    rw [hx, node_weights] at hwt
    have htx : tx.size ≤ 140737488351232 := by rw [Lib.size_eq]; exact hwt _ (List.mem_cons_self ..)
    have hwy := fun v hv => hwt v (List.mem_cons_of_mem _ hv)
    have hbulk : Rows.uptoBulk x.1 = tx.size + Rows.uptoBulk y.1 + 6 := by
      rw [hx]; simp only [Rows.uptoBulk, Rows.uptoBulkAll]; rw [← Lib.size_eq]; omega
    rcases DataW.trod_slice Tryd.underlying30 hk with ⟨hc, hy⟩ | ⟨a, len, cap, elems, rest, q, rfl, hc, hy, _, hlc, hcm, hlen, hel, _, _⟩
    · simp only [List.cons.injEq, and_true] at hc
      subst hc
      refine ⟨.mk kd fm tx ln cl [], .slice none 0 0, rfl, Lies.leaf .., ?_, .mk _ _ _ _ _ _ htx (by simp) (fun i h => by simp at h)⟩
      rw [Tr.blk_def, hbulk, hy]
      simp only [Tr.text, Tr.kids, blks, Rows.uptoBulk]
      omega
    · simp only [List.cons.injEq, and_true] at hc
      subst hc
      have hone : ∀ i, i < len → ∃ t kv, (Cells6 W a.block (a.off + i * 6) t kv ∧ (i = 0 → a.spot = none)) ∧ Lies W t kv ∧ (∀ h2 : i < elems.length, t.blk ≤ Rows.uptoBulk elems[i].1) ∧ Fits t := fun i hi => by
        have h1 := hel i hi
        rw [cellsN, List.getElem?_eq_getElem (by omega)] at h1
        cases hcs : W.cells? 0 (a.add (i * 6)) 6 with
        | none => rw [hcs] at h1; simp at h1
        | some cs' =>
          rw [hcs] at h1
          simp only [Option.bind_some] at h1
          obtain ⟨t, kv, rfl, hl, hb, hft⟩ := ih q (by omega) cs' _ h1 (fun v hv => hwy v (by rw [hy]; exact slice_weights _ _ _ (by omega) v hv))
          obtain ⟨_, _, hcell⟩ := World.cells?_some hcs
          obtain ⟨b, o, spot⟩ := a
          have g := fun j (hj : j < 6) => hcell j hj
          have hsp : i = 0 → spot = none := fun h0 => by
            subst h0
            have h := World.cell?_spot (hcell 0 (by omega))
            simpa [Addr.add] using h
          refine ⟨t, kv, ⟨?_, hsp⟩, hl, fun _ => hb, hft⟩
          have g0 := g 0 (by omega); have g1 := g 1 (by omega); have g2 := g 2 (by omega); have g3 := g 3 (by omega); have g4 := g 4 (by omega); have g5 := g 5 (by omega)
          have hb2 : ∀ k o, (⟨b, o, none⟩ : Addr).add k = ⟨b, o + k, none⟩ := by intro k o; unfold Addr.add; split <;> simp_all
          have ha : (⟨b, o, spot⟩ : Addr).add (i * 6) = ⟨b, o + i * 6, none⟩ := by
            by_cases h0 : i = 0
            · rw [hsp h0, hb2]
            · unfold Addr.add; rw [if_neg (by omega)]
          rw [ha] at g0 g1 g2 g3 g4 g5
          simp only [hb2] at g0 g1 g2 g3 g4 g5
          exact ⟨g0, g1, g2, g3, g4, g5⟩
      obtain ⟨ks, K, hkl, hq⟩ := choose_list _ len hone
      subst hkl
      refine ⟨.mk kd fm tx ln cl ks, .slice (some a) ks.length cap, rfl, ?_, ?_, .mk _ _ _ _ _ _ htx ?_ (fun i h => (hq i h).2.2.2)⟩
      · refine Lies.mk kd fm tx ln cl ks (some a) cap a.block a.off K ⟨hlc, hcm⟩ (fun h => ?_) (fun i h => (hq i h).1.1) (fun i h => (hq i h).2.1)
        have := (hq 0 h).1.2 rfl
        obtain ⟨b, o, spot⟩ := a
        simp only at this
        rw [this]
      · have hb := blks_bulk ks elems hlen.symm (fun i h h2 => (hq i h).2.2.1 h2)
        rw [Tr.blk_def, hbulk, hy]
        simp only [Tr.text, Tr.kids, Rows.uptoBulk]
        omega
      · have hw2 := hwy
        rw [hy] at hw2
        have h := hw2 _ (slice_weight0 _ _)
        simp only [List.length_map] at h
        show ks.length * 72 ≤ _
        omega
/-- A tree that came in as a parameter, its texts within reach. -/
theorem open_tree_fits {r : Reach} {b0 : Nat} {v : Value} {d : DataW H} {p : List MemPlace} (hv : Value.okWide Tryd.prog W r b0 32 v) (h : DataW.Trod enc Tryd.prog W 0 (fun _ => true) true 32 v d p) (hwt : ∀ n ∈ d.weights Tryd.prog 32, n ≤ 140737488351232) :
    ∃ (t : Tr) (kv : Value), v = nodeV t kv ∧ Lies W t kv ∧ t.blk ≤ Rows.uptoBulk d ∧ Fits t := by
  obtain ⟨fs, hfs, _⟩ := node_fields
  obtain ⟨cs, rfl, _⟩ := okWide_struct hfs hv
  obtain ⟨fuel, hf⟩ := h
  obtain ⟨t, kv, hc, hl, hb, hft⟩ := open_node_fits fuel _ _ hf hwt
  refine ⟨t, kv, ?_, hl, hb, hft⟩
  unfold nodeV
  congr 1
  apply Array.toList_inj.1
  simpa [Value.cells] using hc
end
end Go.Proofs.YtikkdkacflkifaaDoor
