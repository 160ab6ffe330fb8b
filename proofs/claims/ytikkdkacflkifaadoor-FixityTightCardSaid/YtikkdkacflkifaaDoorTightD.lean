/- DERIVED. tight, of a tree in which each operator stands right. -/
import Derived.Test.YtikkdkacflkifaaDoorTightC
import Derived.Test.YtikkdkacflkifaaDoorOwnN
set_option linter.unusedSimpArgs false
set_option linter.unusedVariables false
namespace Go.Proofs.YtikkdkacflkifaaDoor
open Go.RowKit

def MidOk (o : Tr) : Prop := o.mid.text.size ≤ 1152921504606846976
theorem tight_under {env : List Fx} {ops : List Tr} {x : Tr} {a b : Nat} (h : Tight MidOk env ops x a b) :
    (x.kind ≠ 20 ∧ x.kind ≠ 21 ∧ (underX env x).2 = false) ∨ (x.kind = 21 ∧ underX env x = (⟨⟨#[]⟩, 1, 6⟩, true) ∧ rootF env x = some ⟨⟨#[]⟩, 1, 6⟩) ∨ (x.kind = 20 ∧ underX env x = (fixOf env x.op, true) ∧ rootF env x = some (fixOf env x.op) ∧ MidOk x.op) := by
  cases h with
  | leaf t a h h1 h2 => left; refine ⟨h1, h2, ?_⟩; unfold underX; rw [if_neg h2, if_neg (fun h => h1 h.1)]
  | neg m x a b h hx => right; left; exact ⟨rfl, rfl, rfl⟩
  | inf l o r a b c hl hr hp ho hL hR =>
    right; right
    refine ⟨rfl, ?_, rfl, hp⟩
    unfold underX
    rw [if_neg (by simp [nodeOf, Tr.kind]), if_pos ⟨rfl, rfl⟩]
    have e : (nodeOf 20 [l, o, r]).op = o := rfl
    rw [e, ho]
theorem mid_of {env : List Fx} {ops : List Tr} {x : Tr} {a b : Nat} (h : Tight MidOk env ops x a b) : x.kind = 20 → x.op.mid.text.size ≤ 1152921504606846976 := by
  rcases tight_under h with h1 | h1 | h1
  · exact fun h => absurd h h1.1
  · exact fun h => by have := h1.1; omega
  · exact fun _ => h1.2.2.2
theorem tight_does (env : List Fx) (xa : Option Addr) (ec eb eo : Nat) (ops : List Tr) (oa : Option Addr) (oc ob oo : Nat) (OK : Nat → Value) (hK : ∀ x ∈ ops, x.kind ≠ 20 ∧ x.kind ≠ 21) {t : Tr} {a b : Nat} (h : Tight MidOk env ops t a b) :
    TDoes env xa ec eb eo ops oa oc ob oo OK t a b := by
  have hal : ∀ (x : Tr) (i : Nat) (hi : i < ops.length), x.kind = 20 ∨ x.kind = 21 → x.alike ops[i] = false := fun x i hi hx =>
    alike_kind (by have := hK ops[i] (List.getElem_mem hi); omega)
  induction h with
  | leaf t a h h1 h2 => exact tight_leaf env xa ec eb eo ops oa oc ob oo OK t a h
  | neg m x a b h hx ih =>
    have hlt := h.lt
    have ha : a < ops.length := by omega
    refine tight_neg env xa ec eb eo ops oa oc ob oo OK (nodeOf 21 [m, x]) x a b rfl rfl rfl ha ih (hal _ a ha (.inr rfl)) (mid_of h) ?_
    rcases tight_under h with h1 | ⟨h1, _, h3⟩ | ⟨h1, h2, h3, _⟩
    · exact .inl h1.2.2
    · have := (hx _ h3).1; omega
    · refine .inr ⟨hal x a ha (.inl h1), by rw [h2], h1, ?_⟩
      rw [h2]; exact (hx _ h3).2
  | inf l o r a b c hl hr hp ho hL hR ih1 ih2 =>
    have h1 := hl.lt
    have h2 := hr.lt
    have ha : a < ops.length := by omega
    have hb : b < ops.length := by omega
    have hU : underX env (nodeOf 20 [l, o, r]) = (fixOf env o, true) := by
      unfold underX
      rw [if_neg (by simp [nodeOf, Tr.kind]), if_pos ⟨rfl, rfl⟩]
      have e : (nodeOf 20 [l, o, r]).op = o := rfl
      rw [e, ho]
    refine tight_inf env xa ec eb eo ops oa oc ob oo OK (nodeOf 20 [l, o, r]) l r a b c rfl rfl rfl rfl ha hb ih1 ih2 (hal _ a ha (.inl rfl)) (fixOf env o) (underX env l).1 (underX env r).1 (underX env l).2 (underX env r).2 hU rfl rfl hp (mid_of hl) (mid_of hr) ?_ ?_
    · rcases tight_under hl with h1 | ⟨h1, h2, h3⟩ | ⟨h1, h2, h3, _⟩
      · exact .inl h1.2.2
      · refine .inr ⟨hal l a ha (.inr h1), by rw [h2], ?_⟩
        rw [h2]; exact hL _ h3
      · refine .inr ⟨hal l a ha (.inl h1), by rw [h2], ?_⟩
        rw [h2]; exact hL _ h3
    · rcases tight_under hr with h1 | ⟨h1, h2, h3⟩ | ⟨h1, h2, h3, _⟩
      · exact .inl h1.2.2
      · refine .inr ⟨hal r b hb (.inr h1), by rw [h2], .inl ⟨h1, (hR _ h3).1 h1⟩⟩
      · refine .inr ⟨hal r b hb (.inl h1), by rw [h2], .inr ⟨h1, ?_⟩⟩
        rw [h2]; exact (hR _ h3).2 h1
/-- A row of operands, as tight takes it. -/
theorem row_ground {w W : World} {B : Nat} {v : Value} {ts : List (Tr × Value)} (h : W.ownsRow B 32 6 v ts.length (ts.flatMap nodeCells)) (hl : ∀ x ∈ ts, Lies w x.1 x.2) (hb : Below w.heap.size w W) :
    ∃ (oa : Option Addr) (oc ob oo : Nat) (OK : Nat → Value), v = .slice oa (ts.map (·.1)).length oc ∧ (0 < (ts.map (·.1)).length → oa = some ⟨ob, oo, none⟩) ∧ ∀ i (h : i < (ts.map (·.1)).length), Cells6 W ob (oo + i * 6) (ts.map (·.1))[i] (OK i) ∧ Lies W (ts.map (·.1))[i] (OK i) := by
  have e : (ts.map (·.1)).length = ts.length := List.length_map _
  rcases h.2 with ⟨rfl, h0⟩ | ⟨g, cap, cur, rfl, hg, hgg, hnc, hcm, _⟩
  · exact ⟨none, 0, 0, 0, fun _ => .nilIface, by rw [e, h0], fun h => by omega, fun i h => by omega⟩
  · refine ⟨some ⟨g, 0, none⟩, cap, g, 0, fun i => ((ts[i]?).map (·.2)).getD .nilIface, by rw [e], fun _ => rfl, fun i hi0 => ?_⟩
    have hi : i < ts.length := by omega
    have hc : ∀ (j : Nat), j < 6 → W.cell? ⟨g, i * 6 + j, none⟩ = (nodeCells ts[i])[j]? := fun j hj => by
      rw [World.ownsRow.cellAt h (i * 6 + j) (by omega), nodes_at ts i hi j hj]
    have h0 := hc 0 (by omega); have h1 := hc 1 (by omega); have h2 := hc 2 (by omega); have h3 := hc 3 (by omega); have h4 := hc 4 (by omega); have h5 := hc 5 (by omega)
    simp only [nodeCells, List.getElem?_cons_zero, List.getElem?_cons_succ] at h0 h1 h2 h3 h4 h5
    rw [List.getElem_map]
    simp only [List.getElem?_eq_getElem hi, Nat.zero_add, Option.map_some, Option.getD_some]
    exact ⟨⟨h0, h1, h2, h3, h4, h5⟩, (hl ts[i] (List.getElem_mem hi)).keep hb⟩
theorem opds_take (ks : List Tr) (i : Nat) (h : i < ks.length) : opds (ks.take (i + 1)) = opds (ks.take i) ++ (if isOpd ks[i] = true then [ks[i]] else []) := by
  unfold opds
  rw [List.take_succ_eq_append_getElem h, List.filter_append]
  congr 1
  simp only [List.filter_cons, List.filter_nil]
theorem opds_kinds (ks : List Tr) (h : ∀ t ∈ ks, t.kind ≠ 20 ∧ t.kind ≠ 21) : ∀ x ∈ opds ks, x.kind ≠ 20 ∧ x.kind ≠ 21 := fun x hx => h x (List.mem_filter.1 hx).1
end Go.Proofs.YtikkdkacflkifaaDoor
