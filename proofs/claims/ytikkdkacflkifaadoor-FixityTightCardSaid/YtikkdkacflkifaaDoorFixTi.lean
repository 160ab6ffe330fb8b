/- DERIVED. PLAIN: in a row, resolved, each operator stands right within the others. -/
import Derived.Test.YtikkdkacflkifaaDoorFixL
set_option linter.unusedSimpArgs false
set_option linter.unusedVariables false
namespace Go.Proofs.YtikkdkacflkifaaDoor

def isOpd (t : Tr) : Bool := decide (t.kind ≠ 18) && decide (t.kind ≠ 19)
def opds (ks : List Tr) : List Tr := ks.filter isOpd
def cnt (ks : List Tr) (k : Nat) : Nat := (opds (ks.take k)).length
theorem cnt_step (ks : List Tr) (k : Nat) (h : k < ks.length) : cnt ks (k + 1) = cnt ks k + (if isOpd ks[k] = true then 1 else 0) := by
  unfold cnt opds
  rw [List.take_succ_eq_append_getElem h, List.filter_append, List.length_append]
  congr 1
  simp only [List.filter_cons, List.filter_nil]
  split <;> rfl
theorem opds_at (ks : List Tr) (k : Nat) (h : k < ks.length) (hi : isOpd ks[k] = true) : (opds ks)[cnt ks k]? = some ks[k] := by
  unfold opds cnt opds
  have e : ks = ks.take k ++ ks[k] :: ks.drop (k + 1) := by rw [← List.drop_eq_getElem_cons h, List.take_append_drop]
  generalize hx : ks[k] = x at *
  conv => lhs; arg 1; rw [e]
  rw [List.filter_append, List.getElem?_append_right (Nat.le_refl _), Nat.sub_self, List.filter_cons, if_pos hi]
  rfl
theorem cnt_all (ks : List Tr) (k : Nat) (h : ks.length ≤ k) : cnt ks k = (opds ks).length := by unfold cnt; rw [List.take_of_length_le h]
/-- The fixity that counts for a tree within an operator's. -/
def rootF (env : List Fx) (t : Tr) : Option Fx :=
  if t.kind = 21 then some ⟨⟨#[]⟩, 1, 6⟩ else if t.kind = 20 then some (fixOf env ((t.kids[1]?).getD zeroT)) else none
def LeftOk (env : List Fx) (f : Fx) (l : Tr) : Prop := ∀ g, rootF env l = some g → f.prec < g.prec ∨ (g.prec = f.prec ∧ g.side = 1 ∧ f.side = 1)
def RightOk (env : List Fx) (f : Fx) (r : Tr) : Prop := ∀ g, rootF env r = some g → (r.kind = 21 → f.prec < 6) ∧ (r.kind = 20 → f.prec < g.prec ∨ (g.prec = f.prec ∧ g.side = 2 ∧ f.side = 2))
def RightNeg (env : List Fx) (x : Tr) : Prop := ∀ g, rootF env x = some g → x.kind = 20 ∧ 6 < g.prec
/-- Each operator stands right; the operands are those from a place to another. -/
inductive Tight (P : Tr → Prop) (env : List Fx) (ops : List Tr) : Tr → Nat → Nat → Prop
  | leaf (t : Tr) (a : Nat) (h : ops[a]? = some t) (h1 : t.kind ≠ 20) (h2 : t.kind ≠ 21) : Tight P env ops t a (a + 1)
  | neg (m x : Tr) (a b : Nat) (h : Tight P env ops x a b) (hx : RightNeg env x) : Tight P env ops (nodeOf 21 [m, x]) a b
  | inf (l o r : Tr) (a b c : Nat) (hl : Tight P env ops l a b) (hr : Tight P env ops r b c) (hp : P o) (ho : (nameX o).isSome = true) (hL : LeftOk env (fixOf env o) l) (hR : RightOk env (fixOf env o) r) : Tight P env ops (nodeOf 20 [l, o, r]) a c
theorem Tight.lt {P : Tr → Prop} {env : List Fx} {ops : List Tr} {t : Tr} {a b : Nat} (h : Tight P env ops t a b) : a < b ∧ b ≤ ops.length := by
  induction h with
  | leaf t a h _ _ => exact ⟨by omega, (List.getElem?_eq_some_iff.1 h).1⟩
  | neg m x a b h _ ih => exact ih
  | inf l o r a b c hl hr _ _ _ _ ih1 ih2 => exact ⟨by omega, ih2.2⟩
/-- Where a reader may stop. -/
def StopAt (env : List Fx) (ks : List Tr) (o : Fx) (k : Nat) : Prop := ∀ h : k < ks.length, (fixOf env ks[k]).prec < o.prec ∨ (o.prec = (fixOf env ks[k]).prec ∧ o.side = 1 ∧ (fixOf env ks[k]).side = 1)
theorem known_side : ∀ x ∈ knownL, 1 ≤ x.side ∧ x.side ≤ 3 := by decide +kernel
theorem findX_side (env : List Fx) (op : ByteArray) : 1 ≤ (findX env op).side ∧ (findX env op).side ≤ 3 := by
  have hk : ∀ l : List Fx, (∀ x ∈ l, 1 ≤ x.side ∧ x.side ≤ 3) → 1 ≤ (findK op l).side ∧ (findK op l).side ≤ 3 := by
    intro l
    induction l with
    | nil => intro _; rw [findK]; exact (by decide : (1 : Int) ≤ 1 ∧ (1 : Int) ≤ 3)
    | cons x r ih =>
      intro h
      rw [findK]
      split
      · exact h x (List.mem_cons_self)
      · exact ih (fun y hy => h y (List.mem_cons_of_mem _ hy))
  have hr : ∀ l : List Fx, 1 ≤ (findR op l).side ∧ (findR op l).side ≤ 3 := by
    intro l
    induction l with
    | nil => rw [findR]; exact hk knownL known_side
    | cons x r ih =>
      rw [findR]
      split
      · next h =>
        have h2 := h.2
        unfold Fx.ok at h2
        simp only [Bool.and_eq_true, decide_eq_true_eq] at h2
        exact h2.2.2
      · exact ih
  exact hr _
theorem name_kind {t : Tr} (h : (nameX t).isSome = true) : t.kind = 18 := by
  unfold nameX at h
  split at h
  · next h2 => exact h2.1
  · cases h
theorem p_tight (P : Tr → Prop) (env : List Fx) (ks : List Tr) (hP : ∀ t ∈ ks, P t) (hK : ∀ t ∈ ks, t.kind ≠ 20 ∧ t.kind ≠ 21) (f : Nat) :
    (∀ (o : Fx) (k : Nat), 2 * (ks.length - k) ≤ f → rowOk true (ks.drop k) = true → (pBegin env ks f o k).2.2 = false →
      Tight P env (opds ks) (pBegin env ks f o k).1 (cnt ks k) (cnt ks (pBegin env ks f o k).2.1) ∧ RightOk env o (pBegin env ks f o k).1 ∧ StopAt env ks o (pBegin env ks f o k).2.1) ∧
    (∀ (o : Fx) (n : Tr) (k c : Nat) (w : Bool), 2 * (ks.length - k) ≤ f → k ≤ ks.length → (w = true ∨ rowOk false (ks.drop k) = true) →
      (w = false → Tight P env (opds ks) n c (cnt ks k) ∧ RightOk env o n ∧ ∀ h : k < ks.length, LeftOk env (fixOf env ks[k]) n) → (pGo env ks f o n k w).2.2 = false →
      Tight P env (opds ks) (pGo env ks f o n k w).1 c (cnt ks (pGo env ks f o n k w).2.1) ∧ RightOk env o (pGo env ks f o n k w).1 ∧ StopAt env ks o (pGo env ks f o n k w).2.1) := by
  induction f with
  | zero =>
    refine ⟨fun o k h hr => ?_, fun o n k c w h hk hr hn hw => ?_⟩
    · rw [List.drop_eq_nil_of_le (by omega)] at hr; simp [rowOk] at hr
    · rw [pGo] at hw ⊢
      obtain ⟨h1, h2, h3⟩ := hn hw
      exact ⟨h1, h2, fun h9 => by simp only at h9; omega⟩
  | succ f ih =>
    refine ⟨fun o k h hr hw => ?_, fun o n k c w h hk hr hn hw => ?_⟩
    · by_cases hk : k < ks.length
      · rw [rowOk_at ks k true hk] at hr
        rw [pBegin_s env ks f k o hk] at hw ⊢
        by_cases h19 : (ks[k]).kind = 19
        · rw [rowOk_m _ _ h19] at hr
          rw [if_pos h19] at hw ⊢
          by_cases h6 : 6 ≤ o.prec
          · rw [if_pos h6] at hw; cases hw
          · rw [if_neg h6] at hw ⊢
            obtain ⟨fa, fb, fc⟩ := (p_fine env ks f).1 ⟨⟨#[]⟩, 1, 6⟩ (k + 1) (by omega) hr
            have hA := ih.1 ⟨⟨#[]⟩, 1, 6⟩ (k + 1) (by omega) hr
            generalize pBegin env ks f ⟨⟨#[]⟩, 1, 6⟩ (k + 1) = Q at *
            have hck : cnt ks (k + 1) = cnt ks k := by rw [cnt_step ks k hk, if_neg (by unfold isOpd; simp [h19])]; rfl
            refine ih.2 o _ _ (cnt ks k) _ (by omega) fb fc (fun hp => ?_) hw
            obtain ⟨h1, h2, h3⟩ := hA hp
            rw [hck] at h1
            refine ⟨.neg _ _ _ _ h1 (fun g hg => ?_), fun g hg => ⟨fun _ => by omega, fun h20 => absurd h20 (by simp [nodeOf, Tr.kind])⟩, fun h9 g hg => ?_⟩
            · obtain ⟨e1, e2⟩ := h2 g hg
              by_cases k21 : Q.1.kind = 21
              · have := e1 k21; simp at this
              · by_cases k20 : Q.1.kind = 20
                · refine ⟨k20, ?_⟩
                  have := e2 k20; simp at this; exact this
                · unfold rootF at hg; rw [if_neg k21, if_neg k20] at hg; cases hg
            · have e : g = ⟨⟨#[]⟩, 1, 6⟩ := by unfold rootF at hg; rw [if_pos (by rfl)] at hg; injection hg with hg; exact hg.symm
              subst e
              rcases h3 h9 with h4 | ⟨h4, h5, h6'⟩
              · exact .inl h4
              · exact .inr ⟨h4, rfl, h6'⟩
        · rw [if_neg h19] at hw ⊢
          by_cases h18 : (ks[k]).kind = 18
          · rw [rowOk_o _ _ h18] at hr; cases hr
          · rw [rowOk_n _ _ h19 h18] at hr
            have hop : isOpd ks[k] = true := by unfold isOpd; simp [h19, h18]
            obtain ⟨k20, k21⟩ := hK ks[k] (List.getElem_mem hk)
            have hck : cnt ks (k + 1) = cnt ks k + 1 := by rw [cnt_step ks k hk, if_pos hop]
            have hno : rootF env ks[k] = none := by unfold rootF; rw [if_neg k21, if_neg k20]
            refine ih.2 o ks[k] (k + 1) (cnt ks k) false (by omega) (by omega) (.inr hr) (fun _ => ⟨?_, fun g hg => ?_, fun _ g hg => ?_⟩) hw
            · rw [hck]; exact .leaf _ _ (opds_at ks k hk hop) k20 k21
            · rw [hno] at hg; cases hg
            · rw [hno] at hg; cases hg
      · rw [List.drop_eq_nil_of_le (by omega)] at hr; simp [rowOk] at hr
    · cases w with
      | true => rw [pGo_w] at hw; cases hw
      | false =>
        obtain ⟨h1, h2, h3⟩ := hn rfl
        by_cases hkl : k < ks.length
        · rw [pGo_s env ks f k o n hkl] at hw ⊢
          have hr := hr.resolve_left (by simp)
          have hsd := findX_side env ((nameX ks[k]).getD ⟨#[]⟩)
          split at hw
          · cases hw
          · next c1 =>
            rw [if_neg c1]
            split at hw
            · next c2 =>
              rw [if_pos c2]
              refine ⟨h1, h2, fun h9 => ?_⟩
              rcases c2 with c2 | ⟨c2, c3⟩
              · exact .inl c2
              · right
                refine ⟨c2, c3, ?_⟩
                apply Classical.byContradiction
                intro c4
                exact c1 ⟨c2, .inl (by intro e; exact c4 (by rw [← e]; exact c3))⟩
            · next c2 =>
              rw [if_neg c2]
              rw [rowOk_at ks k true hkl, rowOk_f] at hr
              split at hr
              · next hnm =>
                obtain ⟨fa, fb, fc⟩ := (p_fine env ks f).1 (fixOf env ks[k]) (k + 1) (by omega) hr
                have hA := ih.1 (fixOf env ks[k]) (k + 1) (by omega) hr
                generalize pBegin env ks f (fixOf env ks[k]) (k + 1) = Q at *
                have hck : cnt ks (k + 1) = cnt ks k := by rw [cnt_step ks k hkl, if_neg (by unfold isOpd; simp [name_kind hnm])]; rfl
                refine ih.2 o _ _ c _ (by omega) fb fc (fun hp => ?_) hw
                obtain ⟨a1, a2, a3⟩ := hA hp
                rw [hck] at a1
                have hroot : ∀ g, rootF env (nodeOf 20 [n, ks[k], Q.1]) = some g → g = fixOf env ks[k] := fun g hg => by
                  unfold rootF at hg
                  rw [if_neg (by simp [nodeOf, Tr.kind]), if_pos (by rfl)] at hg
                  injection hg with hg; exact hg.symm
                refine ⟨.inf _ _ _ _ _ _ h1 a1 (hP _ (List.getElem_mem hkl)) hnm (h3 hkl) a2, fun g hg => ⟨fun h21 => absurd h21 (by simp [nodeOf, Tr.kind]), fun _ => ?_⟩, fun h9 g hg => ?_⟩
                · rw [hroot g hg]
                  have hfs : (fixOf env ks[k]).side = (findX env ((nameX ks[k]).getD ⟨#[]⟩)).side := rfl
                  rw [← hfs] at hsd
                  generalize fixOf env ks[k] = p at *
                  omega
                · rw [hroot g hg]
                  rcases a3 h9 with h4 | ⟨h4, h5, h6⟩
                  · exact .inl h4
                  · exact .inr ⟨h4, h5, h6⟩
              · cases hr
        · rw [pGo_e _ _ _ _ _ _ (by omega)]
          exact ⟨h1, h2, fun h9 => absurd h9 hkl⟩
/-- A row, resolved: each operator stands right, and all operands are there. -/
theorem resolve_tight (P : Tr → Prop) (env : List Fx) (t : Tr) (h17 : t.kind = 17) (hP : ∀ x ∈ t.kids, P x) (hK : ∀ x ∈ t.kids, x.kind ≠ 20 ∧ x.kind ≠ 21) (h : (resolveX env t).2 = 0) : Tight P env (opds t.kids) (resolveX env t).1 0 (opds t.kids).length := by
  unfold resolveX at h ⊢
  rw [if_pos h17] at h ⊢
  by_cases hr : rowOk true t.kids = true
  · rw [if_pos hr] at h ⊢
    by_cases hw : (pBegin env t.kids (2 * t.kids.length) ⟨⟨#[]⟩, 3, -1⟩ 0).2.2 = true
    · rw [if_pos hw] at h; cases h
    · rw [if_neg hw] at h ⊢
      have h1 := ((p_tight P env t.kids hP hK (2 * t.kids.length)).1 ⟨⟨#[]⟩, 3, -1⟩ 0 (by omega) (by simpa using hr) (by simpa using hw)).1
      have h2 := ((p_end env t.kids (2 * t.kids.length)).1 ⟨⟨#[]⟩, 3, -1⟩ 0 (by decide) (by omega) (by simpa using hr)).resolve_left hw
      rw [cnt_all _ _ h2] at h1
      exact h1
  · rw [if_neg hr] at h; cases h
end Go.Proofs.YtikkdkacflkifaaDoor
