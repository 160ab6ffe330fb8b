/- DERIVED. PLAIN: what is resolved has the row's leaves, and not many more nodes. -/
import Derived.Test.YtikkdkacflkifaaDoorFixP
import Derived.Test.YtikkdkacflkifaaDoorTreeH
import Derived.Test.YtikkdkacflkifaaDoorTreeA
set_option linter.unusedSimpArgs false
set_option linter.unusedVariables false
namespace Go.Proofs.YtikkdkacflkifaaDoor

theorem leaves_node (k : Int) (ks : List Tr) (h : k ≠ 1) : (nodeOf k ks).leaves = leavesL ks := by
  rw [Tr.leaves_def, if_neg (by exact h)]; rfl
theorem leavesL_cons (k : Tr) (r : List Tr) : leavesL (k :: r) = k.leaves ++ leavesL r := by rw [leavesL]
theorem leavesL_nil : leavesL [] = [] := by rw [leavesL]
theorem size_node (k : Int) (ks : List Tr) : (nodeOf k ks).size = sizes ks + 1 := Tr.size_def _
theorem size_pos (t : Tr) : 1 ≤ t.size := by rw [Tr.size_def]; omega
/-- Nothing is lost, and nothing is doubled. -/
def Kept (ks : List Tr) (Q : Tr × Nat × Bool) (k : Nat) : Prop := leavesL (ks.drop k) = Q.1.leaves ++ leavesL (ks.drop Q.2.1) ∧ Q.1.size + 3 * sizes (ks.drop Q.2.1) ≤ 3 * sizes (ks.drop k) + 1
def KeptG (ks : List Tr) (n : Tr) (Q : Tr × Nat × Bool) (k : Nat) : Prop := n.leaves ++ leavesL (ks.drop k) = Q.1.leaves ++ leavesL (ks.drop Q.2.1) ∧ Q.1.size + 3 * sizes (ks.drop Q.2.1) ≤ n.size + 3 * sizes (ks.drop k)
theorem KeptG.refl (ks : List Tr) (n : Tr) (k : Nat) (w : Bool) : KeptG ks n (n, k, w) k := ⟨rfl, Nat.le_refl _⟩
theorem p_kept (env : List Fx) (ks : List Tr) (f : Nat) : (∀ (o : Fx) (k : Nat), Kept ks (pBegin env ks f o k) k) ∧ (∀ (o : Fx) (n : Tr) (k : Nat) (w : Bool), KeptG ks n (pGo env ks f o n k w) k) := by
  have hz : ∀ k w, Kept ks (nodeOf 0 [], k, w) k := fun k w => ⟨by rw [leaves_node 0 [] (by omega), leavesL_nil, List.nil_append], by simp only [size_node, sizes]; omega⟩
  induction f with
  | zero =>
    refine ⟨fun o k => ?_, fun o n k w => ?_⟩
    · rw [pBegin]; exact hz k true
    · rw [pGo]; exact KeptG.refl ks n k w
  | succ f ih =>
    refine ⟨fun o k => ?_, fun o n k w => ?_⟩
    · by_cases hk : k < ks.length
      · rw [pBegin_s env ks f k o hk]
        have hd := rowOk_at ks k true hk
        have hp := size_pos ks[k]
        by_cases h19 : (ks[k]).kind = 19
        · rw [if_pos h19]
          by_cases h6 : 6 ≤ o.prec
          · rw [if_pos h6]
            refine ⟨?_, ?_⟩
            · rw [hd, leavesL_cons]
            · rw [hd, sizes]; simp only; omega
          · rw [if_neg h6]
            obtain ⟨a, b⟩ := ih.1 ⟨⟨#[]⟩, 1, 6⟩ (k + 1)
            generalize pBegin env ks f ⟨⟨#[]⟩, 1, 6⟩ (k + 1) = P at *
            obtain ⟨c, d⟩ := ih.2 o (nodeOf 21 [ks[k], P.1]) P.2.1 P.2.2
            refine ⟨?_, ?_⟩
            · rw [← c, hd, leavesL_cons, a, leaves_node 21 _ (by omega), leavesL_cons, leavesL_cons, leavesL_nil, List.append_nil, List.append_assoc]
            · rw [size_node, sizes, sizes, sizes] at d
              rw [hd, sizes]; omega
        · rw [if_neg h19]
          obtain ⟨c, d⟩ := ih.2 o ks[k] (k + 1) false
          refine ⟨?_, ?_⟩
          · rw [← c, hd, leavesL_cons]
          · rw [hd, sizes]; omega
      · rw [pBegin, List.getElem?_eq_none (by omega)]
        exact hz k true
    · cases w with
      | true => rw [pGo_w]; exact KeptG.refl ks n k true
      | false =>
        by_cases hk : k < ks.length
        · rw [pGo_s env ks f k o n hk]
          have hd := rowOk_at ks k true hk
          have hp := size_pos ks[k]
          split
          · exact KeptG.refl ks n k true
          · split
            · exact KeptG.refl ks n k false
            · obtain ⟨a, b⟩ := ih.1 (fixOf env ks[k]) (k + 1)
              generalize pBegin env ks f (fixOf env ks[k]) (k + 1) = P at *
              obtain ⟨c, d⟩ := ih.2 o (nodeOf 20 [n, ks[k], P.1]) P.2.1 P.2.2
              refine ⟨?_, ?_⟩
              · rw [← c, hd, leavesL_cons, a, leaves_node 20 _ (by omega), leavesL_cons, leavesL_cons, leavesL_cons, leavesL_nil, List.append_nil, List.append_assoc, List.append_assoc]
              · rw [size_node, sizes, sizes, sizes, sizes] at d
                rw [hd, sizes]; omega
        · rw [pGo_e _ _ _ _ _ _ (by omega)]; exact KeptG.refl ks n k false

theorem known_prec : ∀ x ∈ knownL, 0 ≤ x.prec := by decide +kernel
/-- A fixity that is found is no less than 0. -/
theorem findX_prec (env : List Fx) (op : ByteArray) : 0 ≤ (findX env op).prec := by
  have hk : ∀ l : List Fx, (∀ x ∈ l, 0 ≤ x.prec) → 0 ≤ (findK op l).prec := by
    intro l
    induction l with
    | nil => intro _; rw [findK]; exact (by decide : (0 : Int) ≤ 9)
    | cons x r ih =>
      intro h
      rw [findK]
      split
      · exact h x (List.mem_cons_self)
      · exact ih (fun y hy => h y (List.mem_cons_of_mem _ hy))
  have hr : ∀ l : List Fx, 0 ≤ (findR op l).prec := by
    intro l
    induction l with
    | nil => rw [findR]; exact hk knownL known_prec
    | cons x r ih =>
      rw [findR]
      split
      · next h =>
        have h2 := h.2
        unfold Fx.ok at h2
        simp only [Bool.and_eq_true, decide_eq_true_eq] at h2
        exact h2.1
      · exact ih
  exact hr _
/-- Behind what is looser than all, the row is at its end. -/
theorem p_end (env : List Fx) (ks : List Tr) (f : Nat) : (∀ (o : Fx) (k : Nat), o.prec < 0 → 2 * (ks.length - k) ≤ f → rowOk true (ks.drop k) = true → (pBegin env ks f o k).2.2 = true ∨ ks.length ≤ (pBegin env ks f o k).2.1) ∧
    (∀ (o : Fx) (n : Tr) (k : Nat) (w : Bool), o.prec < 0 → 2 * (ks.length - k) ≤ f → k ≤ ks.length → (w = true ∨ rowOk false (ks.drop k) = true) → (pGo env ks f o n k w).2.2 = true ∨ ks.length ≤ (pGo env ks f o n k w).2.1) := by
  induction f with
  | zero =>
    refine ⟨fun o k ho h hr => ?_, fun o n k w ho h hk hr => ?_⟩
    · rw [List.drop_eq_nil_of_le (by omega)] at hr; simp [rowOk] at hr
    · rw [pGo]; right; simp only; omega
  | succ f ih =>
    refine ⟨fun o k ho h hr => ?_, fun o n k w ho h hk hr => ?_⟩
    · by_cases hk : k < ks.length
      · rw [rowOk_at ks k true hk] at hr
        rw [pBegin_s env ks f k o hk]
        by_cases h19 : (ks[k]).kind = 19
        · rw [rowOk_m _ _ h19] at hr
          rw [if_pos h19]
          rw [if_neg (by omega)]
          obtain ⟨a, b, c⟩ := (p_fine env ks f).1 ⟨⟨#[]⟩, 1, 6⟩ (k + 1) (by omega) hr
          exact ih.2 o _ _ _ ho (by omega) b c
        · rw [if_neg h19]
          by_cases h18 : (ks[k]).kind = 18
          · rw [rowOk_o _ _ h18] at hr; cases hr
          · rw [rowOk_n _ _ h19 h18] at hr
            exact ih.2 o ks[k] (k + 1) false ho (by omega) (by omega) (.inr hr)
      · rw [List.drop_eq_nil_of_le (by omega)] at hr; simp [rowOk] at hr
    · cases w with
      | true => rw [pGo_w]; exact .inl rfl
      | false =>
        by_cases hkl : k < ks.length
        · rw [pGo_s env ks f k o n hkl]
          have hr := hr.resolve_left (by simp)
          have hpr : 0 ≤ (fixOf env ks[k]).prec := findX_prec env _
          split
          · exact .inl rfl
          · rw [if_neg (by omega)]
            rw [rowOk_at ks k true hkl, rowOk_f] at hr
            split at hr
            · obtain ⟨a, b, c⟩ := (p_fine env ks f).1 (fixOf env ks[k]) (k + 1) (by omega) hr
              exact ih.2 o _ _ _ ho (by omega) b c
            · cases hr
        · rw [pGo_e _ _ _ _ _ _ (by omega)]; right; simp only; omega

/-- What is resolved has the row's leaves. -/
theorem resolve_leaves (env : List Fx) (t : Tr) (h : (resolveX env t).2 = 0) : (resolveX env t).1.leaves = t.leaves := by
  unfold resolveX at h ⊢
  by_cases h17 : t.kind = 17
  · rw [if_pos h17] at h ⊢
    by_cases hr : rowOk true t.kids = true
    · rw [if_pos hr] at h ⊢
      by_cases hw : (pBegin env t.kids (2 * t.kids.length) ⟨⟨#[]⟩, 3, -1⟩ 0).2.2 = true
      · rw [if_pos hw] at h; cases h
      · rw [if_neg hw] at h ⊢
        have h1 := ((p_kept env t.kids (2 * t.kids.length)).1 ⟨⟨#[]⟩, 3, -1⟩ 0).1
        have h2 := ((p_end env t.kids (2 * t.kids.length)).1 ⟨⟨#[]⟩, 3, -1⟩ 0 (by decide) (by omega) (by simpa using hr)).resolve_left hw
        rw [List.drop_eq_nil_of_le h2, leavesL_nil, List.append_nil] at h1
        rw [← h1, Tr.leaves_def, if_neg (by omega), List.drop_zero]
    · rw [if_neg hr] at h; cases h
  · rw [if_neg h17]
theorem resolve_size (env : List Fx) (t : Tr) : (resolveX env t).1.size ≤ 3 * t.size + 1 := by
  have hs := Tr.size_def t
  have hz : zeroT.size = 1 := by decide +kernel
  unfold resolveX
  split
  · split
    · split
      · simp only; omega
      · have h1 := ((p_kept env t.kids (2 * t.kids.length)).1 ⟨⟨#[]⟩, 3, -1⟩ 0).2
        rw [List.drop_zero] at h1
        simp only; omega
    · simp only; omega
  · simp only; omega
end Go.Proofs.YtikkdkacflkifaaDoor
