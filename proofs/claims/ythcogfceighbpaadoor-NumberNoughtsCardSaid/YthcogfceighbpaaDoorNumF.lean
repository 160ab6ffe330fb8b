/- DERIVED. PLAIN: what a broken number consists of. -/
import Derived.Test.YthcogfceighbpaaDoorRefNumC
import Derived.Test.YthcogfceighbpaaDoorNumS
import Derived.Test.YthcogfceighbpaaDoorNumV
set_option linter.unusedSimpArgs false
set_option linter.unusedVariables false
namespace Go.Proofs.YthcogfceighbpaaDoor

theorem dig10_all : ∀ r : Fin 128, isDig 10 r.val = true → 48 ≤ r.val ∧ r.val ≤ 57 := by decide
theorem dig10 (r : Nat) (h : isDig 10 r = true) : 48 ≤ r ∧ r ≤ 57 := dig10_all ⟨r, isDig_small 10 r h⟩ h
/-- A broken number: digits and a point, then an exponent or nothing. -/
theorem float_shape (l : List UInt8) (h : isK 12 l = true) : ∃ P, P ≤ l.length ∧ (∀ k, k < P → ∃ b, l[k]? = some b ∧ ((48 ≤ b.toNat ∧ b.toNat ≤ 57) ∨ b = 46)) ∧
    (P = l.length ∨ ((l[P]? = some 101 ∨ l[P]? = some 69) ∧ ∀ k, P < k → k < l.length → ∃ b, l[k]? = some b ∧ expByte b)) := by
  unfold isK at h
  simp only [Bool.and_eq_true, decide_eq_true_eq] at h
  obtain ⟨h1, h2⟩ := h
  have hpx : prefX l = (10, 0) := by
    rcases prefX_base l with hp | hp | hp
    · exact hp
    all_goals
      unfold scanX at h1
      rw [hp] at h1
      simp at h1
  have hd0 : digN 10 l ≠ 0 := by
    intro hd
    unfold scanX at h1
    rw [hpx] at h1
    simp only [show ((0 : Nat) = 2) = False from by simp, if_false, hd, if_true] at h1
    cases h1
  rw [scanX_dec l hpx hd0] at h1 h2
  have hdig : ∀ k, k < digN 10 l → ∃ b, l[k]? = some b ∧ 48 ≤ b.toNat ∧ b.toNat ≤ 57 := fun k hk => by
    obtain ⟨hl, hg⟩ := digN_all 10 l k hk
    exact ⟨l[k], List.getElem?_eq_getElem hl, dig10 _ hg⟩
  have hdl := digN_le 10 l
  obtain ⟨⟨k1, P⟩, hP⟩ : ∃ p, pointX l (digN 10 l) = p := ⟨_, rfl⟩
  rw [hP] at h1 h2
  simp only at h1 h2
  have hfirst : P ≤ l.length ∧ ∀ k, k < P → ∃ b, l[k]? = some b ∧ ((48 ≤ b.toNat ∧ b.toNat ≤ 57) ∨ b = 46) := by
    unfold pointX at hP
    split at hP
    · next hc =>
      injection hP with _ hP2
      have hpl := (List.getElem?_eq_some_iff.1 hc.1).1
      have hfl := digN_le 10 (l.drop (digN 10 l + 1))
      rw [List.length_drop] at hfl
      refine ⟨by omega, fun k hk => ?_⟩
      by_cases hk1 : k < digN 10 l
      · obtain ⟨b, hb, hb2⟩ := hdig k hk1; exact ⟨b, hb, .inl hb2⟩
      · by_cases hk2 : k = digN 10 l
        · exact ⟨46, by rw [hk2]; exact hc.1, .inr rfl⟩
        · obtain ⟨hl, hg⟩ := digN_all 10 (l.drop (digN 10 l + 1)) (k - (digN 10 l + 1)) (by omega)
          rw [List.getElem_drop] at hg
          have e : digN 10 l + 1 + (k - (digN 10 l + 1)) = k := by omega
          simp only [e] at hg
          exact ⟨l[k], List.getElem?_eq_getElem (by omega), .inl (dig10 _ hg)⟩
    · injection hP with _ hP2
      refine ⟨by omega, fun k hk => ?_⟩
      obtain ⟨b, hb, hb2⟩ := hdig k (by omega); exact ⟨b, hb, .inl hb2⟩
  refine ⟨P, hfirst.1, hfirst.2, ?_⟩
  unfold postX at h1 h2
  by_cases hx : 0 < expX (l.drop P)
  · right
    rw [if_pos hx] at h2
    simp only at h2
    rw [expX_at] at hx h2
    by_cases he : l[P]? = some 101 ∨ l[P]? = some 69
    · rw [if_pos he] at hx h2
      refine ⟨he, ?_⟩
      by_cases hsg : l[P + 1]? = some 43 ∨ l[P + 1]? = some 45
      · simp only [if_pos hsg] at hx h2
        by_cases hg0 : digN 10 (l.drop (P + 2)) = 0
        · rw [if_pos hg0] at hx; cases hx
        · rw [if_neg hg0] at h2
          intro k hk1 hk2
          by_cases hk3 : k = P + 1
          · subst hk3
            rcases hsg with hs | hs
            · exact ⟨43, hs, .inl rfl⟩
            · exact ⟨45, hs, .inr (.inl rfl)⟩
          · obtain ⟨hl, hg⟩ := digN_all 10 (l.drop (P + 2)) (k - (P + 2)) (by omega)
            rw [List.getElem_drop] at hg
            have e : P + 2 + (k - (P + 2)) = k := by omega
            simp only [e] at hg
            exact ⟨l[k], List.getElem?_eq_getElem hk2, .inr (.inr (dig10 _ hg))⟩
      · simp only [if_neg hsg] at hx h2
        by_cases hg0 : digN 10 (l.drop (P + 1)) = 0
        · rw [if_pos hg0] at hx; cases hx
        · rw [if_neg hg0] at h2
          intro k hk1 hk2
          obtain ⟨hl, hg⟩ := digN_all 10 (l.drop (P + 1)) (k - (P + 1)) (by omega)
          rw [List.getElem_drop] at hg
          have e : P + 1 + (k - (P + 1)) = k := by omega
          simp only [e] at hg
          exact ⟨l[k], List.getElem?_eq_getElem hk2, .inr (.inr (dig10 _ hg))⟩
    · rw [if_neg he] at hx; cases hx
  · left
    rw [if_neg hx] at h2
    exact h2
end Go.Proofs.YthcogfceighbpaaDoor
