/- DERIVED. PLAIN: layer 2: the place in which a text ends, and its lines. -/
import Derived.Test.YthhlnahehpigeaaDoorPlaceP
set_option linter.unusedSimpArgs false
set_option linter.unusedVariables false
namespace Go.Proofs.YthhlnahehpigeaaDoor

/-- A rune is the same where the text is cut behind it, or where a byte below 128 stands at the cut. -/
theorem dec_cut (x q : List UInt8) (h : x ≠ []) (hq : ∀ b t, q = b :: t → b.toNat < 128) : dec (x ++ q) = dec x := by
  cases q with
  | nil => rw [List.append_nil]
  | cons b t =>
    have hb := hq b t rfl
    match x, h with
    | [a], _ =>
      have e : dec ([a] ++ b :: t) = Lib.decodeN (t.length + 2) a.toNat b.toNat ((b :: t).getD 1 0).toNat ((b :: t).getD 2 0).toNat := by
        unfold dec; simp [List.getD_cons_zero]
      rw [e]
      unfold dec Lib.decodeN
      simp only [List.length_singleton, List.getD_cons_zero]
      have n1 : ¬ b.toNat / 64 = 2 := by omega
      simp [n1]
    | [a, c], _ =>
      have e : dec ([a, c] ++ b :: t) = Lib.decodeN (t.length + 3) a.toNat c.toNat b.toNat ((b :: t).getD 1 0).toNat := by
        unfold dec; simp
      rw [e]
      unfold dec Lib.decodeN
      have n1 : ¬ b.toNat / 64 = 2 := by omega
      simp [n1]
    | [a, c, d], _ =>
      have e : dec ([a, c, d] ++ b :: t) = Lib.decodeN (t.length + 4) a.toNat c.toNat d.toNat b.toNat := by
        unfold dec; simp
      rw [e]
      unfold dec Lib.decodeN
      have n1 : ¬ b.toNat / 64 = 2 := by omega
      simp [n1]
    | a :: c :: d :: f :: r, _ =>
      unfold dec
      have n1 : (a :: c :: d :: f :: r ++ b :: t).length = r.length + 4 + (t.length + 1) := by simp; omega
      have n2 : (a :: c :: d :: f :: r).length = r.length + 4 := by simp
      rw [n1, n2]
      simp only [List.cons_append, List.getD_cons_zero, List.getD_cons_succ]
      unfold Lib.decodeN
      have m1 : 1 < r.length + 4 + (t.length + 1) := by omega
      have m2 : 2 < r.length + 4 + (t.length + 1) := by omega
      have m3 : 3 < r.length + 4 + (t.length + 1) := by omega
      have k1 : 1 < r.length + 4 := by omega
      have k2 : 2 < r.length + 4 := by omega
      have k3 : 3 < r.length + 4 := by omega
      simp only [m1, m2, m3, k1, k2, k3]

def isNL (b : UInt8) : Bool := b == 10 || b == 12 || b == 13
theorem nl_cons (b : UInt8) (t : List UInt8) : 0 < nl (b :: t) ↔ isNL b = true := by
  unfold nl isNL
  rw [if_neg (by simp)]
  simp only [List.getD_cons_zero, Bool.or_eq_true, beq_iff_eq]
  split
  · rename_i h; simp [h.1]
  · split
    · rename_i h
      refine ⟨fun _ => ?_, fun _ => by omega⟩
      rcases h with h | h | h
      · exact .inr h
      · exact .inl (.inl h)
      · exact .inl (.inr h)
    · rename_i h
      refine ⟨fun h0 => absurd h0 (by omega), fun h0 => absurd ?_ h⟩
      rcases h0 with (h0 | h0) | h0
      · exact .inr (.inl h0)
      · exact .inr (.inr h0)
      · exact .inl h0

theorem ofL_col (n : Nat) : ∀ (l : List UInt8) (a b c : Int), (ofL l n a c).2 = (ofL l n b c).2 := by
  induction n using Nat.strongRecOn with
  | _ n ih =>
    intro l a b c
    by_cases h : 0 < n ∧ 0 < unit l ∧ unit l ≤ n
    · rw [ofL.eq_1 l n a, dif_pos h, ofL.eq_1 l n b, dif_pos h]
      exact ih (n - unit l) (by omega) _ _ _ _
    · rw [ofL.eq_1 l n a, dif_neg h, ofL.eq_1 l n b, dif_neg h]

/-- Through what has no newline. -/
theorem ofL_line (k : Nat) : ∀ (p q : List UInt8) (n : Nat) (line col : Int), p.length ≤ k → (∀ b ∈ p, isNL b = false) → (∀ b t, q = b :: t → b.toNat < 128) →
    ofL (p ++ q) (p.length + n) line col = ofL q n line (ofL p p.length line col).2 ∧ (ofL p p.length line col).1 = line := by
  induction k with
  | zero =>
    intro p q n line col hk _ _
    have : p = [] := List.eq_nil_of_length_eq_zero (by omega)
    subst this
    rw [List.length_nil, ofL_end]
    simp
  | succ k ih =>
    intro p q n line col hk hp hq
    cases p with
    | nil => rw [List.length_nil, ofL_end]; simp
    | cons b t =>
      have h0 : ¬ 0 < nl (b :: t) := by rw [nl_cons, hp b (by simp)]; simp
      have h0' : ¬ 0 < nl (b :: t ++ q) := by rw [List.cons_append, nl_cons, hp b (by simp)]; simp
      have hu : unit (b :: t ++ q) = unit (b :: t) := by
        unfold unit; rw [if_neg h0, if_neg h0', dec_cut _ _ (by simp) hq]
      have hbd := unit_bd (b :: t) (by simp)
      have hls : lineS (b :: t) line = line := by unfold lineS; rw [if_neg h0]
      have hls' : lineS (b :: t ++ q) line = line := by unfold lineS; rw [if_neg h0']
      have hcs : colS (b :: t ++ q) col = colS (b :: t) col := by unfold colS; rw [if_neg h0, if_neg h0']; rfl
      rw [ofL_on (b :: t ++ q) _ _ _ (by simp) (by rw [hu]; omega), hu, hls', hcs, ofL_on (b :: t) _ _ _ (by simp) (by omega), hls]
      generalize unit (b :: t) = U at *
      rw [List.drop_append_of_le_length (by omega)]
      have hd : ((b :: t).drop U).length = (b :: t).length - U := List.length_drop
      have := ih ((b :: t).drop U) q n line (colS (b :: t) col) (by rw [hd]; omega) (fun x hx => hp x (List.mem_of_mem_drop hx)) hq
      rw [hd] at this
      rw [show (b :: t).length + n - U = (b :: t).length - U + n from by omega]
      exact this

theorem linesL_line (p : List UInt8) : ∀ (cur q : List UInt8), (∀ b ∈ p, isNL b = false) → linesL cur (p ++ q) = linesL (cur ++ p) q := by
  induction p with
  | nil => intro cur q _; simp
  | cons b t ih =>
    intro cur q hp
    have h0' : ¬ 0 < nl (b :: t ++ q) := by rw [List.cons_append, nl_cons, hp b (by simp)]; simp
    rw [linesL, dif_neg (by simp), if_neg h0']
    have := ih (cur ++ [b]) q (fun x hx => hp x (by simp [hx]))
    simpa using this

/-- The place in which a text ends is told by its lines. -/
theorem counts (k : Nat) : ∀ (l : List UInt8) (line : Int), l.length ≤ k → ∃ ini last, linesL [] l = ini ++ [last] ∧ ofL l l.length line 1 = (line + ini.length, (ofL last last.length 1 1).2) := by
  induction k with
  | zero =>
    intro l line hk
    have : l = [] := List.eq_nil_of_length_eq_zero (by omega)
    subst this
    refine ⟨[], [], by rw [linesL]; simp, ?_⟩
    rw [List.length_nil, ofL_end, ofL_end]; simp
  | succ k ih =>
    intro l line hk
    obtain ⟨p, q, hl, hp, hq⟩ : ∃ p q, l = p ++ q ∧ (∀ b ∈ p, isNL b = false) ∧ (∀ b t, q = b :: t → isNL b = true) := by
      refine ⟨l.takeWhile (fun b => !isNL b), l.dropWhile (fun b => !isNL b), (List.takeWhile_append_dropWhile).symm, ?_, ?_⟩
      · intro b hb
        have := List.all_eq_true.1 (List.all_takeWhile (p := fun b => !isNL b) (l := l)) b hb
        simpa using this
      · intro b t h
        have := List.head_dropWhile_not (fun b => !isNL b) (l := l) (by rw [h]; simp)
        simp only [h, List.head_cons] at this
        simpa using this
    have hq1 : ∀ b t, q = b :: t → b.toNat < 128 := by
      intro b t h
      have := hq b t h
      unfold isNL at this
      simp only [Bool.or_eq_true, beq_iff_eq] at this
      rcases this with (rfl | rfl) | rfl <;> decide
    subst hl
    have h1 := ofL_line p.length p q q.length line 1 (Nat.le_refl _) hp hq1
    have h2 := linesL_line p [] q hp
    rw [List.nil_append] at h2
    rw [List.length_append, h1.1, h2]
    cases q with
    | nil =>
      refine ⟨[], p, by rw [linesL]; simp, ?_⟩
      rw [List.length_nil, ofL_end, ofL_col _ _ line 1]; simp
    | cons b t =>
      have hn : 0 < nl (b :: t) := by rw [nl_cons]; exact hq b t rfl
      have hnl := nl_le (b :: t)
      have hu : unit (b :: t) = nl (b :: t) := by unfold unit; rw [if_pos hn]
      have hls : lineS (b :: t) line = line + 1 := by unfold lineS; rw [if_pos hn]
      have hcs : colS (b :: t) (ofL p p.length line 1).2 = 1 := by unfold colS; rw [if_pos hn]
      rw [ofL_on (b :: t) _ _ _ (by simp) (by rw [hu]; omega), hu, hls, hcs]
      rw [linesL, dif_neg (by simp), if_pos hn]
      have hd : ((b :: t).drop (nl (b :: t))).length = (b :: t).length - nl (b :: t) := List.length_drop
      rw [List.length_append] at hk
      obtain ⟨ini, last, e1, e2⟩ := ih ((b :: t).drop (nl (b :: t))) (line + 1) (by rw [hd]; omega)
      refine ⟨p :: ini, last, by rw [e1]; rfl, ?_⟩
      rw [hd] at e2
      rw [e2]
      simp; omega
end Go.Proofs.YthhlnahehpigeaaDoor
