/- DERIVED. PLAIN: layer 2: a text that is spread. -/
import Derived.Test.YtmbgfchbjedjnaaDoorPlaceJ
set_option linter.unusedSimpArgs false
set_option linter.unusedVariables false
namespace Go.Proofs.YtmbgfchbjedjnaaDoor

/-- What may stand behind a cut. -/
def CutOK (q : List UInt8) : Prop := ∀ b t, q = b :: t → b = 9 ∨ b = 32
theorem cut_nil : CutOK [] := fun _ _ h => by cases h
theorem cut_tab (r : List UInt8) : CutOK (9 :: r) := fun _ _ h => .inl (List.cons.inj h).1.symm
theorem cut_sp (r : List UInt8) : CutOK (32 :: r) := fun _ _ h => .inr (List.cons.inj h).1.symm

theorem nl_cut (x q : List UInt8) (h : x ≠ []) (hq : CutOK q) : nl (x ++ q) = nl x := by
  match x, h with
  | [a], _ =>
    cases q with
    | nil => rw [List.append_nil]
    | cons b t =>
      have hb : b ≠ 10 := by rcases hq b t rfl with rfl | rfl <;> decide
      unfold nl
      simp [hb]
  | a :: b :: t, _ =>
    unfold nl
    simp

theorem unit_cut (x q : List UInt8) (h : x ≠ []) (hq : CutOK q) : unit (x ++ q) = unit x := by
  unfold unit
  rw [nl_cut x q h hq, dec_cut x q h (fun b t e => by rcases hq b t e with rfl | rfl <;> decide)]
theorem lineS_cut (x q : List UInt8) (h : x ≠ []) (hq : CutOK q) (line : Int) : lineS (x ++ q) line = lineS x line := by
  unfold lineS; rw [nl_cut x q h hq]
theorem colS_cut (x q : List UInt8) (h : x ≠ []) (hq : CutOK q) (col : Int) : colS (x ++ q) col = colS x col := by
  unfold colS; rw [nl_cut x q h hq]
  cases x with
  | nil => exact absurd rfl h
  | cons a t => rfl

theorem ofL_cut (k : Nat) : ∀ (x q : List UInt8) (n : Nat) (line col : Int), x.length ≤ k → CutOK q →
    ofL (x ++ q) (x.length + n) line col = ofL q n (ofL x x.length line col).1 (ofL x x.length line col).2 := by
  induction k with
  | zero =>
    intro x q n line col hk _
    have : x = [] := List.eq_nil_of_length_eq_zero (by omega)
    subst this
    rw [List.length_nil, ofL_end]; simp
  | succ k ih =>
    intro x q n line col hk hq
    by_cases hx : x = []
    · subst hx; rw [List.length_nil, ofL_end]; simp
    · have hbd := unit_bd x hx
      rw [ofL_on (x ++ q) _ _ _ (by simp [hx]) (by rw [unit_cut x q hx hq]; omega), unit_cut x q hx hq, lineS_cut x q hx hq, colS_cut x q hx hq, ofL_on x _ _ _ hx (by omega)]
      rw [List.drop_append_of_le_length (by omega)]
      have hd : (x.drop (unit x)).length = x.length - unit x := List.length_drop
      have := ih (x.drop (unit x)) q n (lineS x line) (colS x col) (by rw [hd]; omega) hq
      rw [hd] at this
      rw [show x.length + n - unit x = x.length - unit x + n from by omega]
      exact this

theorem spreadL_cut (k : Nat) : ∀ (x q : List UInt8) (col : Int), x.length ≤ k → (∀ b ∈ x, b ≠ 9) → CutOK q →
    spreadL (x ++ q) col = x ++ spreadL q (ofL x x.length 1 col).2 := by
  induction k with
  | zero =>
    intro x q col hk _ _
    have : x = [] := List.eq_nil_of_length_eq_zero (by omega)
    subst this
    rw [List.length_nil, ofL_end]; simp
  | succ k ih =>
    intro x q col hk h9 hq
    cases x with
    | nil => rw [List.length_nil, ofL_end]; simp
    | cons a t =>
      have hx : a :: t ≠ [] := by simp
      have hbd := unit_bd (a :: t) hx
      rw [spreadL_on (a :: t ++ q) col (by simp) (.inr (by simpa using h9 a (by simp))), unit_cut _ q hx hq, colS_cut _ q hx hq]
      rw [ofL_on (a :: t) _ _ _ hx (by omega), ofL_col _ _ _ 1]
      generalize unit (a :: t) = U at *
      rw [List.drop_append_of_le_length (by omega), List.take_append_of_le_length (by omega)]
      have hd : ((a :: t).drop U).length = (a :: t).length - U := List.length_drop
      have := ih ((a :: t).drop U) q (colS (a :: t) col) (by rw [hd]; omega) (fun b hb => h9 b (List.mem_of_mem_drop hb)) hq
      rw [hd] at this
      rw [this, ← List.append_assoc, List.take_append_drop]

theorem ofL_ge1 (n : Nat) : ∀ (l : List UInt8) (line col : Int), 1 ≤ col → 1 ≤ (ofL l n line col).2 := by
  induction n using Nat.strongRecOn with
  | _ n ih =>
    intro l line col h1
    by_cases h : 0 < n ∧ 0 < unit l ∧ unit l ≤ n
    · rw [ofL.eq_1 l n line, dif_pos h]
      exact ih (n - unit l) (by omega) _ _ _ (colS_bd l col h1).1
    · rw [ofL.eq_1 l n line, dif_neg h]; exact h1
theorem nl_sp (t : List UInt8) : nl (32 :: t) = 0 := by unfold nl; simp
theorem dec_low (a : UInt8) (t : List UInt8) (h : a.toNat < 128) : (dec (a :: t)).2 = 1 := by
  unfold dec Lib.decodeN; simp [h]
theorem unit_sp (t : List UInt8) : unit (32 :: t) = 1 := by
  unfold unit; rw [nl_sp, if_neg (by omega), dec_low _ _ (by decide)]
theorem unit_tab (t : List UInt8) : unit (9 :: t) = 1 := by
  unfold unit; rw [nl_tab _ rfl, if_neg (by omega), dec_low _ _ (by decide)]
theorem ofL_sp (K : Nat) : ∀ (q : List UInt8) (n : Nat) (line col : Int), ofL (List.replicate K 32 ++ q) (K + n) line col = ofL q n line (col + K) := by
  induction K with
  | zero => intro q n line col; simp
  | succ K ih =>
    intro q n line col
    rw [List.replicate_succ, List.cons_append, ofL_on _ _ _ _ (by simp) (by rw [unit_sp]; omega), unit_sp]
    have h1 : lineS (32 :: (List.replicate K 32 ++ q)) line = line := by unfold lineS; rw [nl_sp]; simp
    have h2 : colS (32 :: (List.replicate K 32 ++ q)) col = col + 1 := by unfold colS; rw [nl_sp]; simp
    rw [h1, h2, List.drop_one, List.tail_cons, show K + 1 + n - 1 = K + n from by omega, ih]
    congr 1; omega
theorem ofL_tab (r : List UInt8) (line col : Int) : ofL (9 :: r) (9 :: r).length line col = ofL r r.length line (stopC col) := by
  rw [ofL_on _ _ _ _ (by simp) (by rw [unit_tab]; simp), unit_tab]
  have h1 : lineS (9 :: r) line = line := by unfold lineS; rw [nl_tab _ rfl]; simp
  have h2 : colS (9 :: r) col = stopC col := by unfold colS; rw [nl_tab _ rfl]; simp
  rw [h1, h2]; simp

/-- A text is what stands ahead of its first tab, and that and the rest. -/
theorem parts (l : List UInt8) : ∃ x q, l = x ++ q ∧ (∀ b ∈ x, b ≠ 9) ∧ (q = [] ∨ ∃ r, q = 9 :: r) := by
  refine ⟨l.takeWhile (fun b => b != 9), l.dropWhile (fun b => b != 9), (List.takeWhile_append_dropWhile).symm, ?_, ?_⟩
  · intro b hb
    have := List.all_eq_true.1 (List.all_takeWhile (p := fun b => b != 9) (l := l)) b hb
    simpa using this
  · cases h : l.dropWhile (fun b => b != 9) with
    | nil => exact .inl rfl
    | cons b t =>
      have := List.head_dropWhile_not (fun b => b != 9) (l := l) (by rw [h]; simp)
      simp only [h, List.head_cons] at this
      have hb : b = 9 := by simpa using this
      subst hb
      exact .inr ⟨t, rfl⟩

theorem spreadL_parts (x r : List UInt8) (col : Int) (h9 : ∀ b ∈ x, b ≠ 9) :
    spreadL (x ++ 9 :: r) col = x ++ (List.replicate (stopC (ofL x x.length 1 col).2 - (ofL x x.length 1 col).2).toNat 32 ++ spreadL r (stopC (ofL x x.length 1 col).2)) := by
  rw [spreadL_cut x.length x _ col (Nat.le_refl _) h9 (cut_tab r), spreadL_tab _ _ (by simp) rfl, unit_tab]; simp

theorem spread_all (k : Nat) : ∀ (l : List UInt8) (line col : Int), l.length ≤ k → 1 ≤ col →
    (∀ b ∈ spreadL l col, b ≠ 9) ∧ (spreadL l col).length ≤ 8 * l.length ∧ ofL (spreadL l col) (spreadL l col).length line col = ofL l l.length line col := by
  induction k with
  | zero =>
    intro l line col hk _
    have : l = [] := List.eq_nil_of_length_eq_zero (by omega)
    subst this
    rw [spreadL_nil]; simp
  | succ k ih =>
    intro l line col hk hc
    obtain ⟨x, q, rfl, h9, rfl | ⟨r, rfl⟩⟩ := parts l
    · rw [spreadL_cut x.length x [] col (Nat.le_refl _) h9 cut_nil, spreadL_nil, List.append_nil]
      exact ⟨h9, by omega, rfl⟩
    · rw [spreadL_parts x r col h9]
      have hcc : 1 ≤ (ofL x x.length 1 col).2 := by
        have := ofL_ge1 x.length x 1 col hc
        exact this
      have he : (ofL x x.length line col).2 = (ofL x x.length 1 col).2 := ofL_col _ _ _ _ _
      have hsb := stopC_bd (ofL x x.length 1 col).2
      rw [List.length_append, List.length_cons] at hk
      have IH := ih r (ofL x x.length line col).1 (stopC (ofL x x.length 1 col).2) (by omega) (by omega)
      rw [show (x ++ 9 :: r).length = x.length + (9 :: r).length from List.length_append]
      rw [ofL_cut x.length x (9 :: r) _ line col (Nat.le_refl _) (cut_tab r), ofL_tab, he, ← IH.2.2]
      obtain ⟨K, hK⟩ : ∃ K : Nat, (stopC (ofL x x.length 1 col).2 - (ofL x x.length 1 col).2).toNat = K := ⟨_, rfl⟩
      have hK2 : (ofL x x.length 1 col).2 + K = stopC (ofL x x.length 1 col).2 := by omega
      rw [hK]
      obtain ⟨K', rfl⟩ : ∃ K', K = K' + 1 := ⟨K - 1, by omega⟩
      refine ⟨?_, ?_, ?_⟩
      · intro b hb
        rw [List.mem_append, List.mem_append] at hb
        rcases hb with hb | hb | hb
        · exact h9 b hb
        · rw [(List.mem_replicate.1 hb).2]; decide
        · exact IH.1 b hb
      · simp only [List.length_append, List.length_replicate, List.length_cons]
        have := IH.2.1
        omega
      · rw [@List.length_append _ x, ofL_cut x.length x _ _ line col (Nat.le_refl _) (by rw [List.replicate_succ]; exact cut_sp _), List.length_append, List.length_replicate, he, ofL_sp, hK2]

theorem spread_again (l : List UInt8) (col : Int) (h9 : ∀ b ∈ l, b ≠ 9) : spreadL l col = l := by
  have := spreadL_cut l.length l [] col (Nat.le_refl _) h9 cut_nil
  simpa [spreadL_nil] using this
end Go.Proofs.YtmbgfchbjedjnaaDoor
