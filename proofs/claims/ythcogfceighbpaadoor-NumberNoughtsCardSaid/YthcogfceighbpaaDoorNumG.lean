/- DERIVED. The walk of number's Float. -/
import Derived.Test.YthcogfceighbpaaDoorNumF
import Derived.Test.YthcogfceighbpaaDoorNumZ
set_option linter.unusedSimpArgs false
set_option linter.unusedVariables false
namespace Go.Proofs.YthcogfceighbpaaDoor
open Go.RowKit

theorem ixany_none (chars : List UInt8) (l : List UInt8) (h : ∀ (k : Nat) b, l[k]? = some b → chars.contains b = false) : Lib.indexAny l chars = -1 := by
  induction l with
  | nil => rfl
  | cons a t ih =>
    have h0 := h 0 a rfl
    have ht := ih (fun k b hb => h (k + 1) b (by simpa using hb))
    unfold Lib.indexAny
    rw [h0, ht]; rfl
theorem ixany_at (chars : List UInt8) (c : UInt8) (hc : chars.contains c = true) : ∀ (P : Nat) (l : List UInt8), (∀ (k : Nat) b, k < P → l[k]? = some b → chars.contains b = false) → l[P]? = some c → Lib.indexAny l chars = P := by
  intro P
  induction P with
  | zero =>
    intro l _ hb
    cases l with
    | nil => simp at hb
    | cons a t =>
      have : a = c := by simpa using hb
      subst this
      unfold Lib.indexAny
      rw [hc]; rfl
  | succ P ih =>
    intro l h hb
    cases l with
    | nil => simp at hb
    | cons a t =>
      have h0 := h 0 a (by omega) rfl
      have ht := ih t (fun k b hk hb => h (k + 1) b (by omega) (by simpa using hb)) (by simpa using hb)
      unfold Lib.indexAny
      rw [h0, ht]
      simp only [Bool.false_eq_true, if_false]
      rw [if_neg (by simp <;> omega)]
      simp
theorem powL_bd (l : List UInt8) : ∀ n sg p, 0 ≤ n → n ≤ 1000000000 → (sg = 1 ∨ sg = -1) → (∀ b ∈ l, expByte b) → powL l n sg = some p → -1000000000 ≤ p ∧ p ≤ 1000000000 := by
  induction l with
  | nil => intro n sg p h0 h1 hs _ h; rw [powL] at h; injection h with h; rcases hs with rfl | rfl <;> omega
  | cons b t ih =>
    intro n sg p h0 h1 hs hb h
    rw [powL] at h
    have hbt := fun x hx => hb x (List.mem_cons_of_mem _ hx)
    split at h
    · exact ih n sg p h0 h1 hs hbt h
    · next h43 =>
      split at h
      · exact ih n (-1) p h0 h1 (.inr rfl) hbt h
      · next h45 =>
        split at h
        · cases h
        · next ho =>
          have hd := ((hb b (by simp)).resolve_left h43).resolve_left h45
          exact ih _ sg p (by omega) (by omega) hs hbt h
def expE (l : List UInt8) : Nat := if Lib.indexAny l [101, 69] < 0 then l.length else (Lib.indexAny l [101, 69]).toNat
def cutX (h : List UInt8) : List UInt8 × List UInt8 := if 0 ≤ Lib.indexByte h 46 then (h.take (Lib.indexByte h 46).toNat, h.drop ((Lib.indexByte h 46).toNat + 1)) else (h, [])
def expP (l : List UInt8) : Option Int := if expE l = l.length then some 0 else powL (l.drop (expE l + 1)) 0 1
def floatX (l : List UInt8) : List UInt8 × Int × Int :=
  if isK 12 l = true then
    if 1000 < l.length then ([], 0, 3)
    else match expP l with
      | none => ([], 0, 3)
      | some p => ((shortX ((cutX (l.take (expE l))).1 ++ (cutX (l.take (expE l))).2) (p - (cutX (l.take (expE l))).2.length)).1, (shortX ((cutX (l.take (expE l))).1 ++ (cutX (l.take (expE l))).2) (p - (cutX (l.take (expE l))).2.length)).2, 0)
  else ([], 0, 40)
def floatV (p : List UInt8 × Int × Int) : Value := .tuple #[.string ⟨p.1.toArray⟩, .int .i64 p.2.1, .int .i64 p.2.2]
theorem float_exp (l : List UInt8) (h : isK 12 l = true) : expE l ≤ l.length ∧ (∀ b ∈ l, b.toNat < 128) ∧ (expE l = l.length ∧ Lib.indexAny l [101, 69] = -1 ∨ expE l < l.length ∧ Lib.indexAny l [101, 69] = expE l ∧ ∀ b ∈ l.drop (expE l + 1), expByte b) := by
  obtain ⟨P, hP, hf, ho⟩ := float_shape l h
  have hno : ∀ k b, k < P → l[k]? = some b → ([101, 69] : List UInt8).contains b = false := fun k b hk hb => by
    obtain ⟨b', hb', hc⟩ := hf k hk
    rw [hb] at hb'; injection hb' with hb'; subst hb'
    have e1 : b ≠ 101 := by intro e; subst e; rcases hc with hc | hc <;> revert hc <;> decide
    have e2 : b ≠ 69 := by intro e; subst e; rcases hc with hc | hc <;> revert hc <;> decide
    simp [e1, e2]
  have hsm : ∀ k b, k < P → l[k]? = some b → b.toNat < 128 := fun k b hk hb => by
    obtain ⟨b', hb', hc⟩ := hf k hk
    rw [hb] at hb'; injection hb' with hb'; subst hb'
    rcases hc with hc | rfl
    · omega
    · decide
  rcases ho with rfl | ⟨he, hr⟩
  · have hi := ixany_none [101, 69] l (fun k b hb => hno k b (List.getElem?_eq_some_iff.1 hb).1 hb)
    have hE : expE l = l.length := by unfold expE; rw [hi, if_pos (by decide)]
    refine ⟨by omega, fun b hb => ?_, .inl ⟨hE, hi⟩⟩
    obtain ⟨k, hk, rfl⟩ := List.getElem_of_mem hb
    exact hsm k _ hk (List.getElem?_eq_getElem hk)
  · obtain ⟨c, hc, hcc, hc8⟩ : ∃ c, l[P]? = some c ∧ ([101, 69] : List UInt8).contains c = true ∧ c.toNat < 128 := by
      rcases he with he | he
      · exact ⟨101, he, by decide, by decide⟩
      · exact ⟨69, he, by decide, by decide⟩
    have hi := ixany_at [101, 69] c hcc P l hno hc
    have hlt := (List.getElem?_eq_some_iff.1 hc).1
    have hE : expE l = P := by unfold expE; rw [hi, if_neg (by omega), Int.toNat_natCast]
    rw [hE]
    refine ⟨by omega, fun b hb => ?_, .inr ⟨hlt, hi, fun b hb => ?_⟩⟩
    · obtain ⟨k, hk, rfl⟩ := List.getElem_of_mem hb
      by_cases h1 : k < P
      · exact hsm k _ h1 (List.getElem?_eq_getElem hk)
      · by_cases h2 : k = P
        · subst h2
          rw [List.getElem?_eq_getElem hk] at hc; injection hc with hc; rw [hc]; exact hc8
        · obtain ⟨b, hb, he⟩ := hr k (by omega) hk
          rw [List.getElem?_eq_getElem hk] at hb; injection hb with hb
          rw [hb]
          rcases he with rfl | rfl | he
          · decide
          · decide
          · omega
    · obtain ⟨k, hk, rfl⟩ := List.getElem_of_mem hb
      rw [List.length_drop] at hk
      obtain ⟨b, hb, he⟩ := hr (P + 1 + k) (by omega) (by omega)
      rw [List.getElem_drop]
      rw [List.getElem?_eq_getElem (by omega)] at hb; injection hb with hb
      rw [hb]; exact he
end Go.Proofs.YthcogfceighbpaaDoor
