/- DERIVED. PLAIN: one byte replaced by another. -/
import Derived.Test.YthhlnahehpigeaaDoorNoteU
import Derived.Lib.Replace
import Derived.Lib.SplitLaws
import Derived.Lib.IndexLaws
set_option linter.unusedSimpArgs false
set_option linter.unusedVariables false
namespace Go.Proofs.YthhlnahehpigeaaDoor

theorem map_other (c d : UInt8) (l : List UInt8) (h : l.count c = 0) : l.map (fun b => if b = c then d else b) = l := by
  induction l with
  | nil => rfl
  | cons a t ih =>
    have hac : a ≠ c := by rintro rfl; simp at h
    rw [List.count_cons_of_ne hac] at h
    rw [List.map_cons, if_neg hac, ih h]
theorem replaceK_one (c d : UInt8) (k : Nat) : ∀ l : List UInt8, l.count c = k → Lib.replaceK [c] [d] k l = l.map (fun b => if b = c then d else b) := by
  induction k with
  | zero => intro l h; rw [map_other c d l h]; rfl
  | succ k ih =>
    intro l h
    obtain ⟨i, hi⟩ := Lib.index_of_count (s := l) (old := [c]) (by rw [Lib.count_one, h]; omega)
    rw [Lib.replaceK_hit [c] [d] k l i hi]
    rw [Lib.index_one] at hi
    obtain ⟨h1, h2⟩ := Lib.indexByte_some hi
    have hil := (List.getElem?_eq_some_iff.1 h1).1
    have hc : l[i] = c := (List.getElem?_eq_some_iff.1 h1).2
    have hsp : l = l.take i ++ c :: l.drop (i + 1) := by
      conv => lhs; rw [← List.take_append_drop i l, List.drop_eq_getElem_cons hil, hc]
    have ht : (l.take i).count c = 0 := by
      rw [List.count_eq_zero]
      intro hm
      obtain ⟨j, hj, e⟩ := List.getElem_of_mem hm
      rw [List.length_take] at hj
      rw [List.getElem_take] at e
      exact h2 j (by omega) (by rw [List.getElem?_eq_getElem (by omega), e])
    have hd : (l.drop (i + 1)).count c = k := by
      have h3 := h
      rw [hsp, List.count_append, List.count_cons_self, ht] at h3
      omega
    conv => rhs; rw [hsp]
    rw [List.map_append, List.map_cons, if_pos rfl, map_other c d _ ht]
    have e1 : [c].length = 1 := rfl
    rw [e1, ih _ hd]
    simp
theorem replace_one (c d : UInt8) (h : c ≠ d) (l : List UInt8) : Lib.replaceAll l [c] [d] = l.map (fun b => if b = c then d else b) := by
  unfold Lib.replaceAll Lib.replace
  rw [if_neg (by simpa using h)]
  unfold Lib.replaceNum
  rw [if_pos (.inl (by decide)), Lib.count_one]
  exact replaceK_one c d _ l rfl
theorem spB_two (l : List UInt8) : (l.map (fun b => if b = 9 then (32 : UInt8) else b)).map (fun b => if b = 11 then (32 : UInt8) else b) = l.map spB := by
  rw [List.map_map]
  refine List.map_congr_left fun b _ => ?_
  show (if (if b = 9 then (32 : UInt8) else b) = 11 then (32 : UInt8) else (if b = 9 then (32 : UInt8) else b)) = spB b
  unfold spB
  by_cases h : b = 9
  · subst h; decide
  · rw [if_neg h]
    by_cases h2 : b = 11
    · subst h2; decide
    · rw [if_neg h2, if_neg (by rintro (e | e); exact h e; exact h2 e)]
end Go.Proofs.YthhlnahehpigeaaDoor
