/- DERIVED. PLAIN: the law of NoteStays. -/
import Derived.Test.YthhlnahehpigeaaDoorNoteS
set_option linter.unusedSimpArgs false
set_option linter.unusedVariables false
namespace Go.Proofs.YthhlnahehpigeaaDoor

theorem tw_all (p : UInt8 → Bool) (l : List UInt8) (h : ∀ b ∈ l, p b = true) : l.takeWhile p = l := by
  induction l with
  | nil => rfl
  | cons a t ih => rw [List.takeWhile_cons, if_pos (h a (by simp)), ih (fun b hb => h b (by simp [hb]))]
theorem tw_mem (p : UInt8 → Bool) (l : List UInt8) : ∀ b ∈ l.takeWhile p, p b = true := by
  induction l with
  | nil => intro b hb; cases hb
  | cons a t ih =>
    intro b hb
    rw [List.takeWhile_cons] at hb
    split at hb
    · next h =>
      rw [List.mem_cons] at hb
      rcases hb with rfl | hb
      · exact h
      · exact ih b hb
    · cases hb
theorem dropW_pre (q y : List UInt8) (h : ∀ c ∈ q, isB c = true) : (q ++ y).dropWhile (blanksL.contains ·) = y.dropWhile (blanksL.contains ·) := by
  induction q with
  | nil => rfl
  | cons a t ih => rw [List.cons_append, List.dropWhile_cons, if_pos (show blanksL.contains a = true from h a (by simp))]; exact ih (fun c hc => h c (by simp [hc]))
theorem trimR_end (l : List UInt8) (b : UInt8) : Lib.trimRightS (l ++ [b]) blanksL = if isB b = true then Lib.trimRightS l blanksL else l ++ [b] := by
  unfold Lib.trimRightS isB
  rw [List.reverse_append, List.reverse_singleton, List.singleton_append, List.dropWhile_cons]
  split
  · rfl
  · simp
theorem trimR_id (l : List UInt8) (h : ∀ b, l.getLast? = some b → isB b = false) : Lib.trimRightS l blanksL = l := by
  cases hl : l.getLast? with
  | none => rw [List.getLast?_eq_none_iff.1 hl]; rfl
  | some b =>
    have hne : l ≠ [] := by rintro rfl; cases hl
    have hb := h b hl
    obtain ⟨m, c, rfl⟩ : ∃ m c, l = m ++ [c] := ⟨l.dropLast, l.getLast hne, (List.dropLast_concat_getLast hne).symm⟩
    rw [List.getLast?_concat] at hl
    injection hl with hl
    subst hl
    rw [trimR_end, hb]; simp
theorem trimR_app (a b : List UInt8) : Lib.trimRightS (a ++ b) blanksL = if Lib.trimRightS b blanksL = [] then Lib.trimRightS a blanksL else a ++ Lib.trimRightS b blanksL := by
  obtain ⟨p, h1, h2⟩ := trimR_split b
  have key : ∀ (x p : List UInt8), (∀ c ∈ p, isB c = true) → Lib.trimRightS (x ++ p) blanksL = Lib.trimRightS x blanksL := by
    intro x p h
    unfold Lib.trimRightS
    rw [List.reverse_append]
    congr 1
    exact dropW_pre _ _ (fun c hc => h c (List.mem_reverse.1 hc))
  by_cases h0 : Lib.trimRightS b blanksL = []
  · rw [if_pos h0]
    rw [h0, List.nil_append] at h1
    rw [h1]; exact key a p h2
  · rw [if_neg h0]
    conv => lhs; rw [h1, ← List.append_assoc]
    rw [key _ p h2]
    apply trimR_id
    intro c hc
    obtain ⟨w, hw⟩ : ∃ w, (Lib.trimRightS b blanksL).getLast? = some w := ⟨_, List.getLast?_eq_some_getLast h0⟩
    rw [List.getLast?_append, hw] at hc
    have := trimR_last _ _ _ hw
    injection hc with hc
    rw [← hc]; exact this
theorem map_sp_id (l : List UInt8) (h : ∀ b ∈ l, b ≠ 9 ∧ b ≠ 11) : l.map spB = l := by
  induction l with
  | nil => rfl
  | cons a t ih =>
    rw [List.map_cons, ih (fun b hb => h b (by simp [hb]))]
    congr 1
    unfold spB
    rw [if_neg]
    have := h a (by simp)
    rintro (e | e)
    · exact this.1 e
    · exact this.2 e
theorem dropS_head (l : List UInt8) (b : UInt8) (h : (l.dropWhile (· == 32)).head? = some b) : b ≠ 32 := by
  induction l with
  | nil => cases h
  | cons a t ih =>
    rw [List.dropWhile_cons] at h
    split at h
    · exact ih h
    · next hn => rw [List.head?_cons] at h; injection h with h; subst h; simpa using hn
theorem dropS_id (l : List UInt8) (h : ∀ b, l.head? = some b → b ≠ 32) : l.dropWhile (· == 32) = l := by
  cases l with
  | nil => rfl
  | cons a t => rw [List.dropWhile_cons, if_neg]; have := h a rfl; simpa using this
/-- A tidy line. -/
structure Tidied (z : List UInt8) : Prop where
  ok : LineOK z
  head : ∀ b, z.head? = some b → b ≠ 32
theorem tidied (y : List UInt8) (h : ∀ b ∈ y, isNL b = false) : Tidied (tidyL y) := ⟨tidy_ok y h, fun b hb => dropS_head _ b hb⟩
theorem Tidied.last {z : List UInt8} (h : Tidied z) (b : UInt8) (hb : z.getLast? = some b) : isB b = false := by
  have h1 := h.ok.1 b (List.mem_of_getLast? hb)
  have h2 := h.ok.2
  cases hq : isB b
  · rfl
  · rcases (isB_iff b).1 hq with rfl | rfl | rfl | rfl | rfl | rfl
    · exact absurd hb h2
    · exact absurd rfl h1.1
    · exact absurd rfl h1.2.1
    · exact absurd rfl h1.2.2.1
    · exact absurd rfl h1.2.2.2.1
    · exact absurd rfl h1.2.2.2.2
theorem Tidied.again {z : List UInt8} (h : Tidied z) : tidyL z = z := by
  unfold tidyL
  rw [map_sp_id z (fun b hb => ⟨(h.ok.1 b hb).1, (h.ok.1 b hb).2.2.1⟩), trimR_id z h.last, dropS_id z h.head]
theorem Tidied.moved {z : List UInt8} (h : Tidied z) (k : Nat) (h0 : z ≠ []) : tidyL (List.replicate k 32 ++ z) = z := by
  unfold tidyL
  have hm : (List.replicate k 32 ++ z).map spB = List.replicate k 32 ++ z := map_sp_id _ (fun b hb => by
    rw [List.mem_append] at hb
    rcases hb with hb | hb
    · rw [List.mem_replicate] at hb; rw [hb.2]; decide
    · exact ⟨(h.ok.1 b hb).1, (h.ok.1 b hb).2.2.1⟩)
  have ht := trimR_id z h.last
  rw [hm, trimR_app, ht, if_neg h0]
  induction k with
  | zero => exact dropS_id z h.head
  | succ k ih =>
    rw [List.replicate_succ, List.cons_append, List.dropWhile_cons, if_pos (by decide)]
    exact ih (map_sp_id _ (fun b hb => by
      rw [List.mem_append] at hb
      rcases hb with hb | hb
      · rw [List.mem_replicate] at hb; rw [hb.2]; decide
      · exact ⟨(h.ok.1 b hb).1, (h.ok.1 b hb).2.2.1⟩))
theorem tidy_indent (col : Nat) (ls : List (List UInt8)) (h : ∀ x ∈ ls, Tidied x) : (indentN col ls).map tidyL = ls := by
  cases ls with
  | nil => rfl
  | cons x r =>
    rw [indentN, List.map_cons, (h x (by simp)).again, List.map_map]
    congr 1
    conv => rhs; rw [← List.map_id r]
    refine List.map_congr_left fun y hy => ?_
    show tidyL (if y = [] then [] else List.replicate (col + 2) 32 ++ y) = y
    split
    · next e => rw [e]; rfl
    · next e => exact (h y (by simp [hy])).moved _ e
theorem noNL_of (x : List UInt8) (h : LineOK x) : ∀ b ∈ x, isNL b = false := fun b hb => by
  obtain ⟨_, h10, _, h12, h13⟩ := h.1 b hb
  unfold isNL; simp [h10, h12, h13]
/-- Lines that are joined are these lines. -/
theorem lines_join (ls : List (List UInt8)) (h0 : ls ≠ []) (h : ∀ x ∈ ls, ∀ b ∈ x, isNL b = false) : linesL [] (Lib.join ls [10]) = ls := by
  induction ls with
  | nil => exact absurd rfl h0
  | cons x r ih =>
    cases r with
    | nil =>
      rw [Lib.join_one]
      have := linesL_line x [] [] (h x (by simp))
      rw [List.append_nil, List.nil_append] at this
      rw [this, linesL_nil]
    | cons y r =>
      have e : Lib.join (x :: y :: r) [10] = x ++ (10 :: Lib.join (y :: r) [10]) := by rw [Lib.join_cons, Lib.join_cons]; simp [Lib.joinTail]
      have hn : nl (10 :: Lib.join (y :: r) [10]) = 1 := by unfold nl; simp
      rw [e, linesL_line x [] _ (h x (by simp)), List.nil_append, linesL_nl x _ (by simp) (by rw [hn]; decide), hn]
      show x :: linesL [] (Lib.join (y :: r) [10]) = _
      rw [ih (by simp) (fun z hz => h z (by simp at hz ⊢; right; exact hz))]
theorem linesL_one (l : List UInt8) (h : ∀ b ∈ l, isNL b = false) : linesL [] l = [l] := by
  have := linesL_line l [] [] h
  rw [List.append_nil, List.nil_append] at this
  rw [this, linesL_nil]
/-- Kinds. -/
theorem kind_row (n : Nat) (r : List UInt8) (hn : 2 ≤ n) (hr : span (isCls 5) r = 0) (hnl : ∀ b ∈ r, isNL b = false) : kindN (List.replicate n 45 ++ r) = 1 := by
  have hf : firstN r = r.length := by
    unfold firstN
    rw [tw_all _ r (fun b hb => by simpa using hnl b hb)]
  have hrow := rowN_mk n r hn hr
  rw [hf] at hrow
  have hlen : (List.replicate n 45 ++ r).length = n + r.length := by simp
  have h45 : (List.replicate n 45 ++ r)[0]? = some 45 := by
    obtain ⟨m, rfl⟩ : ∃ m, n = m + 1 := ⟨n - 1, by omega⟩
    rw [List.replicate_succ]; rfl
  generalize List.replicate n 45 ++ r = l at *
  have hne : l ≠ [] := by rintro rfl; simp at hlen; omega
  have e0 : scanN l 0 = ((l.length : Int), 0) := by
    rw [scanN_zero l hne, if_neg, if_pos h45, hrow, if_neg (by omega), hlen]
    intro h
    have := ((twoB_iff ..).1 h).1
    rw [h45] at this; revert this; decide
  unfold kindN
  rw [if_neg (by rw [e0]; simp [hne]), if_pos h45]
open Classical in
theorem kind_nest (l : List UInt8) (h2 : twoB l 0 123 45 = true) (hn : nestI l 2 1 = some l.length) : kindN l = if PragL l then 3 else 2 := by
  obtain ⟨h3, h4, h5⟩ := nestI_last l.length l 2 1 _ (by omega) hn
  have hne : l ≠ [] := by rintro rfl; simp at h3
  have e0 : scanN l 0 = ((l.length : Int), 0) := by rw [scanN_zero l hne, if_pos h2, hn]
  have h45 : l[0]? ≠ some 45 := by rw [((twoB_iff ..).1 h2).1]; decide
  unfold kindN
  rw [if_neg (by rw [e0]; simp [hne]), if_neg h45]
  have hp := prag_iff l h2 (by omega) h5
  by_cases h : PragL l
  · rw [if_pos (hp.2 h), if_pos h]
  · rw [if_neg (fun h' => h (hp.1 h')), if_neg h]
theorem kind_cases (l : List UInt8) (h : kindN l ≠ 0) : (∃ n r, 2 ≤ n ∧ l = List.replicate n 45 ++ r ∧ span (isCls 5) r = 0 ∧ ∀ b ∈ r, isNL b = false) ∨ (twoB l 0 123 45 = true ∧ nestI l 2 1 = some l.length) := by
  have hc : ¬ (l = [] ∨ scanN l 0 ≠ ((l.length : Int), 0)) := by
    intro hc; unfold kindN at h; rw [if_pos hc] at h; exact h rfl
  have hne : l ≠ [] := fun e => hc (.inl e)
  have hs : scanN l 0 = ((l.length : Int), 0) := Classical.byContradiction fun e => hc (.inr e)
  rw [scanN_zero l hne] at hs
  by_cases h2 : twoB l 0 123 45 = true
  · right
    rw [if_pos h2] at hs
    cases hn : nestI l 2 1 with
    | none => rw [hn] at hs; injection hs with _ hs; cases hs
    | some n =>
      rw [hn] at hs
      injection hs with hs _
      exact ⟨h2, by congr 1; omega⟩
  · left
    rw [if_neg h2] at hs
    have hl := List.length_pos_iff.2 hne
    by_cases h45 : l[0]? = some 45
    · rw [if_pos h45] at hs
      by_cases hr : rowN l = 0
      · rw [if_pos hr] at hs; injection hs with hs _; omega
      · rw [if_neg hr] at hs
        injection hs with hs _
        obtain ⟨n, r, hn, rfl, hsp, he⟩ := rowN_cases l hr
        refine ⟨n, r, hn, rfl, hsp, ?_⟩
        have hlen : (List.replicate n 45 ++ r).length = n + r.length := by simp
        have hf : firstN r = r.length := by omega
        unfold firstN at hf
        have := List.takeWhile_append_dropWhile (p := fun b => !isNL b) (l := r)
        have hd : r.dropWhile (fun b => !isNL b) = [] := by
          apply List.eq_nil_of_length_eq_zero
          have h2 := congrArg List.length this
          rw [List.length_append] at h2; omega
        rw [hd, List.append_nil] at this
        intro b hb
        rw [← this] at hb
        have := tw_mem _ r b hb
        simpa using this
    · rw [if_neg h45] at hs; injection hs with hs _; omega
end Go.Proofs.YthhlnahehpigeaaDoor
