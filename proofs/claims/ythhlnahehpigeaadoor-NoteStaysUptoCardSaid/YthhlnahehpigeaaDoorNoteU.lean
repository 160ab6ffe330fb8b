/- DERIVED. PLAIN: the law of NoteStays: the kind stays, and so do the lines. -/
import Derived.Test.YthhlnahehpigeaaDoorNoteT
set_option linter.unusedSimpArgs false
set_option linter.unusedVariables false
namespace Go.Proofs.YthhlnahehpigeaaDoor

/-- What is laid of lines. -/
def laidN (l : List UInt8) (col : Nat) : List UInt8 := Lib.join (indentN col ((linesL [] l).map tidyL)) [10]
theorem laid_words (l : List UInt8) (col : Nat) : wordsC [] (laidN l col) = wordsC [] l := words_laid l col
theorem isCls_blank (b : UInt8) (h : isB b = true) : isCls 5 b.toNat = false := by
  rcases (isB_iff b).1 h with rfl | rfl | rfl | rfl | rfl | rfl <;> decide +kernel
theorem span_blank (b : UInt8) (t : List UInt8) (h : isB b = true) : span (isCls 5) (b :: t) = 0 := by
  have hd : dec (b :: t) = (b.toNat, 1) := by have := dec_ascii (b :: t) (by simpa using isB_small b h); simpa using this
  apply span_no
  rw [hd]; exact isCls_blank b h
/-- What a run of signs hangs on. -/
theorem span_word (x q : List UInt8) (hx : x ≠ []) (hq : q = [] ∨ ∃ b t, q = b :: t ∧ isB b = true) : span (isCls 5) (x ++ q) = 0 ↔ isCls 5 (dec x).1 = false := by
  have hd : dec (x ++ q) = dec x := by
    apply dec_cut x q hx
    intro b t e
    rcases hq with rfl | ⟨c, u, rfl, hc⟩
    · cases e
    · injection e with e _; subst e; exact isB_small _ hc
  constructor
  · intro h
    rcases span_stop _ h with h | h
    · simp [hx] at h
    · rw [hd] at h; exact h
  · intro h
    apply span_no
    rw [hd]; exact h
theorem word_split (r : List UInt8) : ∃ x q, r = x ++ q ∧ (∀ b ∈ x, isB b = false) ∧ (q = [] ∨ ∃ b t, q = b :: t ∧ isB b = true) := by
  induction r with
  | nil => exact ⟨[], [], rfl, by simp, .inl rfl⟩
  | cons a t ih =>
    by_cases ha : isB a = true
    · exact ⟨[], a :: t, rfl, by simp, .inr ⟨a, t, rfl, ha⟩⟩
    · obtain ⟨x, q, rfl, h1, h2⟩ := ih
      exact ⟨a :: x, q, rfl, fun b hb => by
        rw [List.mem_cons] at hb
        rcases hb with rfl | hb
        · simpa using ha
        · exact h1 b hb, h2⟩
theorem trim_word (x q : List UInt8) (h1 : ∀ b ∈ x, isB b = false) (h2 : q = [] ∨ ∃ b t, q = b :: t ∧ isB b = true) : ∃ q', Lib.trimRightS ((x ++ q).map spB) blanksL = x ++ q' ∧ (q' = [] ∨ ∃ b t, q' = b :: t ∧ isB b = true) := by
  have hx : x.map spB = x := map_sp_id x (fun b hb => by
    have := h1 b hb
    refine ⟨?_, ?_⟩ <;> (rintro rfl; revert this; decide))
  have hxt : Lib.trimRightS x blanksL = x := trimR_id x (fun b hb => h1 b (List.mem_of_getLast? hb))
  rw [List.map_append, hx, trimR_app, hxt]
  by_cases h0 : Lib.trimRightS (q.map spB) blanksL = []
  · rw [if_pos h0]; exact ⟨[], by simp, .inl rfl⟩
  · rw [if_neg h0]
    refine ⟨_, rfl, .inr ?_⟩
    obtain ⟨p, h3, _⟩ := trimR_split (q.map spB)
    rcases h2 with rfl | ⟨b, t, rfl, hb⟩
    · exact absurd rfl h0
    · cases hq : Lib.trimRightS ((b :: t).map spB) blanksL with
      | nil => exact absurd hq h0
      | cons c u =>
        rw [hq, List.map_cons, List.cons_append] at h3
        injection h3 with h3 _
        exact ⟨c, u, rfl, by rw [← h3, isB_sp]; exact hb⟩
/-- A row that is laid anew is a row. -/
theorem row_stays (n : Nat) (r : List UInt8) (col : Nat) (hn : 2 ≤ n) (hr : span (isCls 5) r = 0) (hnl : ∀ b ∈ r, isNL b = false) : kindN (laidN (List.replicate n 45 ++ r) col) = 1 := by
  have hl : ∀ b ∈ List.replicate n 45 ++ r, isNL b = false := fun b hb => by
    rw [List.mem_append] at hb
    rcases hb with hb | hb
    · rw [List.mem_replicate] at hb; rw [hb.2]; decide
    · exact hnl b hb
  have hd : ∀ b ∈ (List.replicate n 45 : List UInt8), isB b = false := fun b hb => by rw [List.mem_replicate] at hb; rw [hb.2]; decide
  have e1 : laidN (List.replicate n 45 ++ r) col = tidyL (List.replicate n 45 ++ r) := by
    unfold laidN
    rw [linesL_one _ hl, List.map_singleton, indentN, List.map_nil, Lib.join_one]
  have hok := tidy_ok _ hl
  have e2 : tidyL (List.replicate n 45 ++ r) = List.replicate n 45 ++ Lib.trimRightS (r.map spB) blanksL := by
    unfold tidyL
    have hm : (List.replicate n 45 ++ r).map spB = List.replicate n 45 ++ r.map spB := by rw [List.map_append, List.map_replicate]; rfl
    have ht : Lib.trimRightS (List.replicate n 45) blanksL = (List.replicate n 45 : List UInt8) := trimR_id _ (fun b hb => hd b (List.mem_of_getLast? hb))
    rw [hm, trimR_app, ht]
    have hdr : ∀ y : List UInt8, (List.replicate n 45 ++ y).dropWhile (· == 32) = List.replicate n 45 ++ y := fun y => dropS_id _ (fun b hb => by
      obtain ⟨m, rfl⟩ : ∃ m, n = m + 1 := ⟨n - 1, by omega⟩
      rw [List.replicate_succ] at hb
      have : b = 45 := by simpa using hb.symm
      rw [this]; decide)
    split
    · next h0 =>
      rw [h0]
      exact (by have h := hdr []; rw [List.append_nil] at h ⊢; exact h)
    · exact hdr _
  rw [e1]
  rw [e2] at hok ⊢
  apply kind_row n _ hn
  · obtain ⟨x, q, rfl, h1, h2⟩ := word_split r
    obtain ⟨q', h3, h4⟩ := trim_word x q h1 h2
    rw [h3]
    by_cases hx : x = []
    · subst hx
      rw [List.nil_append]
      rcases h4 with rfl | ⟨b, t, rfl, hb⟩
      · rfl
      · exact span_blank b t hb
    · exact (span_word x q' hx h4).2 ((span_word x q hx h2).1 hr)
  · intro b hb
    exact noNL_of _ hok b (by rw [List.mem_append]; exact .inr hb)
/-- The last line. -/
theorem linesL_last (n : Nat) : ∀ (l cur : List UInt8) (b : UInt8), l.length ≤ n → (cur ++ l).getLast? = some b → isNL b = false → (∀ c ∈ cur, isNL c = false) → ∃ ini x, linesL cur l = ini ++ [x] ∧ x.getLast? = some b := by
  induction n with
  | zero =>
    intro l cur b hl h hb hc
    obtain rfl : l = [] := List.eq_nil_of_length_eq_zero (by omega)
    exact ⟨[], cur, by rw [linesL_nil]; rfl, by simpa using h⟩
  | succ n ih =>
    intro l cur b hl h hb hc
    cases l with
    | nil => exact ⟨[], cur, by rw [linesL_nil]; rfl, by simpa using h⟩
    | cons a t =>
      by_cases ha : isNL a = true
      · have hn := (nl_cons a t).2 ha
        have hle := nl_le (a :: t)
        rw [linesL_nl cur _ (by simp) hn]
        have hne : (a :: t).drop (nl (a :: t)) ≠ [] := by
          intro e
          have h2 : ((a :: t).take (nl (a :: t))).getLast? = some b := by
            have e2 : (a :: t).take (nl (a :: t)) = a :: t := by
              have := List.take_append_drop (nl (a :: t)) (a :: t)
              rw [e, List.append_nil] at this; exact this
            rw [e2]
            rw [List.getLast?_append] at h
            obtain ⟨w, hw⟩ : ∃ w, (a :: t).getLast? = some w := ⟨_, List.getLast?_eq_some_getLast (by simp)⟩
            rw [hw] at h ⊢
            exact h
          have : isNL b = true := by
            rcases (by omega : nl (a :: t) = 1 ∨ nl (a :: t) = 2) with e1 | e1
            · rw [e1] at h2
              have : a = b := by simpa using h2
              rw [← this]; exact ha
            · rw [e1] at h2
              unfold nl at e1
              rw [if_neg (by simp)] at e1
              split at e1
              · next hq =>
                cases t with
                | nil => simp at hq
                | cons c u =>
                  have h10 : c = 10 := by simpa using hq.2.2
                  have : c = b := by simpa using h2
                  rw [← this, h10]; decide
              · split at e1 <;> omega
          rw [this] at hb; cases hb
        obtain ⟨ini, x, h1, h2⟩ := ih ((a :: t).drop (nl (a :: t))) [] b (by rw [List.length_drop]; simp at hl ⊢; omega) (by
          rw [List.nil_append]
          rw [List.getLast?_append] at h
          obtain ⟨w, hw⟩ : ∃ w, (a :: t).getLast? = some w := ⟨_, List.getLast?_eq_some_getLast (by simp)⟩
          rw [hw] at h
          have hwb : w = b := by simpa using h
          rw [List.getLast?_drop, if_neg (by intro h3; exact hne (List.drop_eq_nil_of_le h3)), hw, hwb]) hb (by simp)
        exact ⟨cur :: ini, x, by rw [h1]; rfl, h2⟩
      · have ha' : isNL a = false := by simpa using ha
        rw [linesL_on cur _ (by simp) (fun h2 => ha ((nl_cons a t).1 h2))]
        exact ih ((a :: t).drop 1) (cur ++ [(a :: t).getD 0 0]) b (by simp at hl ⊢; omega) (by simpa using h) hb (fun c hc' => by
          rw [List.mem_append, List.mem_singleton] at hc'
          rcases hc' with hc' | rfl
          · exact hc c hc'
          · exact ha')
theorem tidy_last (x : List UInt8) (b : UInt8) (h : x.getLast? = some b) (hb : isB b = false) : (tidyL x).getLast? = some b := by
  have hne : x ≠ [] := by rintro rfl; cases h
  obtain ⟨m, c, rfl⟩ : ∃ m c, x = m ++ [c] := ⟨x.dropLast, x.getLast hne, (List.dropLast_concat_getLast hne).symm⟩
  rw [List.getLast?_concat] at h
  injection h with h
  subst h
  unfold tidyL
  rw [List.map_append, List.map_singleton, sp_word c hb, trimR_end, if_neg (by rw [hb]; simp)]
  obtain ⟨p, h1, h2⟩ := dropS_split (m.map spB ++ [c])
  have h3 : (m.map spB ++ [c]).getLast? = some c := List.getLast?_concat
  rw [h1, List.getLast?_append] at h3
  cases hd : ((m.map spB ++ [c]).dropWhile (· == 32)).getLast? with
  | some w => rw [hd] at h3; simpa using h3
  | none =>
    rw [hd] at h3
    have := h2 c (List.mem_of_getLast? (by simpa using h3))
    rw [hb] at this; cases this
theorem tidy_head2 (a b : UInt8) (t : List UInt8) (ha : isB a = false) (hb : isB b = false) : ∃ t', tidyL (a :: b :: t) = a :: b :: t' := by
  unfold tidyL
  have h1 : (a :: b :: t).map spB = [a, b] ++ t.map spB := by rw [List.map_cons, List.map_cons, sp_word a ha, sp_word b hb]; rfl
  have h2 : Lib.trimRightS [a, b] blanksL = [a, b] := trimR_id _ (fun c hc => by
    have : b = c := by simpa using hc
    rw [← this]; exact hb)
  have h32 : a ≠ 32 := by rintro rfl; revert ha; decide
  rw [h1, trimR_app, h2]
  split
  · exact ⟨[], dropS_id _ (fun c hc => by have : a = c := by simpa using hc
                                          rw [← this]; exact h32)⟩
  · exact ⟨_, dropS_id _ (fun c hc => by have : a = c := by simpa using hc
                                         rw [← this]; exact h32)⟩
theorem join_last (ls : List (List UInt8)) (x : List UInt8) (b : UInt8) (h : x.getLast? = some b) : (Lib.join (ls ++ [x]) [10]).getLast? = some b := by
  induction ls with
  | nil => rw [List.nil_append, Lib.join_one]; exact h
  | cons y r ih =>
    cases hr : r ++ [x] with
    | nil => simp at hr
    | cons z u =>
      rw [List.cons_append, hr]
      rw [hr] at ih
      have e : Lib.join (y :: z :: u) [10] = (y ++ [10]) ++ Lib.join (z :: u) [10] := by rw [Lib.join_cons, Lib.join_cons]; simp [Lib.joinTail]
      rw [e, List.getLast?_append, ih]; rfl
theorem join_head (x : List UInt8) (r : List (List UInt8)) : ∃ y, Lib.join (x :: r) [10] = x ++ y := ⟨_, Lib.join_cons x r [10]⟩
/-- A nested comment that is laid anew is one, and a pragma if it was one. -/
theorem nest_stays (l : List UInt8) (col : Nat) (h2 : twoB l 0 123 45 = true) (hn : nestI l 2 1 = some l.length) : kindN (laidN l col) = kindN l := by
  obtain ⟨h3, h4, h5⟩ := nestI_last l.length l 2 1 _ (by omega) hn
  have g := (twoB_iff ..).1 h2
  obtain ⟨l2, rfl⟩ : ∃ l2, l = 123 :: 45 :: l2 := by
    cases l with
    | nil => simp at g
    | cons a l =>
      cases l with
      | nil => simp at g
      | cons b l => exact ⟨l, by have h1 : a = 123 := by simpa using g.1
                                 have h2 : b = 45 := by simpa using g.2
                                 rw [h1, h2]⟩
  have hlast : (123 :: 45 :: l2 : List UInt8).getLast? = some 125 := by
    have := ((twoB_iff ..).1 h5).2
    rw [List.getLast?_eq_getElem?]
    rw [← this]
    congr 1
  -- its first line
  obtain ⟨r0, hr0⟩ := first_line (123 :: 45 :: l2)
  have hfl : (123 :: 45 :: l2 : List UInt8).takeWhile (fun b => !isNL b) = 123 :: 45 :: l2.takeWhile (fun b => !isNL b) := by
    rw [List.takeWhile_cons, if_pos (by decide), List.takeWhile_cons, if_pos (by decide)]
  rw [hfl] at hr0
  obtain ⟨t1, ht1⟩ := tidy_head2 123 45 (l2.takeWhile (fun b => !isNL b)) (by decide) (by decide)
  obtain ⟨t2, ht2⟩ : ∃ t2, laidN (123 :: 45 :: l2) col = 123 :: 45 :: t2 := by
    unfold laidN
    rw [hr0, List.map_cons, indentN, ht1]
    obtain ⟨y, hy⟩ := join_head (123 :: 45 :: t1) ((r0.map tidyL).map fun y => if y = [] then [] else List.replicate (col + 2) 32 ++ y)
    exact ⟨t1 ++ y, hy⟩
  -- its last line
  obtain ⟨ini, x, hx1, hx2⟩ := linesL_last _ (123 :: 45 :: l2) [] 125 (Nat.le_refl _) (by rw [List.nil_append]; exact hlast) (by decide) (by simp)
  have hlast2 : (laidN (123 :: 45 :: l2) col).getLast? = some 125 := by
    unfold laidN
    have ht := tidy_last x 125 hx2 (by decide)
    rw [hx1, List.map_append, List.map_singleton]
    cases hi : ini.map tidyL with
    | nil =>
      rw [List.nil_append, indentN, List.map_nil, Lib.join_one]; exact ht
    | cons y r =>
      rw [List.cons_append, indentN, List.map_append, List.map_singleton, ← List.cons_append]
      apply join_last
      have hne : tidyL x ≠ [] := by intro e; rw [e] at ht; cases ht
      rw [if_neg hne, List.getLast?_append, ht]; rfl
  -- the words
  have hw := laid_words (123 :: 45 :: l2) col
  have n1 := norm_words _ (laidN (123 :: 45 :: l2) col) [] (Nat.le_refl _) (.inr (fun b hb => by rw [ht2] at hb; have : 123 = b := by simpa using hb
                                                                                                 rw [← this]; decide)) (fun b hb => by rw [hlast2] at hb; injection hb with hb; rw [← hb]; decide)
  have n2 := norm_words _ (123 :: 45 :: l2) [] (Nat.le_refl _) (.inr (fun b hb => by have : 123 = b := by simpa using hb
                                                                                     rw [← this]; decide)) (fun b hb => by rw [hlast] at hb; injection hb with hb; rw [← hb]; decide)
  rw [hw, n2, List.nil_append, List.nil_append] at n1
  have hnn := n1
  rw [ht2, norm_w _ _ (by decide), norm_w _ _ (by decide), norm_w 123 _ (by decide), norm_w 45 _ (by decide)] at hnn
  injection hnn with _ hnn
  injection hnn with _ hnn
  have e1 := (nestE_I _ (123 :: 45 :: l2) 2 1 (Nat.le_refl _)).1 hn
  have e2 : nestE t2 1 = true := by
    rw [← nestE_norm t2.length t2 1 (Nat.le_refl _), ← hnn, nestE_norm l2.length l2 1 (Nat.le_refl _)]
    exact e1
  have hn2 : nestI (laidN (123 :: 45 :: l2) col) 2 1 = some (laidN (123 :: 45 :: l2) col).length := by
    rw [ht2]
    exact (nestE_I _ (123 :: 45 :: t2) 2 1 (Nat.le_refl _)).2 e2
  have h22 : twoB (laidN (123 :: 45 :: l2) col) 0 123 45 = true := by rw [ht2]; exact (twoB_iff ..).2 ⟨rfl, rfl⟩
  rw [kind_nest _ h22 hn2, kind_nest _ h2 hn]
  have hp : PragL (laidN (123 :: 45 :: l2) col) ↔ PragL (123 :: 45 :: l2) := by
    rw [prag_norm, prag_norm (123 :: 45 :: l2), n1]
  by_cases h : PragL (123 :: 45 :: l2)
  · rw [if_pos h, if_pos (hp.2 h)]
  · rw [if_neg h, if_neg (fun h' => h (hp.1 h'))]
theorem kind_stays (l : List UInt8) (col : Nat) (h : kindN l ≠ 0) : kindN (laidN l col) = kindN l := by
  rcases kind_cases l h with ⟨n, r, hn, rfl, hr, hnl⟩ | ⟨h2, hn⟩
  · rw [row_stays n r col hn hr hnl, kind_row n r hn hr hnl]
  · exact nest_stays l col h2 hn
theorem lines_stay (l : List UInt8) (col : Nat) : (linesL [] (laidN l col)).map tidyL = (linesL [] l).map tidyL := by
  have hno : ∀ x ∈ linesL [] l, ∀ b ∈ x, isNL b = false := linesL_no l.length l [] (Nat.le_refl _) (by simp)
  have ht : ∀ x ∈ (linesL [] l).map tidyL, Tidied x := fun x hx => by
    rw [List.mem_map] at hx
    obtain ⟨y, hy, rfl⟩ := hx
    exact tidied y (hno y hy)
  have hne : indentN col ((linesL [] l).map tidyL) ≠ [] := by
    obtain ⟨r, hr⟩ := first_line l
    rw [hr, List.map_cons, indentN]; simp
  unfold laidN
  rw [lines_join _ hne (fun x hx => noNL_of x (indent_ok col _ (fun y hy => (ht y hy).ok) x hx)), tidy_indent col _ ht]
/-- The law of NoteStays, in plain words. -/
theorem stays_plain (l : List UInt8) (col : Int) (h : (tidyN l col).2 = 0) : kindN (tidyN l col).1 = kindN l ∧ kindN l ≠ 0 ∧ tidyN (tidyN l col).1 col = ((tidyN l col).1, 0) ∧ sameN l (tidyN l col).1 = true := by
  unfold tidyN at h
  by_cases hc : col < 1 ∨ 65536 < col
  · rw [if_pos hc] at h; cases h
  · rw [if_neg hc] at h
    have hk : kindN l ≠ 0 := by intro e; unfold linesN at h; rw [if_pos e] at h; cases h
    have hl : linesN l = some ((linesL [] l).map tidyL) := by unfold linesN; rw [if_neg hk]
    have ht : tidyN l col = (laidN l col.toNat, 0) := by unfold tidyN; rw [if_neg hc, hl]; rfl
    have hks := kind_stays l col.toNat hk
    have hl2 : linesN (laidN l col.toNat) = some ((linesL [] l).map tidyL) := by
      unfold linesN
      rw [if_neg (by rw [hks]; exact hk), lines_stay]
    rw [ht]
    refine ⟨hks, hk, ?_, ?_⟩
    · show tidyN (laidN l col.toNat) col = (laidN l col.toNat, 0)
      unfold tidyN
      rw [if_neg hc, hl2]; rfl
    · unfold sameN
      rw [hl]
      show (match some ((linesL [] l).map tidyL), linesN (laidN l col.toNat) with | some l, some m => decide (l = m) | _, _ => false) = true
      rw [hl2]; simp
end Go.Proofs.YthhlnahehpigeaaDoor
