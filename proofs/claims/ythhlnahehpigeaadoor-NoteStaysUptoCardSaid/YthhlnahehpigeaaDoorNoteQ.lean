/- DERIVED. PLAIN: what is found as a comment is one by itself; what is laid anew is clean. -/
import Derived.Test.YthhlnahehpigeaaDoorNoteP
set_option linter.unusedSimpArgs false
set_option linter.unusedVariables false
namespace Go.Proofs.YthhlnahehpigeaaDoor

theorem span_dash (n : Nat) (r : List UInt8) : span (isCls 5) (List.replicate n 45 ++ r) = n + span (isCls 5) r := by
  induction n with
  | zero => simp
  | succ n ih =>
    have hd : dec (45 :: (List.replicate n 45 ++ r)) = (45, 1) := by have := dec_ascii (45 :: (List.replicate n 45 ++ r)) (by simp); simpa using this
    rw [List.replicate_succ, List.cons_append, span_yes _ _ (by simp) (by rw [hd]; decide +kernel), hd]
    simp only [List.drop_succ_cons, List.drop_zero]
    rw [ih]; omega
theorem dash_take (l : List UInt8) (n : Nat) (hn : n ≤ l.length) (h : (l.take n).all (· == 45) = true) : l = List.replicate n 45 ++ l.drop n := by
  have e : l.take n = List.replicate n 45 := by
    rw [List.eq_replicate_iff]
    refine ⟨by rw [List.length_take]; omega, fun b hb => ?_⟩
    have := List.all_eq_true.1 h b hb
    simpa using this
  rw [← e, List.take_append_drop]
theorem runL_zero (l : List UInt8) : (runL l 0 5).toNat = span (isCls 5) l := by
  unfold runL
  rw [if_pos ⟨by omega, by omega⟩]
  simp
theorem span_stop (r : List UInt8) (h : span (isCls 5) r = 0) : r = [] ∨ isCls 5 (dec r).1 = false := by
  by_cases h0 : r = []
  · exact .inl h0
  · right
    cases hp : isCls 5 (dec r).1
    · rfl
    · rw [span_yes _ _ h0 hp] at h
      have := (dec_len r h0).1
      omega
theorem take_split (r : List UInt8) : r = r.takeWhile (fun b => !isNL b) ++ r.dropWhile (fun b => !isNL b) := List.takeWhile_append_dropWhile.symm
theorem nl_small (b : UInt8) (h : isNL b = true) : b.toNat < 128 := by
  unfold isNL at h
  simp only [Bool.or_eq_true, beq_iff_eq] at h
  rcases h with (rfl | rfl) | rfl <;> decide
theorem dropWhile_head (r : List UInt8) : ∀ b t, r.dropWhile (fun b => !isNL b) = b :: t → isNL b = true := by
  induction r with
  | nil => intro b t h; cases h
  | cons a r ih =>
    intro b t h
    rw [List.dropWhile_cons] at h
    split at h
    · exact ih b t h
    · next hn => injection h with h _; subst h; simpa using hn
/-- A row's first line. -/
theorem span_line (r : List UInt8) (h : span (isCls 5) r = 0) : span (isCls 5) (r.takeWhile (fun b => !isNL b)) = 0 := by
  rcases span_stop r h with rfl | hp
  · rfl
  · by_cases h0 : r.takeWhile (fun b => !isNL b) = []
    · rw [h0]; rfl
    · apply span_no
      rw [take_split r] at hp
      rwa [dec_cut _ _ h0 (fun b t e => nl_small b (dropWhile_head r b t e))] at hp
theorem firstN_line (r : List UInt8) : firstN (r.takeWhile (fun b => !isNL b)) = firstN r := by
  unfold firstN
  congr 1
  induction r with
  | nil => rfl
  | cons a r ih =>
    rw [List.takeWhile_cons]
    split
    · next h => rw [List.takeWhile_cons, if_pos h, ih]
    · rfl
theorem take_first (r : List UInt8) : r.take (firstN r) = r.takeWhile (fun b => !isNL b) := by
  unfold firstN
  conv => lhs; rw [take_split r]
  rw [List.take_left' (by rw [← take_split r])]
theorem rowN_cases (l : List UInt8) (h : rowN l ≠ 0) : ∃ n r, 2 ≤ n ∧ l = List.replicate n 45 ++ r ∧ span (isCls 5) r = 0 ∧ rowN l = n + firstN r := by
  unfold rowN at h ⊢
  split at h
  · next hc =>
    rw [if_pos hc]
    rw [runL_zero] at hc ⊢
    have hle := span_le' (isCls 5) l
    have hd := dash_take l _ hle hc.2
    refine ⟨span (isCls 5) l, l.drop (span (isCls 5) l), hc.1, hd, ?_, rfl⟩
    have := span_dash (span (isCls 5) l) (l.drop (span (isCls 5) l))
    rw [← hd] at this
    omega
  · exact absurd rfl h
theorem rowN_mk (n : Nat) (r : List UInt8) (hn : 2 ≤ n) (hr : span (isCls 5) r = 0) : rowN (List.replicate n 45 ++ r) = n + firstN r := by
  have hs : (runL (List.replicate n 45 ++ r) 0 5).toNat = n := by rw [runL_zero, span_dash, hr]; rfl
  unfold rowN
  rw [hs, List.take_left' (by simp), List.drop_left' (by simp), if_pos ⟨hn, by simp⟩]
/-- A row by itself. -/
theorem row_alone (l : List UInt8) (h : rowN l ≠ 0) : rowN (l.take (rowN l)) = rowN l ∧ rowN l ≤ l.length ∧ l[0]? = some 45 ∧ 2 ≤ rowN l := by
  obtain ⟨n, r, hn, rfl, hr, he⟩ := rowN_cases l h
  have ht : (List.replicate n 45 ++ r).take (n + firstN r) = List.replicate n 45 ++ r.takeWhile (fun b => !isNL b) := by
    rw [List.take_append, List.take_of_length_le (by simp), List.length_replicate, Nat.add_sub_cancel_left, take_first]
  have hf := firstN_le r
  refine ⟨?_, ?_, ?_, by omega⟩
  · rw [he, ht, rowN_mk n _ hn (span_line r hr), firstN_line]
  · rw [he, List.length_append, List.length_replicate]; omega
  · obtain ⟨m, rfl⟩ : ∃ m, n = m + 1 := ⟨n - 1, by omega⟩
    rw [List.replicate_succ]; rfl
theorem twoB_take (l q : List UInt8) (e i : Nat) (a b : UInt8) (he : e ≤ l.length) (hi : i + 2 ≤ e) : twoB (l.take e ++ q) i a b = twoB l i a b := by
  unfold twoB
  have h1 : (l.take e ++ q)[i]? = l[i]? := by rw [List.getElem?_append_left (by rw [List.length_take]; omega), List.getElem?_take, if_pos (by omega)]
  have h2 : (l.take e ++ q)[i + 1]? = l[i + 1]? := by rw [List.getElem?_append_left (by rw [List.length_take]; omega), List.getElem?_take, if_pos (by omega)]
  rw [h1, h2]
/-- A nested comment is found so, whatever stands behind it. -/
theorem nestI_app (q : List UInt8) (n : Nat) : ∀ (l : List UInt8) (i d e : Nat), l.length - i ≤ n → nestI l i d = some e → nestI (l.take e ++ q) i d = some e := by
  induction n with
  | zero => intro l i d e h he; rw [nestI_end l _ _ (by omega)] at he; cases he
  | succ n ih =>
    intro l i d e h he
    obtain ⟨h3, h4, _⟩ := nestI_last (n + 1) l i d e h he
    by_cases hi : i < l.length
    · by_cases h1 : twoB l i 123 45 = true
      · rw [nestI_in _ _ _ h1] at he
        rw [nestI_in _ _ _ (by rw [twoB_take l q e i _ _ h4 h3]; exact h1)]
        exact ih l (i + 2) (d + 1) e (by omega) he
      · have h1 : twoB l i 123 45 = false := by simpa using h1
        by_cases h2 : twoB l i 45 125 = true
        · rw [nestI_out _ _ _ h1 h2] at he
          rw [nestI_out _ _ _ (by rw [twoB_take l q e i _ _ h4 h3]; exact h1) (by rw [twoB_take l q e i _ _ h4 h3]; exact h2)]
          by_cases hd : d ≤ 1
          · rw [if_pos hd] at he ⊢; exact he
          · rw [if_neg hd] at he ⊢
            exact ih l (i + 2) (d - 1) e (by omega) he
        · have h2 : twoB l i 45 125 = false := by simpa using h2
          rw [nestI_on _ _ _ hi h1 h2] at he
          rw [nestI_on _ _ _ (by rw [List.length_append, List.length_take]; omega) (by rw [twoB_take l q e i _ _ h4 h3]; exact h1) (by rw [twoB_take l q e i _ _ h4 h3]; exact h2)]
          exact ih l (i + 1) d e (by omega) he
    · rw [nestI_end l _ _ (by omega)] at he; cases he
theorem scanN_zero (l : List UInt8) (h : l ≠ []) : scanN l 0 = ((if twoB l 0 123 45 = true then (match nestI l 2 1 with | some n => ((n : Int), (0 : Int)) | none => (0, 60)) else if l[0]? = some 45 then (if rowN l = 0 then (0, 0) else ((rowN l : Int), 0)) else (0, 0)) : Int × Int) := by
  have hl := List.length_pos_iff.2 h
  unfold scanN
  rw [if_pos ⟨by omega, by omega⟩]
  simp only [Int.toNat_zero, List.drop_zero, Int.zero_add]
  rfl
/-- The law of NoteWhole, in plain words. -/
theorem whole_plain (l : List UInt8) (i : Int) (more : List UInt8) (h0 : (scanN l i).1 ≠ 0) (h1 : (scanN l i).2 = 0) :
    ∃ a e : Nat, i = a ∧ (scanN l i).1 = e ∧ a < e ∧ e ≤ l.length ∧ kindN ((l.take e).drop a) ≠ 0 ∧ (kindN ((l.take e).drop a) = 1 ∨ scanN ((l.take e).drop a ++ more) 0 = ((((l.take e).drop a).length : Int), 0)) := by
  by_cases hi : 0 ≤ i ∧ i < l.length
  · obtain ⟨a, rfl⟩ := Int.eq_ofNat_of_zero_le hi.1
    have hal : a < l.length := by omega
    have hs : scanN l a = ((if twoB (l.drop a) 0 123 45 = true then (match nestI (l.drop a) 2 1 with | some n => ((a : Int) + n, (0 : Int)) | none => (0, 60)) else if (l.drop a)[0]? = some 45 then (if rowN (l.drop a) = 0 then (0, 0) else ((a : Int) + rowN (l.drop a), 0)) else (0, 0)) : Int × Int) := by
      unfold scanN; rw [if_pos hi, Int.toNat_natCast]; rfl
    have htl : (l.drop a).length = l.length - a := List.length_drop
    have htk : ∀ n, (l.take (a + n)).drop a = (l.drop a).take n := fun n => by rw [List.drop_take, Nat.add_sub_cancel_left]
    rw [hs] at h0 h1 ⊢
    generalize l.drop a = t at *
    by_cases ht : twoB t 0 123 45 = true
    · rw [if_pos ht] at h0 h1 ⊢
      cases hn : nestI t 2 1 with
      | none => rw [hn] at h0; exact absurd rfl h0
      | some n =>
        obtain ⟨h3, h4, h5⟩ := nestI_last t.length t 2 1 n (by omega) hn
        have hap := fun q => nestI_app q t.length t 2 1 n (by omega) hn
        have hlen : (t.take n).length = n := by rw [List.length_take]; omega
        have hne : t.take n ≠ [] := fun e => by rw [e] at hlen; simp at hlen; omega
        have h2t : ∀ q, twoB (t.take n ++ q) 0 123 45 = true := fun q => by rw [twoB_take t q n 0 _ _ h4 (by omega)]; exact ht
        have hsc : ∀ q, scanN (t.take n ++ q) 0 = ((n : Int), 0) := fun q => by
          rw [scanN_zero _ (by simp [hne]), if_pos (h2t q), hap q]
        refine ⟨a, a + n, rfl, by simp, by omega, by omega, ?_, ?_⟩
        · rw [htk]
          unfold kindN
          have e0 := hsc []
          rw [List.append_nil] at e0
          rw [if_neg (by rw [e0, hlen]; simp [hne])]
          have hh : (t.take n)[0]? ≠ some 45 := by
            have := ((twoB_iff ..).1 (h2t [])).1
            rw [List.append_nil] at this
            rw [this]; decide
          rw [if_neg hh]
          split <;> decide
        · right
          rw [htk, hsc more, hlen]
    · rw [if_neg ht] at h0 h1 ⊢
      by_cases h45 : t[0]? = some 45
      · rw [if_pos h45] at h0 h1 ⊢
        by_cases hr : rowN t = 0
        · rw [if_pos hr] at h0; exact absurd rfl h0
        · rw [if_neg hr] at h0 h1 ⊢
          obtain ⟨h3, h4, h5, h6⟩ := row_alone t hr
          have hlen : (t.take (rowN t)).length = rowN t := by rw [List.length_take]; omega
          have hne : t.take (rowN t) ≠ [] := fun e => by rw [e] at hlen; simp at hlen; omega
          have hh : (t.take (rowN t))[0]? = some 45 := by rw [List.getElem?_take, if_pos (by omega)]; exact h45
          have hk : kindN (t.take (rowN t)) = 1 := by
            unfold kindN
            have e0 : scanN (t.take (rowN t)) 0 = ((rowN t : Int), 0) := by
              rw [scanN_zero _ hne, if_neg, if_pos hh, h3, if_neg hr]
              intro h; have := ((twoB_iff ..).1 h).1; rw [hh] at this; revert this; decide
            rw [if_neg (by rw [e0, hlen]; simp [hne]), if_pos hh]
          refine ⟨a, a + rowN t, rfl, by simp, by omega, by omega, ?_, .inl ?_⟩
          · rw [htk, hk]; decide
          · rw [htk, hk]
      · rw [if_neg h45] at h0; exact absurd rfl h0
  · unfold scanN at h0; rw [if_neg hi] at h0; exact absurd rfl h0

/-- Is a text clean? -/
def cleanB : List UInt8 → Bool
  | [] => true
  | b :: t => !(b == 9 || b == 11 || b == 12 || b == 13 || (b == 32 && (t == [] || t.head? == some 10))) && cleanB t
/-- A line that is clean. -/
def LineOK (x : List UInt8) : Prop := (∀ b ∈ x, b ≠ 9 ∧ b ≠ 10 ∧ b ≠ 11 ∧ b ≠ 12 ∧ b ≠ 13) ∧ x.getLast? ≠ some 32
theorem clean_line (x y : List UInt8) (h : LineOK x) (hy : cleanB y = true) (h10 : y = [] ∨ ∃ r, y = 10 :: r) : cleanB (x ++ y) = true := by
  induction x with
  | nil => exact hy
  | cons a t ih =>
    obtain ⟨ha, hl⟩ := h
    obtain ⟨h9, hx10, h11, h12, h13⟩ := ha a (by simp)
    have hr : cleanB (t ++ y) = true := by
      cases t with
      | nil => exact hy
      | cons b r => exact ih ⟨fun c hc => ha c (by simp at hc ⊢; right; exact hc), by rw [List.getLast?_cons_cons] at hl; exact hl⟩
    rw [List.cons_append, cleanB, hr]
    simp only [Bool.and_true, Bool.not_eq_true', Bool.or_eq_false_iff, beq_eq_false_iff_ne, ne_eq, Bool.and_eq_false_iff]
    refine ⟨⟨⟨⟨h9, h11⟩, h12⟩, h13⟩, ?_⟩
    cases t with
    | nil =>
      left
      intro e; subst e; exact hl rfl
    | cons b r =>
      right
      refine ⟨by simp, ?_⟩
      have := (ha b (by simp)).2.1
      simpa using this
theorem clean_join (ls : List (List UInt8)) (h : ∀ x ∈ ls, LineOK x) : cleanB (Lib.join ls [10]) = true := by
  induction ls with
  | nil => rfl
  | cons x r ih =>
    cases r with
    | nil => rw [Lib.join_one]; have := clean_line x [] (h x (by simp)) rfl (.inl rfl); simpa using this
    | cons y r =>
      have hr := ih (fun z hz => h z (by simp at hz ⊢; right; exact hz))
      have e : Lib.join (x :: y :: r) [10] = x ++ (10 :: Lib.join (y :: r) [10]) := by rw [Lib.join_cons, Lib.join_cons]; simp [Lib.joinTail]
      rw [e]
      refine clean_line x _ (h x (by simp)) ?_ (.inr ⟨_, rfl⟩)
      rw [cleanB, hr]
      simp
/-- No line has a newline. -/
theorem linesL_no (n : Nat) : ∀ (l cur : List UInt8), l.length ≤ n → (∀ b ∈ cur, isNL b = false) → ∀ x ∈ linesL cur l, ∀ b ∈ x, isNL b = false := by
  induction n with
  | zero =>
    intro l cur hl hc x hx
    obtain rfl : l = [] := List.eq_nil_of_length_eq_zero (by omega)
    rw [linesL_nil, List.mem_singleton] at hx
    subst hx; exact hc
  | succ n ih =>
    intro l cur hl hc x hx
    cases l with
    | nil => rw [linesL_nil, List.mem_singleton] at hx; subst hx; exact hc
    | cons a t =>
      by_cases h : isNL a = true
      · have hn := (nl_cons a t).2 h
        rw [linesL_nl cur _ (by simp) hn, List.mem_cons] at hx
        rcases hx with rfl | hx
        · exact hc
        · exact ih _ [] (by rw [List.length_drop]; simp at hl ⊢; omega) (by simp) x hx
      · have h' : isNL a = false := by simpa using h
        rw [linesL_on cur _ (by simp) (fun h2 => h ((nl_cons a t).1 h2))] at hx
        refine ih _ (cur ++ [a]) (by simp at hl ⊢; omega) ?_ x (by simpa using hx)
        intro b hb
        rw [List.mem_append, List.mem_singleton] at hb
        rcases hb with hb | rfl
        · exact hc b hb
        · exact h'
theorem trimR_mem (l cs : List UInt8) (b : UInt8) (h : b ∈ Lib.trimRightS l cs) : b ∈ l := by
  unfold Lib.trimRightS at h
  rw [List.mem_reverse] at h
  exact List.mem_reverse.1 ((List.dropWhile_suffix _).subset h)
theorem trimR_last (l cs : List UInt8) (b : UInt8) (h : (Lib.trimRightS l cs).getLast? = some b) : cs.contains b = false := by
  unfold Lib.trimRightS at h
  rw [List.getLast?_reverse] at h
  generalize l.reverse = m at h
  induction m with
  | nil => cases h
  | cons a t ih =>
    rw [List.dropWhile_cons] at h
    split at h
    · exact ih h
    · next hn => rw [List.head?_cons] at h; injection h with h; subst h; simpa using hn
theorem dropW_last (p : UInt8 → Bool) (l : List UInt8) (b : UInt8) (h : (l.dropWhile p).getLast? = some b) : l.getLast? = some b := by
  induction l with
  | nil => cases h
  | cons a t ih =>
    rw [List.dropWhile_cons] at h
    split at h
    · have := ih h
      cases t with
      | nil => cases this
      | cons c r => rw [List.getLast?_cons_cons]; exact this
    · exact h
theorem spB_ok (b : UInt8) (h : isNL b = false) : spB b ≠ 9 ∧ spB b ≠ 10 ∧ spB b ≠ 11 ∧ spB b ≠ 12 ∧ spB b ≠ 13 := by
  unfold isNL at h
  simp only [Bool.or_eq_false_iff, beq_eq_false_iff_ne, ne_eq] at h
  unfold spB
  split
  · decide
  · next hn => exact ⟨fun e => hn (.inl e), h.1.1, fun e => hn (.inr e), h.1.2, h.2⟩
theorem tidy_ok (x : List UInt8) (h : ∀ b ∈ x, isNL b = false) : LineOK (tidyL x) := by
  refine ⟨fun b hb => ?_, fun e => ?_⟩
  · have h1 := trimR_mem _ _ _ ((List.dropWhile_suffix _).subset hb)
    rw [List.mem_map] at h1
    obtain ⟨c, hc, rfl⟩ := h1
    exact spB_ok c (h c hc)
  · have := trimR_last _ _ _ (dropW_last _ _ _ e)
    revert this; decide
theorem indent_ok (col : Nat) (ls : List (List UInt8)) (h : ∀ x ∈ ls, LineOK x) : ∀ x ∈ indentN col ls, LineOK x := by
  cases ls with
  | nil => intro x hx; cases hx
  | cons y r =>
    intro x hx
    rw [indentN, List.mem_cons] at hx
    rcases hx with rfl | hx
    · exact h _ (by simp)
    · rw [List.mem_map] at hx
      obtain ⟨z, hz, rfl⟩ := hx
      have hk := h z (by simp [hz])
      by_cases h0 : z = []
      · rw [if_pos h0]; exact ⟨by simp, by simp⟩
      · rw [if_neg h0]
        refine ⟨fun b hb => ?_, ?_⟩
        · rw [List.mem_append] at hb
          rcases hb with hb | hb
          · rw [List.mem_replicate] at hb; rw [hb.2]; decide
          · exact hk.1 b hb
        · obtain ⟨w, hw⟩ : ∃ w, z.getLast? = some w := ⟨z.getLast h0, List.getLast?_eq_some_getLast h0⟩
          have := hk.2
          rw [List.getLast?_append, hw]
          rw [hw] at this
          exact this
/-- The law of NoteClean, in plain words. -/
theorem clean_plain (l : List UInt8) (col : Int) (h : (tidyN l col).2 = 0) : cleanB (tidyN l col).1 = true := by
  unfold tidyN at h ⊢
  split
  · rfl
  · next hc =>
    rw [if_neg hc] at h
    unfold linesN at h ⊢
    by_cases hk : kindN l = 0
    · rw [if_pos hk]; rfl
    · rw [if_neg hk]
      refine clean_join _ (indent_ok _ _ (fun x hx => ?_))
      rw [List.mem_map] at hx
      obtain ⟨y, hy, rfl⟩ := hx
      exact tidy_ok y (fun b hb => linesL_no l.length l [] (Nat.le_refl _) (by simp) y hy b hb)
end Go.Proofs.YthhlnahehpigeaaDoor
