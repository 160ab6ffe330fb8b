/- DERIVED. PLAIN: a literal with its gaps narrow. -/
import Derived.Test.YtmgnpgbganjgfaaDoorQuoteR
set_option linter.unusedSimpArgs false
set_option linter.unusedVariables false
namespace Go.Proofs.YtmgnpgbganjgfaaDoor

theorem dec_high (l : List UInt8) (h0 : 128 ≤ (l.getD 0 0).toNat) : ∀ k, k < (dec l).2 → 128 ≤ (l.getD k 0).toNat := by
  intro k
  unfold dec Lib.decodeN
  generalize e1 : (l.getD 1 0).toNat = b1
  generalize e2 : (l.getD 2 0).toNat = b2
  generalize e3 : (l.getD 3 0).toNat = b3
  have key : ∀ n, n ≤ 4 → (1 < n → 128 ≤ b1) → (2 < n → 128 ≤ b2) → (3 < n → 128 ≤ b3) → k < n → 128 ≤ (l.getD k 0).toNat := by
    intro n hn h1 h2 h3 hk
    have hk4 : k = 0 ∨ k = 1 ∨ k = 2 ∨ k = 3 := by omega
    rcases hk4 with rfl | rfl | rfl | rfl
    · exact h0
    · rw [e1]; exact h1 (by omega)
    · rw [e2]; exact h2 (by omega)
    · rw [e3]; exact h3 (by omega)
  repeat' split
  all_goals (intro hk; refine key _ ?_ ?_ ?_ ?_ hk <;> simp only <;> omega)
theorem cls_low (c : Nat) (h : c < 32) : cls c = 0 ∨ cls c = 1 := by
  have hall : ∀ k : Fin 32, cls (k.val : Int) = 0 ∨ cls (k.val : Int) = 1 := by decide +kernel
  exact hall ⟨c, h⟩
theorem rune_bytes (x : List UInt8) (h0 : x ≠ []) (hl : (dec x).2 = x.length) (hb : badC (dec x) = false) : ∀ b ∈ x, 32 ≤ b.toNat := by
  intro b hb2
  obtain ⟨k, hk, rfl⟩ := List.mem_iff_getElem.1 hb2
  have hg : ∀ k (h : k < x.length), x.getD k 0 = x[k] := fun k h => by rw [List.getD_eq_getElem?_getD, List.getElem?_eq_getElem h]; rfl
  by_cases hh : 128 ≤ (x.getD 0 0).toNat
  · have := dec_high x hh k (by omega)
    rw [hg k hk] at this
    omega
  · have hd := dec_ascii x (by omega)
    rw [hd] at hl
    simp only at hl
    have hk0 : k = 0 := by omega
    subst hk0
    rw [hd, hg 0 hk] at hb
    unfold badC at hb
    simp only [Bool.or_eq_false_iff, Bool.and_eq_false_iff, decide_eq_false_iff_not] at hb
    obtain ⟨⟨h1, h2⟩, _⟩ := hb
    by_cases hc : (x[0]).toNat < 32
    · rcases cls_low _ hc with h | h
      · exact absurd h h1
      · rcases h2 with h2 | h2
        · exact absurd h h2
        · simp only [ne_eq, Decidable.not_not] at h2; omega
    · omega
theorem dig_bd (c base : Int) (h : 0 ≤ dig c base) : 48 ≤ c ∧ c ≤ 102 := by
  by_cases h0 : base < 2 ∨ base > 16 ∨ digV c ≥ base
  · rw [dig_no c base h0] at h; omega
  · rw [dig_yes c base (by omega) (by omega) (by omega)] at h
    unfold digV at h
    split at h
    · omega
    · split at h
      · omega
      · split at h
        · omega
        · omega
theorem numP_bytes (base : Int) (x y : List UInt8) (v : Int) (h : numP base (x ++ y) = some (v, x.length)) : ∀ b ∈ x, 32 ≤ b.toNat := by
  unfold numP at h
  split at h
  · injection h with h
    injection h with _ h2
    obtain ⟨a1, _⟩ := tw_len _ _ _ h2
    intro b hb
    have := a1 b hb
    unfold digB at this
    have := dig_bd _ _ (of_decide_eq_true this)
    omega
  · cases h
theorem escP_bytes (x y : List UInt8) (v : Int) (h : escP (x ++ y) = some (v, x.length)) : ∀ b ∈ x, 32 ≤ b.toNat := by
  cases x with
  | nil => simp
  | cons c x =>
    have hh := escP_head c (x ++ y) _ h
    have hone : x = [] → ∀ b ∈ c :: x, 32 ≤ b.toNat := by
      rintro rfl b hb
      have e : b = c := by simpa using hb
      rw [e]
      omega
    rw [List.cons_append] at h
    rw [escP_cons] at h
    unfold escC at h
    cases hs : signP c with
    | some u =>
      rw [hs] at h
      simp only [Option.some.injEq, Prod.mk.injEq, List.length_cons] at h
      exact hone (List.eq_nil_of_length_eq_zero (by omega))
    | none =>
      rw [hs] at h
      simp only at h
      split at h
      · simp only [Option.some.injEq, Prod.mk.injEq, List.length_cons] at h
        exact hone (List.eq_nil_of_length_eq_zero (by omega))
      split at h
      · cases x with
        | nil => exact hone rfl
        | cons d x =>
          simp only [List.cons_append] at h
          split at h
          · next hd =>
            simp only [Option.some.injEq, Prod.mk.injEq, List.length_cons] at h
            have hx : x = [] := List.eq_nil_of_length_eq_zero (by omega)
            subst hx
            intro b hb
            simp only [List.mem_cons, List.not_mem_nil, or_false] at hb
            rcases hb with rfl | rfl <;> omega
          · cases h
      have hnum : ∀ base, (match numP base (x ++ y) with | none => none | some (v, n) => some (v, n + 1)) = some (v, (c :: x).length) → ∀ b ∈ c :: x, 32 ≤ b.toNat := by
        intro base h
        cases hn : numP base (x ++ y) with
        | none => rw [hn] at h; cases h
        | some p =>
          obtain ⟨v', n'⟩ := p
          rw [hn] at h
          simp only [Option.some.injEq, Prod.mk.injEq, List.length_cons, Nat.add_right_cancel_iff] at h
          obtain ⟨rfl, rfl⟩ := h
          have := numP_bytes base x y v' hn
          intro b hb
          rcases List.mem_cons.1 hb with rfl | hb
          · omega
          · exact this b hb
      split at h
      · exact hnum 8 h
      split at h
      · exact hnum 16 h
      split at h
      · exact numP_bytes 10 (c :: x) y v h
      split at h
      · next hp =>
        simp only [Option.some.injEq, Prod.mk.injEq] at h
        obtain ⟨_, h2⟩ := h
        have hi := nameP_is _ hp
        rw [h2, ← List.cons_append, List.take_left' rfl] at hi
        intro b hb
        have := (names_ascii _ hi).2 b hb
        omega
      · cases h
theorem oneP_bytes (text : Bool) (x y : List UInt8) (c : Int) (h0 : x ≠ []) (h : oneP text (x ++ y) = .ok (c, x.length)) (hg : text = true → isGap (x ++ y) = false) : ∀ b ∈ x, 32 ≤ b.toNat := by
  cases x with
  | nil => exact absurd rfl h0
  | cons b x =>
    rw [List.cons_append] at h hg
    rw [oneP_cons] at h
    unfold oneC at h
    by_cases hb : b = 92
    · rw [if_pos hb] at h
      rw [if_neg (by
        rintro ⟨h1, h2⟩
        have := hg h1
        simp only [isGap_cons] at this
        rw [decide_eq_true hb, decide_eq_true h2] at this
        cases this)] at h
      cases he : escP (x ++ y) with
      | none => rw [he] at h; cases h
      | some p =>
        obtain ⟨v, n⟩ := p
        rw [he] at h
        simp only at h
        split at h
        · cases h
        · injection h with h
          injection h with h1 h2
          simp only [List.length_cons, Nat.add_right_cancel_iff] at h2
          subst h2
          have := escP_bytes x y v he
          intro a ha
          rcases List.mem_cons.1 ha with rfl | ha
          · rw [hb]; decide
          · exact this a ha
    · rw [if_neg hb] at h
      have hbd : badC (dec (b :: (x ++ y))) = false := by
        cases hq : badC (dec (b :: (x ++ y)))
        · rfl
        · rw [hq, if_pos rfl] at h; cases h
      rw [hbd, if_neg (by simp)] at h
      injection h with h
      injection h with h1 h2
      have htk := dec_take (b :: (x ++ y)) (by simp)
      rw [h2, ← List.cons_append, List.take_left' rfl] at htk
      exact rune_bytes (b :: x) (by simp) (by rw [htk]; exact h2) (by rw [htk]; exact hbd)
/-- The rest of a text's literal, its gaps narrow. -/
def plT (l : List UInt8) (i : Nat) : List UInt8 :=
  if h : i < l.length then
    if l[i]? = some 34 then [34]
    else match oneP true (l.drop i) with
      | .error _ => []
      | .ok (_, n) => (if isGap (l.drop i) = true then [92, 32, 92] else (l.drop i).take n) ++ plT l (i + (n - 1) + 1)
  else []
termination_by l.length - i
theorem plT_quote (l : List UInt8) (i : Nat) (h : l[i]? = some 34) : plT l i = [34] := by rw [plT, dif_pos (List.getElem?_eq_some_iff.1 h).1, if_pos h]
theorem plT_on (l : List UInt8) (i : Nat) (c : Int) (n : Nat) (hi : i < l.length) (h : l[i]? ≠ some 34) (ho : oneP true (l.drop i) = .ok (c, n)) : plT l i = (if isGap (l.drop i) = true then [92, 32, 92] else (l.drop i).take n) ++ plT l (i + n) := by
  have := oneP_bd _ _ _ _ ho
  rw [plT, dif_pos hi, if_neg h, ho]
  simp only
  rw [show i + (n - 1) + 1 = i + n from by omega]
theorem gap_head (l : List UInt8) (h : isGap l = true) : l.head? = some 92 := by
  cases l with
  | nil => cases h
  | cons b t => simp only [isGap_cons] at h; simp only [Bool.and_eq_true, decide_eq_true_eq] at h; rw [h.1]; rfl
theorem drop_head (l : List UInt8) (i : Nat) : (l.drop i).head? = l[i]? := by rw [List.head?_drop]
/-- The step that is read at a place of a literal without a fault. -/
theorem readT_step (l : List UInt8) (i : Nat) (hi : i < l.length) (hq : l[i]? ≠ some 34) (he : (readT l i).e = 0) : ∃ c n, oneP true (l.drop i) = .ok (c, n) ∧ 1 ≤ n ∧ n ≤ l.length - i ∧ readT l i = (readT l (i + n)).more i n c (isGap (l.drop i)) ∧ (readT l (i + n)).e = 0 ∧ (readT l (i + n)).till = (readT l i).till := by
  cases ho : oneP true (l.drop i) with
  | error e => rw [readT_bad l i e hi hq ho] at he; exact absurd he (oneP_error _ _ _ ho)
  | ok p =>
    obtain ⟨c, n⟩ := p
    have hb := oneP_bd _ _ _ _ ho
    rw [List.length_drop] at hb
    have hon := readT_on l i c n hi hq ho
    refine ⟨c, n, rfl, hb.1, hb.2, hon, by rw [hon] at he; exact he, by rw [hon]; rfl⟩
theorem plT_head (l : List UInt8) (i : Nat) (hi : i < l.length) (he : (readT l i).e = 0) : (plT l i).head? = l[i]? := by
  by_cases hq : l[i]? = some 34
  · rw [plT_quote l i hq, hq]; rfl
  · obtain ⟨c, n, ho, h1, h2, _⟩ := readT_step l i hi hq he
    rw [plT_on l i c n hi hq ho, ← drop_head]
    cases hg : isGap (l.drop i)
    · rw [if_neg (by simp)]
      exact head_take _ _ _ h1 (by intro e; have := congrArg List.length e; rw [List.length_drop] at this; simp at this; omega)
    · rw [if_pos rfl, gap_head _ hg]; rfl
theorem narrow_gap (z : List UInt8) : oneP true (92 :: 32 :: 92 :: z) = .ok (-2, 3) ∧ isGap (92 :: 32 :: 92 :: z) = true := by
  have hd : dec (32 :: 92 :: z) = (32, 1) := by have := dec_ascii (32 :: 92 :: z) (by simp); simpa using this
  have hd2 : dec (92 :: z) = (92, 1) := by have := dec_ascii (92 :: z) (by simp); simpa using this
  have hs : span (isCls 1) (32 :: 92 :: z) = 1 := by
    rw [span_yes _ _ (by simp) (by rw [hd]; decide +kernel), hd]
    simp only [List.drop_succ_cons, List.drop_zero]
    rw [span_no _ _ (by rw [hd2]; decide +kernel)]
  have hg : gapP (32 :: 92 :: z) = 2 := by
    unfold gapP
    rw [hs, if_pos ⟨by omega, rfl⟩]
  constructor
  · rw [oneP_cons]
    unfold oneC
    rw [if_pos rfl, if_pos ⟨rfl, by omega⟩, hg]
  · simp only [isGap_cons]
    rw [hg]; decide
/-- The narrow one is read as the other was. -/
theorem plT_read (n : Nat) : ∀ (l : List UInt8) (i : Nat), l.length - i ≤ n → (readT l i).e = 0 → ∀ p : List UInt8, ∃ gs, readT (p ++ plT l i) p.length = ⟨0, p.length + (plT l i).length, (readT l i).out, gs⟩ ∧ plT (p ++ plT l i) p.length = plT l i ∧ ∀ b ∈ plT l i, 32 ≤ b.toNat := by
  induction n with
  | zero => intro l i h he; rw [readT_end l _ (by omega)] at he; exact absurd he (by simp)
  | succ n ih =>
    intro l i h he p
    by_cases hi : i < l.length
    · by_cases hq : l[i]? = some 34
      · rw [plT_quote l i hq, readT_quote l i hq]
        have hg : (p ++ [34])[p.length]? = some 34 := by simp
        refine ⟨[], by rw [readT_quote _ _ hg]; rfl, plT_quote _ _ hg, ?_⟩
        intro b hb
        have : b = 34 := by simpa using hb
        rw [this]; decide
      · obtain ⟨c, k, ho, h1, h2, hon, he2, hte⟩ := readT_step l i hi hq he
        have f1 := readT_fine _ l (i + k) (Nat.le_refl _) he2
        have hik : i + k < l.length := by omega
        have hpl := plT_on l i c k hi hq ho
        have hhd := plT_head l (i + k) hik he2
        have hout : (readT l i).out = if c = -2 then (readT l (i + k)).out else c :: (readT l (i + k)).out := by rw [hon]; rfl
        have hx : l.drop i = (l.drop i).take k ++ l.drop (i + k) := by rw [← List.drop_drop, List.take_append_drop]
        have hxl : ((l.drop i).take k).length = k := by rw [List.length_take, List.length_drop]; omega
        have hxn : (l.drop i).take k ≠ [] := by intro e; rw [e] at hxl; simp at hxl; omega
        generalize hX : (l.drop i).take k = x at *
        generalize hZ : plT l (i + k) = z at *
        have hhz : z.head? = (l.drop (i + k)).head? := by rw [hhd, drop_head]
        cases hgp : isGap (l.drop i)
        · rw [hgp, if_neg (by simp)] at hpl
          have hox : oneP true (x ++ l.drop (i + k)) = .ok (c, x.length) := by rw [← hx, hxl]; exact ho
          obtain ⟨o1, o2⟩ := oneP_ahead true x (l.drop (i + k)) z c hhz hxn hox
          have hgx := o2 rfl
          rw [← hx, hgp] at hgx
          obtain ⟨gs, r1, r2, r3⟩ := ih l (i + k) (by omega) he2 (p ++ x)
          rw [hZ] at r1 r2 r3
          rw [hpl]
          have hdp : (p ++ (x ++ z)).drop p.length = x ++ z := List.drop_left' rfl
          have hlen : p.length < (p ++ (x ++ z)).length := by rw [List.length_append, List.length_append]; omega
          have hnq : (p ++ (x ++ z))[p.length]? ≠ some 34 := by
            rw [← drop_head, hdp]
            have : (x ++ z).head? = (l.drop i).head? := by
              rw [hx]
              obtain ⟨a, u, rfl⟩ := List.exists_cons_of_ne_nil hxn
              rfl
            rw [this, drop_head]; exact hq
          have hpx : (p ++ x).length = p.length + x.length := List.length_append
          refine ⟨gs, ?_, ?_, ?_⟩
          · rw [readT_on _ p.length c x.length hlen hnq (by rw [hdp]; exact o1), ← hpx, ← List.append_assoc, r1, List.append_assoc, hdp, hgx]
            unfold RT.more
            simp only
            rw [hout, hpx]
            simp [Nat.add_assoc]
          · rw [plT_on _ p.length c x.length hlen hnq (by rw [hdp]; exact o1), hdp, hgx, if_neg (by simp), List.take_left' rfl, ← hpx, ← List.append_assoc, r2]
          · intro b hb
            rcases List.mem_append.1 hb with hb | hb
            · exact oneP_bytes true x (l.drop (i + k)) c hxn hox (fun _ => by rw [← hx]; exact hgp) b hb
            · exact r3 b hb
        · rw [hgp, if_pos rfl] at hpl
          obtain ⟨hc2, _⟩ := isGap_gap true (l.drop i) c k ho hgp rfl
          obtain ⟨gs, r1, r2, r3⟩ := ih l (i + k) (by omega) he2 (p ++ [92, 32, 92])
          rw [hZ] at r1 r2 r3
          rw [hpl]
          obtain ⟨o1, o2⟩ := narrow_gap z
          have hdp : (p ++ ([92, 32, 92] ++ z)).drop p.length = 92 :: 32 :: 92 :: z := List.drop_left' rfl
          have hlen : p.length < (p ++ ([92, 32, 92] ++ z)).length := by simp only [List.length_append, List.length_cons]; omega
          have hnq : (p ++ ([92, 32, 92] ++ z))[p.length]? ≠ some 34 := by
            rw [← drop_head, hdp]; simp
          have hpx : (p ++ [92, 32, 92]).length = p.length + 3 := List.length_append
          refine ⟨(p.length, p.length + 3) :: gs, ?_, ?_, ?_⟩
          · rw [readT_on _ p.length (-2) 3 hlen hnq (by rw [hdp]; exact o1), ← hpx, ← List.append_assoc, r1, List.append_assoc, hdp, o2]
            unfold RT.more
            simp only [if_true]
            rw [hout, if_pos hc2, hpx]
            simp only [RT.mk.injEq, true_and, and_true, List.length_append, List.length_cons, List.length_nil]
            omega
          · rw [plT_on _ p.length (-2) 3 hlen hnq (by rw [hdp]; exact o1), hdp, o2, if_pos rfl, ← hpx, ← List.append_assoc, r2]
          · intro b hb
            rcases List.mem_append.1 hb with hb | hb
            · have : b = 92 ∨ b = 32 := by
                simp only [List.mem_cons, List.not_mem_nil, or_false] at hb
                rcases hb with hb | hb | hb
                · exact .inl hb
                · exact .inr hb
                · exact .inl hb
              rcases this with rfl | rfl <;> decide
            · exact r3 b hb
    · rw [readT_end l _ (by omega)] at he; exact absurd he (by simp)
/-- The gaps that were found, made narrow. -/
theorem plainG_T (n : Nat) : ∀ (l : List UInt8) (i a : Nat), l.length - i ≤ n → a ≤ i → (readT l i).e = 0 → (readT l i).till = l.length → plainG l (readT l i).gaps a = (l.take i).drop a ++ plT l i := by
  induction n with
  | zero => intro l i a h _ he; rw [readT_end l _ (by omega)] at he; exact absurd he (by simp)
  | succ n ih =>
    intro l i a h ha he ht
    by_cases hi : i < l.length
    · by_cases hq : l[i]? = some 34
      · rw [plT_quote l i hq, readT_quote l i hq]
        rw [readT_quote l i hq] at ht
        simp only at ht
        unfold plainG
        have e1 : l.drop i = [34] := by
          obtain ⟨h1, h2⟩ := List.getElem?_eq_some_iff.1 hq
          rw [List.drop_eq_getElem_cons h1, h2, List.drop_of_length_le (by omega)]
        rw [← e1]
        have e2 : l.drop a = (l.take i ++ l.drop i).drop a := by rw [List.take_append_drop]
        rw [e2, List.drop_append_of_le_length (by rw [List.length_take]; omega)]
      · obtain ⟨c, k, ho, h1, h2, hon, he2, hte⟩ := readT_step l i hi hq he
        rw [plT_on l i c k hi hq ho, hon]
        unfold RT.more
        simp only
        cases hgp : isGap (l.drop i)
        · rw [if_neg (by simp), if_neg (by simp), ih l (i + k) a (by omega) (by omega) he2 (by rw [hte]; exact ht), ← List.append_assoc]
          congr 1
          rw [List.take_add, List.drop_append_of_le_length (by rw [List.length_take]; omega)]
        · rw [if_pos rfl, if_pos rfl]
          unfold plainG
          rw [ih l (i + k) (i + k) (by omega) (Nat.le_refl _) he2 (by rw [hte]; exact ht), List.drop_of_length_le (by rw [List.length_take]; omega : (l.take (i + k)).length ≤ i + k), List.nil_append, List.append_assoc]
    · rw [readT_end l _ (by omega)] at he; exact absurd he (by simp)
def plainP (l : List UInt8) : List UInt8 := plainG l (readP l 0).2.gaps 0
theorem whole_cases (l : List UInt8) (h : wholeE l = 0) : (l[0]? = some 34 ∧ readP l 0 = (14, readT l 1) ∧ (readT l 1).e = 0 ∧ (readT l 1).till = l.length) ∨ (l[0]? = some 39 ∧ readP l 0 = (13, readC l 1) ∧ (readC l 1).e = 0 ∧ (readC l 1).till = l.length) := by
  unfold wholeE at h
  by_cases h1 : (0 : Int) ≤ 0 ∧ (0 : Int) < l.length ∧ l[(0 : Int).toNat]? = some 34
  · left
    have hr : readP l 0 = (14, readT l 1) := by unfold readP; rw [if_pos h1]; rfl
    rw [hr] at h
    simp only at h
    split at h
    · contradiction
    · next he =>
      split at h
      · exact absurd h (by decide)
      · next hk => exact ⟨h1.2.2, hr, Decidable.not_not.1 he, by omega⟩
  · by_cases h2 : (0 : Int) ≤ 0 ∧ (0 : Int) < l.length ∧ l[(0 : Int).toNat]? = some 39
    · right
      have hr : readP l 0 = (13, readC l 1) := by unfold readP; rw [if_neg h1, if_pos h2]; rfl
      rw [hr] at h
      simp only at h
      split at h
      · contradiction
      · next he =>
        split at h
        · exact absurd h (by decide)
        · next hk => exact ⟨h2.2.2, hr, Decidable.not_not.1 he, by omega⟩
    · exfalso
      have hr : readP l 0 = (0, ⟨0, 0, [], []⟩) := by unfold readP; rw [if_neg h1, if_neg h2]
      rw [hr] at h
      simp at h
theorem plainP_text (l : List UInt8) (h0 : l[0]? = some 34) (hr : readP l 0 = (14, readT l 1)) (he : (readT l 1).e = 0) (ht : (readT l 1).till = l.length) : plainP l = 34 :: plT l 1 := by
  unfold plainP
  rw [hr]
  simp only
  rw [plainG_T _ l 1 0 (Nat.le_refl _) (by omega) he ht]
  cases l with
  | nil => cases h0
  | cons a l =>
    have : a = 34 := by simpa using h0
    subst this
    rfl
theorem plainP_char (l : List UInt8) (hr : readP l 0 = (13, readC l 1)) (he : (readC l 1).e = 0) : plainP l = l := by
  obtain ⟨c, n, _, _, _, g⟩ := readC_fine l 1 he
  unfold plainP
  rw [hr, g]
  rfl
/-- The law of QuoteMeans, in plain words. -/
theorem means_plain (l : List UInt8) (h : wholeE l = 0) : wholeE (plainP l) = 0 ∧ (readP (plainP l) 0).2.out = (readP l 0).2.out ∧ plainP (plainP l) = plainP l ∧ ∀ b ∈ plainP l, 32 ≤ b.toNat := by
  rcases whole_cases l h with ⟨h0, hr, he, ht⟩ | ⟨h0, hr, he, ht⟩
  · rw [plainP_text l h0 hr he ht]
    obtain ⟨gs, r1, r2, r3⟩ := plT_read _ l 1 (Nat.le_refl _) he [34]
    rw [show ([34] : List UInt8) ++ plT l 1 = 34 :: plT l 1 from rfl, show ([34] : List UInt8).length = 1 from rfl] at r1 r2
    have hr2 : readP (34 :: plT l 1) 0 = (14, readT (34 :: plT l 1) 1) := by unfold readP; rw [if_pos ⟨by omega, by simp only [List.length_cons]; omega, rfl⟩]; rfl
    have ht2 : (readT (34 :: plT l 1) 1).till = (34 :: plT l 1).length := by rw [r1]; simp; omega
    refine ⟨?_, ?_, ?_, ?_⟩
    · unfold wholeE
      rw [hr2]
      simp only
      rw [ht2, r1, if_neg (by simp), if_neg (by simp)]
    · rw [hr2, hr, r1]
    · rw [plainP_text _ rfl hr2 (by rw [r1]) ht2, r2]
    · intro b hb
      rcases List.mem_cons.1 hb with rfl | hb
      · decide
      · exact r3 b hb
  · rw [plainP_char l hr he]
    refine ⟨h, rfl, plainP_char l hr he, ?_⟩
    obtain ⟨c, n, g1, g2, g3, g4⟩ := readC_fine l 1 he
    rw [g4] at ht
    simp only at ht
    obtain ⟨b1, b2⟩ := oneP_bd _ _ _ _ g2
    have hx : l.drop 1 = (l.drop 1).take n ++ l.drop (1 + n) := by rw [← List.drop_drop, List.take_append_drop]
    have hxl : ((l.drop 1).take n).length = n := by rw [List.length_take]; omega
    have hby := oneP_bytes false ((l.drop 1).take n) (l.drop (1 + n)) c (by intro e; rw [e] at hxl; simp at hxl; omega) (by rw [← hx, hxl]; exact g2) (fun h => by cases h)
    intro b hb
    obtain ⟨k, hk, rfl⟩ := List.mem_iff_getElem.1 hb
    by_cases hk0 : k = 0
    · subst hk0
      rw [List.getElem?_eq_getElem hk] at h0
      injection h0 with h0
      rw [h0]; decide
    · by_cases hkn : k = 1 + n
      · subst hkn
        rw [List.getElem?_eq_getElem hk] at g3
        injection g3 with g3
        rw [g3]; decide
      · apply hby
        rw [List.mem_iff_getElem]
        refine ⟨k - 1, by omega, ?_⟩
        rw [List.getElem_take, List.getElem_drop]
        congr 1
        omega
end Go.Proofs.YtmgnpgbganjgfaaDoor
