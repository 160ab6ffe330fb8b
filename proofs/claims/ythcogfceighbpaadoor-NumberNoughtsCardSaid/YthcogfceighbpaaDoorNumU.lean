/- DERIVED. PLAIN: a broken number's parts; that the program's and the document's digits and tens are the same. -/
import Derived.Test.YthcogfceighbpaaDoorNumG
import Derived.Test.YthcogfceighbpaaDoorRefNumE
import Derived.Test.YthcogfceighbpaaDoorNumW
set_option linter.unusedSimpArgs false
set_option linter.unusedVariables false
namespace Go.Proofs.YthcogfceighbpaaDoor

/-- What a broken number consists of: d digits; a point and g digits, or neither; then no exponent, or one whose sign ends at P + q. -/
structure Parts (l : List UInt8) (d g P : Nat) : Prop where
  hd : digN 10 l = d
  d0 : 0 < d
  dl : d < l.length
  pt : (l[d]? = some 46 ∧ digN 10 (l.drop (d + 1)) = g ∧ 0 < g ∧ P = d + 1 + g) ∨ (l[d]? ≠ some 46 ∧ g = 0 ∧ P = d)
  pl : P ≤ l.length
  ex : P = l.length ∨ ((l[P]? = some 101 ∨ l[P]? = some 69) ∧ ∃ q, P + q < l.length ∧ ((q = 2 ∧ (l[P + 1]? = some 43 ∨ l[P + 1]? = some 45)) ∨ (q = 1 ∧ ¬ (l[P + 1]? = some 43 ∨ l[P + 1]? = some 45))) ∧ digN 10 (l.drop (P + q)) = l.length - (P + q))
theorem float_parts (l : List UInt8) (h : isK 12 l = true) : ∃ d g P, Parts l d g P := by
  unfold isK at h
  simp only [Bool.and_eq_true, decide_eq_true_eq] at h
  obtain ⟨h1, h2⟩ := h
  have hpx : prefX l = (10, 0) := by
    rcases prefX_base l with hp | hp | hp
    · exact hp
    all_goals
      unfold scanX at h1
      rw [hp] at h1
      simp at h1
  have hd0 : digN 10 l ≠ 0 := by
    intro hd
    unfold scanX at h1
    rw [hpx] at h1
    simp only [show ((0 : Nat) = 2) = False from by simp, if_false, hd, if_true] at h1
    cases h1
  rw [scanX_dec l hpx hd0] at h1 h2
  have hdl := digN_le 10 l
  obtain ⟨d, hd⟩ : ∃ d, digN 10 l = d := ⟨_, rfl⟩
  rw [hd] at h1 h2 hd0 hdl
  obtain ⟨⟨k1, P⟩, hP⟩ : ∃ p, pointX l d = p := ⟨_, rfl⟩
  rw [hP] at h1 h2
  simp only at h1 h2
  have hex : (k1 = 12 ∧ P = l.length ∧ ¬ 0 < expX (l.drop P)) ∨ (0 < expX (l.drop P) ∧ P + expX (l.drop P) = l.length) := by
    unfold postX at h1 h2
    by_cases hx : 0 < expX (l.drop P)
    · rw [if_pos hx] at h2; exact .inr ⟨hx, h2⟩
    · rw [if_neg hx] at h1 h2; exact .inl ⟨h1, h2, hx⟩
  have hpt : (k1 = 12 ∧ l[d]? = some 46 ∧ 0 < digN 10 (l.drop (d + 1)) ∧ P = d + 1 + digN 10 (l.drop (d + 1))) ∨ (k1 = 11 ∧ P = d) := by
    unfold pointX at hP
    split at hP
    · next hc => injection hP with a b; exact .inl ⟨a.symm, hc.1, hc.2, b.symm⟩
    · injection hP with a b; exact .inr ⟨a.symm, b.symm⟩
  have hE : P = l.length ∨ ((l[P]? = some 101 ∨ l[P]? = some 69) ∧ ∃ q, P + q < l.length ∧ ((q = 2 ∧ (l[P + 1]? = some 43 ∨ l[P + 1]? = some 45)) ∨ (q = 1 ∧ ¬ (l[P + 1]? = some 43 ∨ l[P + 1]? = some 45))) ∧ digN 10 (l.drop (P + q)) = l.length - (P + q)) := by
    rcases hex with ⟨_, h, _⟩ | ⟨hx, ht⟩
    · exact .inl h
    · right
      rw [expX_at] at hx ht
      by_cases he : l[P]? = some 101 ∨ l[P]? = some 69
      · rw [if_pos he] at hx ht
        refine ⟨he, ?_⟩
        by_cases hsg : l[P + 1]? = some 43 ∨ l[P + 1]? = some 45
        · simp only [if_pos hsg] at hx ht
          by_cases hg0 : digN 10 (l.drop (P + 2)) = 0
          · rw [if_pos hg0] at hx; cases hx
          · rw [if_neg hg0] at ht
            exact ⟨2, by omega, .inl ⟨rfl, hsg⟩, by omega⟩
        · simp only [if_neg hsg] at hx ht
          by_cases hg0 : digN 10 (l.drop (P + 1)) = 0
          · rw [if_pos hg0] at hx; cases hx
          · rw [if_neg hg0] at ht
            exact ⟨1, by omega, .inr ⟨rfl, hsg⟩, by omega⟩
      · rw [if_neg he] at hx; cases hx
  have hPl : P ≤ l.length := by
    rcases hE with h | ⟨_, q, h, _⟩ <;> omega
  rcases hpt with ⟨rfl, ha, hb, hc⟩ | ⟨rfl, hc⟩
  · have hdlt := (List.getElem?_eq_some_iff.1 ha).1
    exact ⟨d, digN 10 (l.drop (d + 1)), P, hd, Nat.pos_of_ne_zero hd0, hdlt, .inl ⟨ha, rfl, hb, hc⟩, hPl, hE⟩
  · rcases hE with h | ⟨he, q, hq, hr⟩
    · exfalso
      rcases hex with ⟨h12, _⟩ | ⟨hx, ht⟩
      · cases h12
      · omega
    · refine ⟨d, 0, P, hd, Nat.pos_of_ne_zero hd0, by omega, .inr ⟨?_, rfl, hc⟩, hPl, .inr ⟨he, q, hq, hr⟩⟩
      rw [← hc]
      rcases he with he | he <;> rw [he] <;> decide
theorem digs_at (l : List UInt8) (i n : Nat) (h : n ≤ digN 10 (l.drop i)) : ∀ k, i ≤ k → k < i + n → ∃ b, l[k]? = some b ∧ 48 ≤ b.toNat ∧ b.toNat ≤ 57 := fun k h1 h2 => by
  obtain ⟨hl, hg⟩ := digN_all 10 (l.drop i) (k - i) (by omega)
  rw [List.getElem_drop] at hg
  have e : i + (k - i) = k := by omega
  simp only [e] at hg
  have hl2 : k < l.length := by rw [List.length_drop] at hl; omega
  exact ⟨l[k], List.getElem?_eq_getElem hl2, dig10 _ hg⟩
theorem Parts.digs {l : List UInt8} {d g P : Nat} (p : Parts l d g P) : (∀ k, k < d → ∃ b, l[k]? = some b ∧ 48 ≤ b.toNat ∧ b.toNat ≤ 57) ∧ (∀ k, d + 1 ≤ k → k < d + 1 + g → ∃ b, l[k]? = some b ∧ 48 ≤ b.toNat ∧ b.toNat ≤ 57) := by
  refine ⟨fun k hk => digs_at l 0 d (by rw [List.drop_zero, p.hd]; exact Nat.le_refl _) k (by omega) (by omega), fun k h1 h2 => digs_at l (d + 1) g ?_ k h1 h2⟩
  rcases p.pt with ⟨_, h, _⟩ | ⟨_, h, _⟩ <;> omega
theorem Parts.expE {l : List UInt8} {d g P : Nat} (p : Parts l d g P) : expE l = P := by
  obtain ⟨h1, h2⟩ := p.digs
  have hno : ∀ (k : Nat) b, k < P → l[k]? = some b → ([101, 69] : List UInt8).contains b = false := fun k b hk hb => by
    have hc : (48 ≤ b.toNat ∧ b.toNat ≤ 57) ∨ b = 46 := by
      by_cases hk1 : k < d
      · obtain ⟨c, hc, hc2⟩ := h1 k hk1
        rw [hb] at hc; injection hc with hc; subst hc; exact .inl hc2
      · rcases p.pt with ⟨ha, _, _, hP⟩ | ⟨_, _, hP⟩
        · by_cases hk2 : k = d
          · subst hk2; rw [hb] at ha; injection ha with ha; exact .inr ha
          · obtain ⟨c, hc, hc2⟩ := h2 k (by omega) (by omega)
            rw [hb] at hc; injection hc with hc; subst hc; exact .inl hc2
        · omega
    have e1 : b ≠ 101 := by intro e; subst e; rcases hc with hc | hc <;> revert hc <;> decide
    have e2 : b ≠ 69 := by intro e; subst e; rcases hc with hc | hc <;> revert hc <;> decide
    simp [e1, e2]
  rcases p.ex with hP | ⟨he, _⟩
  · have hi := ixany_none [101, 69] l (fun k b hb => hno k b (by have := (List.getElem?_eq_some_iff.1 hb).1; omega) hb)
    unfold Go.Proofs.YthcogfceighbpaaDoor.expE; rw [hi, if_pos (by decide), hP]
  · obtain ⟨c, hc, hcc⟩ : ∃ c, l[P]? = some c ∧ ([101, 69] : List UInt8).contains c = true := by
      rcases he with he | he
      · exact ⟨101, he, by decide⟩
      · exact ⟨69, he, by decide⟩
    have hi := ixany_at [101, 69] c hcc P l hno hc
    unfold Go.Proofs.YthcogfceighbpaaDoor.expE; rw [hi, if_neg (by omega), Int.toNat_natCast]
theorem ixbyte_at (c : UInt8) : ∀ (P : Nat) (l : List UInt8), (∀ (k : Nat) b, k < P → l[k]? = some b → b ≠ c) → l[P]? = some c → Lib.indexByte l c = P := by
  intro P
  induction P with
  | zero =>
    intro l _ hb
    cases l with
    | nil => simp at hb
    | cons a t =>
      have : a = c := by simpa using hb
      subst this
      unfold Lib.indexByte; simp
  | succ P ih =>
    intro l h hb
    cases l with
    | nil => simp at hb
    | cons a t =>
      have h0 := h 0 a (by omega) rfl
      have ht := ih t (fun k b hk hb => h (k + 1) b (by omega) (by simpa using hb)) (by simpa using hb)
      unfold Lib.indexByte
      simp only [ht]
      rw [if_neg (by simpa using h0), if_neg (by simp <;> omega)]
      simp
theorem ixbyte_none (c : UInt8) (l : List UInt8) (h : ∀ (k : Nat) b, l[k]? = some b → b ≠ c) : Lib.indexByte l c = -1 := by
  induction l with
  | nil => rfl
  | cons a t ih =>
    have h0 := h 0 a rfl
    have ht := ih (fun k b hb => h (k + 1) b (by simpa using hb))
    unfold Lib.indexByte
    simp only [ht]
    rw [if_neg (by simpa using h0)]; rfl
/-- The digits without the point. -/
def allX (l : List UInt8) (d g : Nat) : List UInt8 := l.take d ++ (l.drop (d + 1)).take g
theorem Parts.cut {l : List UInt8} {d g P : Nat} (p : Parts l d g P) : cutX (l.take P) = (l.take d, (l.drop (d + 1)).take g) := by
  obtain ⟨h1, h2⟩ := p.digs
  have hn : ∀ (k : Nat) b, k < d → l[k]? = some b → b ≠ 46 := fun k b hk hb e => by
    obtain ⟨c, hc, hc2⟩ := h1 k hk
    rw [hb] at hc; injection hc with hc; subst hc; subst e; revert hc2; decide
  unfold cutX
  rcases p.pt with ⟨ha, _, h0, hP⟩ | ⟨ha, h0, hP⟩
  · have hi := ixbyte_at 46 d (l.take P) (fun k b hk hb => hn k b hk (take_some hb)) (by rw [take_get, if_pos (by omega)]; exact ha)
    rw [hi, if_pos (by omega), Int.toNat_natCast, List.take_take, drop_take', show min d P = d from by omega, show P - (d + 1) = g from by omega]
  · have hi := ixbyte_none 46 (l.take P) (fun k b hb => by
      have hk := (List.getElem?_eq_some_iff.1 hb).1
      rw [List.length_take] at hk
      exact hn k b (by omega) (take_some hb))
    rw [hi, if_neg (by omega), h0, List.take_zero, hP]
/-- A digit of an exponent. -/
theorem powL_dig (c : UInt8) (t : List UInt8) (v sg : Int) (h : 48 ≤ c.toNat ∧ c.toNat ≤ 57) : powL (c :: t) v sg = if 1000000000 < v * 10 + (c.toNat : Int) - 48 then none else powL t (v * 10 + (c.toNat : Int) - 48) sg := by
  rw [powL, if_neg (by intro e; subst e; revert h; decide), if_neg (by intro e; subst e; revert h; decide), show v * 10 + ((c.toNat : Int) - 48) = v * 10 + (c.toNat : Int) - 48 from by omega]
/-- What the exponent is worth. -/
def expV (l : List UInt8) (P : Nat) : Option Int := if P = l.length then some 0 else powL (l.drop (P + 1)) 0 1
theorem Parts.float {l : List UInt8} {d g P : Nat} (p : Parts l d g P) (hI : isK 12 l = true) (hl : l.length ≤ 1000) :
    floatX l = match expV l P with | none => ([], 0, 3) | some x => ((shortX (allX l d g) (x - g)).1, (shortX (allX l d g) (x - g)).2, 0) := by
  have he := p.expE
  have hg : ((l.drop (d + 1)).take g).length = g := by
    rw [List.length_take, List.length_drop]
    have := p.dl
    have := p.pl
    rcases p.pt with ⟨_, _, _, hP⟩ | ⟨_, h0, hP⟩ <;> omega
  unfold floatX expP expV
  rw [if_pos hI, if_neg (by omega), he, p.cut]
  simp only [hg]
  rfl
theorem Parts.sign {l : List UInt8} {P q : Nat} (hq : P + q < l.length) (h : (q = 2 ∧ (l[P + 1]? = some 43 ∨ l[P + 1]? = some 45)) ∨ (q = 1 ∧ ¬ (l[P + 1]? = some 43 ∨ l[P + 1]? = some 45))) :
    (q = 2 ∧ l[P + 1]? = some 43 ∧ expV l P = powL (l.drop (P + 2)) 0 1) ∨ (q = 2 ∧ l[P + 1]? = some 45 ∧ expV l P = powL (l.drop (P + 2)) 0 (-1)) ∨ (q = 1 ∧ l[P + 1]? ≠ some 43 ∧ l[P + 1]? ≠ some 45 ∧ expV l P = powL (l.drop (P + 1)) 0 1) := by
  unfold expV
  rw [if_neg (by omega)]
  have hd := List.drop_eq_getElem_cons (show P + 1 < l.length by omega)
  have hg := List.getElem?_eq_getElem (show P + 1 < l.length by omega)
  rcases h with ⟨h, hs | hs⟩ | ⟨h, hs⟩
  · left
    rw [hg] at hs; injection hs with hs
    exact ⟨h, by rw [hg, hs], by rw [hd, hs, powL, if_pos rfl]⟩
  · right; left
    rw [hg] at hs; injection hs with hs
    exact ⟨h, by rw [hg, hs], by rw [hd, hs, powL, if_neg (by decide), if_pos rfl]⟩
  · right; right
    exact ⟨h, fun h => hs (.inl h), fun h => hs (.inr h), rfl⟩

/-- Without noughts ahead: the program's way and the document's. -/
theorem bare_trim (l : List UInt8) (h : l ≠ []) : bareL l = if Lib.trimLeftB l 48 = [] then [48] else Lib.trimLeftB l 48 := by
  induction l with
  | nil => exact absurd rfl h
  | cons a t ih =>
    unfold Lib.trimLeftB at ih ⊢
    by_cases ha : a = 48
    · have hw : List.dropWhile (fun x => x == 48) (a :: t) = List.dropWhile (fun x => x == 48) t := by rw [List.dropWhile_cons, if_pos (by simpa using ha)]
      rw [hw]
      cases t with
      | nil => subst ha; rfl
      | cons b r => rw [bareL, if_pos ha]; exact ih (by simp)
    · have hw : List.dropWhile (fun x => x == 48) (a :: t) = a :: t := by rw [List.dropWhile_cons, if_neg (by simpa using ha)]
      rw [hw, if_neg (by simp)]
      cases t with
      | nil => rw [bareL]
      | cons b r => rw [bareL, if_neg ha]
theorem trimLeft_head (l : List UInt8) (c b : UInt8) (h : (Lib.trimLeftB l c)[0]? = some b) : b ≠ c := by
  unfold Lib.trimLeftB at h
  induction l with
  | nil => simp at h
  | cons a t ih =>
    rw [List.dropWhile_cons] at h
    split at h
    · exact ih h
    · next hn =>
      have : a = b := by simpa using h
      subst this; simpa using hn
theorem trimRight_snoc (l : List UInt8) (c b : UInt8) : Lib.trimRightB (l ++ [b]) c = if b = c then Lib.trimRightB l c else l ++ [b] := by
  unfold Lib.trimRightB
  rw [List.reverse_append, List.reverse_singleton, List.singleton_append, List.dropWhile_cons]
  by_cases h : b = c
  · rw [if_pos h, if_pos (by simpa using h)]
  · rw [if_neg h, if_neg (by simpa using h)]; simp
/-- Without noughts at the end: the same, where the head is none. -/
theorem strip_trim (l : List UInt8) (h : ∀ b, l[0]? = some b → b ≠ 48) : ∀ n, n ≤ l.length → l.take (stripN l n) = Lib.trimRightB (l.take n) 48 ∧ (stripN l n = (Lib.trimRightB (l.take n) 48).length) := by
  intro n
  induction n with
  | zero => intro _; simp [stripN, Lib.trimRightB]
  | succ n ih =>
    intro hn
    obtain ⟨ih1, ih2⟩ := ih (by omega)
    have ht := List.take_succ_eq_append_getElem (show n < l.length by omega)
    rw [stripN, List.getElem?_eq_getElem (show n < l.length by omega), ht, trimRight_snoc]
    by_cases h48 : l[n] = 48
    · have hn0 : n ≠ 0 := by
        rintro rfl
        exact h _ (List.getElem?_eq_getElem (by omega)) h48
      rw [if_pos ⟨by omega, by rw [h48]⟩, if_pos h48]
      exact ⟨ih1, ih2⟩
    · rw [if_neg (fun h => h48 (by injection h.2)), if_neg h48]
      refine ⟨ht, ?_⟩
      rw [List.length_append, List.length_take, List.length_singleton]; omega
theorem short_doc (l : List UInt8) (h : l ≠ []) (x : Int) : (if bareL l = [48] then ([48], 0) else ((bareL l).take (stripN (bareL l) (bareL l).length), x + ((bareL l).length - stripN (bareL l) (bareL l).length : Nat))) = shortX l x := by
  rw [bare_trim l h]
  unfold shortX
  have hh := trimLeft_head l 48
  generalize Lib.trimLeftB l 48 = t at *
  by_cases h0 : t = []
  · rw [if_pos h0, if_pos rfl, if_pos h0]
  · rw [if_neg h0, if_neg h0, if_neg (by rintro rfl; exact hh 48 rfl rfl)]
    obtain ⟨h1, h2⟩ := strip_trim t hh t.length (Nat.le_refl _)
    rw [List.take_length] at h1 h2
    have hle := stripN_le t t.length
    rw [h1, ← h2]
    congr 1
    omega
end Go.Proofs.YthcogfceighbpaaDoor
