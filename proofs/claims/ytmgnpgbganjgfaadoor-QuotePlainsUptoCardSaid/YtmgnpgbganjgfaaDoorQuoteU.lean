/- DERIVED. PLAIN: what characters are written as means these characters. -/
import Derived.Test.YtmgnpgbganjgfaaDoorQuoteR
import Derived.Lib.ItoaNum
set_option linter.unusedSimpArgs false
set_option linter.unusedVariables false
namespace Go.Proofs.YtmgnpgbganjgfaaDoor

def isD (c : Int) : Bool := decide (48 ≤ c) && decide (c ≤ 57)
def isNumW (c : Int) : Bool := !(decide (7 ≤ c) && decide (c ≤ 13)) && (decide (c < 32) || decide (126 < c))
def lettersL : List UInt8 := [97, 98, 116, 110, 118, 102, 114]
/-- One character, written. -/
def pieceW (c : Int) : List UInt8 :=
  if 7 ≤ c ∧ c ≤ 13 then [92, lettersL.getD (c - 7).toNat 0]
  else if c < 32 ∨ 126 < c then 92 :: Lib.decDigits c.toNat
  else if c = 34 ∨ c = 92 then [92, UInt8.ofNat c.toNat] else [UInt8.ofNat c.toNat]
def bodyW : Bool → List Int → List UInt8
  | _, [] => []
  | num, c :: t => (if (num && isD c) = true then [92, 38] else []) ++ pieceW c ++ bodyW (isNumW c) t
def inW (c : Int) : Bool := decide (0 ≤ c) && decide (c ≤ 1114111)
/-- The text of characters. -/
def writeP (l : List Int) : Option (List UInt8) := if l.all inW = true then some (34 :: (bodyW false l ++ [34])) else none

theorem digit10 (k : Nat) (h : k < 10) : digB 10 (UInt8.ofNat (48 + k)) = true ∧ dig ((UInt8.ofNat (48 + k)).toNat : Int) 10 = k := by
  have hall : ∀ k : Fin 10, digB 10 (UInt8.ofNat (48 + k.val)) = true ∧ dig ((UInt8.ofNat (48 + k.val)).toNat : Int) 10 = (k.val : Int) := by decide +kernel
  exact hall ⟨k, h⟩
theorem valP_snoc (base : Int) (x : List UInt8) (b : UInt8) : valP base (x ++ [b]) = numV base (valP base x) b := by
  unfold valP; rw [List.foldl_append]; rfl
theorem dec_val (n : Nat) : ∀ u : Nat, u ≤ n → u ≤ 1114111 → (∀ b ∈ Lib.decDigits u, digB 10 b = true) ∧ valP 10 (Lib.decDigits u) = u ∧ Lib.decDigits u ≠ [] := by
  induction n with
  | zero =>
    intro u h _
    obtain rfl : u = 0 := by omega
    rw [Lib.decDigits_one (by decide)]
    refine ⟨?_, by decide +kernel, by simp⟩
    intro b hb
    have : b = 48 := by simpa using hb
    rw [this]; decide +kernel
  | succ n ih =>
    intro u h hu
    rw [Lib.decDigits]
    split
    · next h10 =>
      obtain ⟨d1, d2⟩ := digit10 u h10
      refine ⟨?_, ?_, by simp⟩
      · intro b hb
        rw [List.mem_singleton.1 hb]; exact d1
      · show numV 10 0 _ = _
        unfold numV
        rw [d2]; omega
    · obtain ⟨h1, h2, h3⟩ := ih (u / 10) (by omega) (by omega)
      obtain ⟨d1, d2⟩ := digit10 (u % 10) (by omega)
      refine ⟨?_, ?_, by simp⟩
      · intro b hb
        rcases List.mem_append.1 hb with hb | hb
        · exact h1 b hb
        · rw [List.mem_singleton.1 hb]; exact d1
      · rw [valP_snoc, h2]
        unfold numV
        rw [d2]; omega
theorem numP_dec (u : Nat) (hu : u ≤ 1114111) (y : List UInt8) (hy : ∀ b, y.head? = some b → digB 10 b = false) : numP 10 (Lib.decDigits u ++ y) = some ((u : Int), (Lib.decDigits u).length) := by
  obtain ⟨h1, h2, h3⟩ := dec_val u u (Nat.le_refl _) hu
  unfold numP
  rw [tw_app _ _ y h1 hy, h2, if_pos ⟨h3, by omega⟩]
theorem signP_digit (b : UInt8) (h : digB 10 b = true) : 48 ≤ b.toNat ∧ b.toNat ≤ 57 ∧ signP b = none ∧ b ≠ 38 ∧ b ≠ 94 ∧ b ≠ 111 ∧ b ≠ 120 ∧ b ≠ 92 := by
  have hall : ∀ k : Fin 256, digB 10 (UInt8.ofNat k.val) = true → 48 ≤ k.val ∧ k.val ≤ 57 ∧ signP (UInt8.ofNat k.val) = none ∧ UInt8.ofNat k.val ≠ 38 ∧ UInt8.ofNat k.val ≠ 94 ∧ UInt8.ofNat k.val ≠ 111 ∧ UInt8.ofNat k.val ≠ 120 ∧ UInt8.ofNat k.val ≠ 92 := by decide +kernel
  have := hall ⟨b.toNat, b.toNat_lt⟩
  simp only [UInt8.ofNat_toNat] at this
  exact this h
theorem escP_dec (u : Nat) (hu : u ≤ 1114111) (y : List UInt8) (hy : ∀ b, y.head? = some b → digB 10 b = false) : escP (Lib.decDigits u ++ y) = some ((u : Int), (Lib.decDigits u).length) := by
  have hn := numP_dec u hu y hy
  obtain ⟨h1, h2, h3⟩ := dec_val u u (Nat.le_refl _) hu
  obtain ⟨b, t, e⟩ := List.exists_cons_of_ne_nil h3
  obtain ⟨s1, s2, s3, s4, s5, s6, s7, _⟩ := signP_digit b (h1 b (by rw [e]; exact List.mem_cons_self))
  rw [e] at hn ⊢
  rw [List.cons_append] at hn ⊢
  rw [escP_cons]
  unfold escC
  rw [s3]
  simp only
  rw [if_neg s4, if_neg s5, if_neg s6, if_neg s7, if_pos ⟨s1, s2⟩, hn]
/-- A byte that is written as it is. -/
theorem one_self (b : UInt8) (y : List UInt8) (h : 32 ≤ b.toNat ∧ b.toNat ≤ 126) (h2 : b ≠ 92) : oneP true (b :: y) = .ok ((b.toNat : Int), 1) := by
  have hd : dec (b :: y) = (b.toNat, 1) := by have := dec_ascii (b :: y) (by simp; omega); simpa using this
  have hbd : badC (b.toNat, 1) = false := by
    have hall : ∀ k : Fin 127, 32 ≤ k.val → badC (k.val, 1) = false := by decide +kernel
    exact hall ⟨b.toNat, by omega⟩ h.1
  rw [oneP_cons]
  unfold oneC
  rw [if_neg h2, hd, hbd, if_neg (by simp)]
theorem one_esc (b : UInt8) (y : List UInt8) (v : Int) (n : Nat) (h : escP (b :: y) = some (v, n)) : oneP true (92 :: b :: y) = .ok (v, n + 1) ∧ isGap (92 :: b :: y) = false := by
  have hg := gapP_not b y (escP_head b y _ h)
  constructor
  · rw [oneP_cons]
    unfold oneC
    rw [if_pos rfl, if_neg (by omega), h]
    simp
  · simp only [isGap_cons]
    rw [hg]; decide
theorem letters_sign : ∀ k : Fin 7, signP (lettersL.getD k.val 0) = some ((k.val : Int) + 7) := by decide +kernel
/-- One character that is written means itself. -/
theorem piece_read (c : Int) (hc : inW c = true) (y : List UInt8) (hy : isNumW c = true → ∀ b, y.head? = some b → digB 10 b = false) :
    oneP true (pieceW c ++ y) = .ok (c, (pieceW c).length) ∧ isGap (pieceW c ++ y) = false ∧ pieceW c ≠ [] ∧ (pieceW c).head? ≠ some 34 ∧ (isD c = false → ∀ b, (pieceW c).head? = some b → digB 10 b = false) := by
  unfold inW at hc
  simp only [Bool.and_eq_true, decide_eq_true_eq] at hc
  have h92 : digB 10 92 = false := by decide +kernel
  unfold pieceW
  by_cases c1 : 7 ≤ c ∧ c ≤ 13
  · rw [if_pos c1]
    have hs := letters_sign ⟨(c - 7).toNat, by omega⟩
    simp only at hs
    have he : escP (lettersL.getD (c - 7).toNat 0 :: y) = some (c, 1) := by
      rw [escP_cons]
      unfold escC
      rw [hs]
      simp only [Option.some.injEq, Prod.mk.injEq, and_true]
      omega
    obtain ⟨o1, o2⟩ := one_esc _ y c 1 he
    refine ⟨o1, o2, by simp, by simp, fun _ b hb => ?_⟩
    injection hb with hb
    subst hb
    exact h92
  rw [if_neg c1]
  by_cases c2 : c < 32 ∨ 126 < c
  · rw [if_pos c2]
    have hn : isNumW c = true := by unfold isNumW; simp; omega
    have he := escP_dec c.toNat (by omega) y (hy hn)
    obtain ⟨_, _, h3⟩ := dec_val c.toNat c.toNat (Nat.le_refl _) (by omega)
    obtain ⟨b, t, e⟩ := List.exists_cons_of_ne_nil h3
    rw [e] at he ⊢
    rw [List.cons_append] at he
    obtain ⟨o1, o2⟩ := one_esc b (t ++ y) _ _ he
    refine ⟨?_, o2, by simp, by simp, fun _ b hb => ?_⟩
    · rw [show ((c.toNat : Nat) : Int) = c from by omega] at o1
      exact o1
    · injection hb with hb
      subst hb
      exact h92
  rw [if_neg c2]
  have hb : (UInt8.ofNat c.toNat).toNat = c.toNat := by rw [UInt8.toNat_ofNat']; omega
  by_cases c3 : c = 34 ∨ c = 92
  · rw [if_pos c3]
    have he : escP (UInt8.ofNat c.toNat :: y) = some (c, 1) := by
      rcases c3 with rfl | rfl <;> rfl
    obtain ⟨o1, o2⟩ := one_esc _ y c 1 he
    refine ⟨o1, o2, by simp, by simp, fun _ b hb => ?_⟩
    injection hb with hb
    subst hb
    exact h92
  rw [if_neg c3]
  have hne : UInt8.ofNat c.toNat ≠ 92 := by intro e; have := congrArg UInt8.toNat e; rw [hb] at this; have h := this; simp at h; omega
  have hne2 : UInt8.ofNat c.toNat ≠ 34 := by intro e; have := congrArg UInt8.toNat e; rw [hb] at this; have h := this; simp at h; omega
  have ho := one_self (UInt8.ofNat c.toNat) y (by omega) hne
  rw [hb, show ((c.toNat : Nat) : Int) = c from by omega] at ho
  refine ⟨ho, ?_, by simp, by simpa using hne2, fun hd b hb2 => ?_⟩
  · show isGap (UInt8.ofNat c.toNat :: y) = false
    simp only [isGap_cons]
    rw [decide_eq_false hne]; rfl
  · injection hb2 with hb2
    subst hb2
    cases hq : digB 10 (UInt8.ofNat c.toNat)
    · rfl
    · obtain ⟨s1, s2, _⟩ := signP_digit _ hq
      unfold isD at hd
      simp only [Bool.and_eq_false_iff, decide_eq_false_iff_not] at hd
      omega
theorem amp_read (y : List UInt8) : oneP true (92 :: 38 :: y) = .ok (-2, 2) ∧ isGap (92 :: 38 :: y) = false := one_esc 38 y (-2) 1 rfl
/-- What is written is read. -/
theorem body_read (l : List Int) : ∀ (num : Bool) (p : List UInt8), l.all inW = true →
    readT (p ++ (bodyW num l ++ [34])) p.length = ⟨0, p.length + (bodyW num l).length + 1, l, []⟩ ∧ (num = true → ∀ b, (bodyW num l ++ [34]).head? = some b → digB 10 b = false) := by
  have h92 : digB 10 92 = false := by decide +kernel
  induction l with
  | nil =>
    intro num p _
    have hg : (p ++ (bodyW num [] ++ [34]))[p.length]? = some 34 := by simp [bodyW]
    refine ⟨by rw [readT_quote _ _ hg]; rfl, fun _ b hb => ?_⟩
    have : b = 34 := by simp [bodyW] at hb; exact hb.symm
    subst this
    decide +kernel
  | cons c t ih =>
    intro num p hall
    rw [List.all_cons, Bool.and_eq_true] at hall
    have hstep : ∀ p : List UInt8, readT (p ++ (pieceW c ++ bodyW (isNumW c) t ++ [34])) p.length = ⟨0, p.length + (pieceW c ++ bodyW (isNumW c) t).length + 1, c :: t, []⟩ := by
      intro p
      have hIH := ih (isNumW c) (p ++ pieceW c) hall.2
      obtain ⟨o1, o2, o3, o4, _⟩ := piece_read c hall.1 (bodyW (isNumW c) t ++ [34]) hIH.2
      have hdp : (p ++ (pieceW c ++ bodyW (isNumW c) t ++ [34])).drop p.length = pieceW c ++ (bodyW (isNumW c) t ++ [34]) := by rw [List.drop_left' rfl, List.append_assoc]
      have hpl := List.length_pos_iff.2 o3
      have hlen : p.length < (p ++ (pieceW c ++ bodyW (isNumW c) t ++ [34])).length := by simp only [List.length_append]; omega
      have hnq : (p ++ (pieceW c ++ bodyW (isNumW c) t ++ [34]))[p.length]? ≠ some 34 := by
        rw [← List.head?_drop, hdp]
        obtain ⟨a, u, e⟩ := List.exists_cons_of_ne_nil o3
        rw [e] at o4 ⊢
        exact o4
      have hc2 : c ≠ -2 := by
        have := hall.1
        unfold inW at this
        simp only [Bool.and_eq_true, decide_eq_true_eq] at this
        omega
      have h1 := hIH.1
      rw [List.length_append] at h1
      rw [readT_on _ p.length c _ hlen hnq (by rw [hdp]; exact o1), hdp, o2, List.append_assoc (pieceW c), ← List.append_assoc p, h1]
      unfold RT.more
      simp only [RT.mk.injEq, true_and]
      refine ⟨by rw [List.length_append]; omega, by rw [if_neg hc2], by simp⟩
    cases hamp : num && isD c
    · have hb : bodyW num (c :: t) = pieceW c ++ bodyW (isNumW c) t := by
        show (if (num && isD c) = true then [92, 38] else []) ++ pieceW c ++ bodyW (isNumW c) t = _
        rw [hamp]; rfl
      rw [hb]
      refine ⟨hstep p, fun hn b hb2 => ?_⟩
      subst hn
      rw [Bool.true_and] at hamp
      obtain ⟨_, _, o3, _, o5⟩ := piece_read c hall.1 (bodyW (isNumW c) t ++ [34]) (ih (isNumW c) [] hall.2).2
      obtain ⟨a, u, e⟩ := List.exists_cons_of_ne_nil o3
      rw [e] at hb2 o5
      exact o5 hamp b hb2
    · have hb : bodyW num (c :: t) = 92 :: 38 :: (pieceW c ++ bodyW (isNumW c) t) := by
        show (if (num && isD c) = true then [92, 38] else []) ++ pieceW c ++ bodyW (isNumW c) t = _
        rw [hamp]; rfl
      rw [hb]
      refine ⟨?_, fun _ b hb2 => ?_⟩
      · obtain ⟨o1, o2⟩ := amp_read (pieceW c ++ bodyW (isNumW c) t ++ [34])
        have hdp : (p ++ (92 :: 38 :: (pieceW c ++ bodyW (isNumW c) t) ++ [34])).drop p.length = 92 :: 38 :: (pieceW c ++ bodyW (isNumW c) t ++ [34]) := List.drop_left' rfl
        have hlen : p.length < (p ++ (92 :: 38 :: (pieceW c ++ bodyW (isNumW c) t) ++ [34])).length := by simp only [List.length_append, List.length_cons]; omega
        have hnq : (p ++ (92 :: 38 :: (pieceW c ++ bodyW (isNumW c) t) ++ [34]))[p.length]? ≠ some 34 := by
          rw [← List.head?_drop, hdp]; simp
        have h1 := hstep (p ++ [92, 38])
        have ha : p ++ [92, 38] ++ (pieceW c ++ bodyW (isNumW c) t ++ [34]) = p ++ (92 :: 38 :: (pieceW c ++ bodyW (isNumW c) t) ++ [34]) := by simp
        have hpl : (p ++ [92, 38]).length = p.length + 2 := List.length_append
        rw [ha, hpl] at h1
        rw [readT_on _ p.length (-2) 2 hlen hnq (by rw [hdp]; exact o1), hdp, o2, h1]
        unfold RT.more
        simp only [RT.mk.injEq, true_and]
        refine ⟨by simp only [List.length_cons]; omega, by simp, by simp⟩
      · injection hb2 with hb2
        subst hb2
        exact h92
/-- The law of QuoteBack, in plain words. -/
theorem back_lit (l : List Int) (t : List UInt8) (h : writeP l = some t) : readP t 0 = (14, ⟨0, t.length, l, []⟩) ∧ wholeE t = 0 := by
  unfold writeP at h
  split at h
  · next hall =>
    injection h with h
    have hb := (body_read l false [34] hall).1
    rw [show ([34] : List UInt8) ++ (bodyW false l ++ [34]) = t from h, show ([34] : List UInt8).length = 1 from rfl] at hb
    have ht : t.length = 1 + (bodyW false l).length + 1 := by rw [← h]; simp; omega
    rw [← ht] at hb
    have hr : readP t 0 = (14, ⟨0, t.length, l, []⟩) := by
      unfold readP
      rw [if_pos ⟨by omega, by omega, by rw [← h]; rfl⟩]
      rw [show (0 : Int).toNat + 1 = 1 from rfl, hb]
    refine ⟨hr, ?_⟩
    unfold wholeE
    rw [hr]
    simp
  · cases h
end Go.Proofs.YtmgnpgbganjgfaaDoor
