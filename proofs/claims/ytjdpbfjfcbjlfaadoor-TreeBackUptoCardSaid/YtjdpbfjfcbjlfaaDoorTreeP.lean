/- DERIVED. Plain laws: a tree's text, read, is the tree; a tree that is read is shown as its text. -/
import Derived.Test.YtjdpbfjfcbjlfaaDoorReadF
import Derived.Test.YtjdpbfjfcbjlfaaDoorShowC
import Derived.Test.YtjdpbfjfcbjlfaaDoorTreeA
set_option linter.unusedSimpArgs false
set_option linter.unusedVariables false
namespace Go.Proofs.YtjdpbfjfcbjlfaaDoor

theorem dec1 (n : Nat) (h : n < 10) : Lib.decDigits n = [UInt8.ofNat (48 + n)] := by rw [Lib.decDigits, dif_pos h]
theorem dec2 (n : Nat) (h1 : ¬ n < 10) (h2 : n < 100) : Lib.decDigits n = [UInt8.ofNat (48 + n / 10), UInt8.ofNat (48 + n % 10)] := by
  rw [Lib.decDigits, dif_neg h1, dec1 _ (by omega)]; rfl
theorem dig_of : ∀ n : Fin 10, isDig (UInt8.ofNat (48 + n.val)) = true ∧ (UInt8.ofNat (48 + n.val)).toNat - 48 = n.val ∧ (n.val ≠ 0 → UInt8.ofNat (48 + n.val) ≠ 48) := by decide +kernel
theorem of_dig : ∀ c : UInt8, isDig c = true → c = UInt8.ofNat (48 + (c.toNat - 48)) ∧ c.toNat - 48 < 10 := by
  intro c h
  rw [isDig_iff] at h
  refine ⟨?_, by omega⟩
  rw [show 48 + (c.toNat - 48) = c.toNat from by omega]
  simp
theorem num_dec (n : Nat) (hn : n < 100) (c : UInt8) (X : List UInt8) (hc : isDig c = false) :
    numGo 3 (Lib.decDigits n ++ c :: X) 0 = (n, (Lib.decDigits n).length) ∧ (∀ x : Int, (n : Int) < x → numOk (Lib.decDigits n ++ c :: X) x = true) := by
  by_cases h : n < 10
  · obtain ⟨h1, h2, _⟩ := dig_of ⟨n, h⟩
    simp only at h1 h2
    rw [dec1 n h]
    have e : numGo 3 ([UInt8.ofNat (48 + n)] ++ c :: X) 0 = (n, 1) := by
      rw [List.cons_append, List.nil_append, numGo, if_pos h1, h2]
      rw [numGo, if_neg (by simp [hc])]
      simp
    refine ⟨e, fun x hx => ?_⟩
    rw [numOk_1 _ _ (by rw [e]), e]
    simpa using hx
  · obtain ⟨h1, h2, h3⟩ := dig_of ⟨n / 10, by omega⟩
    obtain ⟨g1, g2, _⟩ := dig_of ⟨n % 10, by omega⟩
    simp only at h1 h2 h3 g1 g2
    rw [dec2 n h hn]
    have e : numGo 3 ([UInt8.ofNat (48 + n / 10), UInt8.ofNat (48 + n % 10)] ++ c :: X) 0 = (n, 2) := by
      rw [List.cons_append, List.cons_append, List.nil_append, numGo, if_pos h1, h2, numGo, if_pos g1, g2, numGo, if_neg (by simp [hc])]
      refine Prod.ext ?_ rfl
      simp only
      omega
    refine ⟨e, fun x hx => ?_⟩
    rw [numOk_2 _ _ (by rw [e]; exact Nat.le_refl _), e]
    simp only [List.cons_append, List.getD_cons_zero, Bool.and_eq_true, bne_iff_ne, ne_eq, decide_eq_true_eq]
    exact ⟨h3 (by omega), hx⟩
/-- Back: digits that are a number are that number's. -/
theorem dec_num (l : List UInt8) (x : Int) (hx : x ≤ 100) (h : numOk l x = true) :
    l = Lib.decDigits (numGo 3 l 0).1 ++ l.drop (numGo 3 l 0).2 ∧ ((numGo 3 l 0).1 : Int) < x := by
  have off : ∀ (f : Nat) (r : List UInt8) (v : Nat) (c : UInt8), isDig c = false → numGo f (c :: r) v = (v, 0) := fun f r v c hc => numGo_off f _ v (fun c' h => by simp at h; subst h; exact hc)
  have nil : ∀ (f v : Nat), numGo f [] v = (v, 0) := fun f v => numGo_off f _ v (fun c' h => by simp at h)
  match l with
  | [] => rw [numOk_0 _ _ (by rw [nil])] at h; simp at h
  | a :: r =>
    by_cases ha : isDig a = true
    · obtain ⟨ea, la⟩ := of_dig a ha
      match r with
      | [] =>
        have e : numGo 3 [a] 0 = (a.toNat - 48, 1) := by rw [numGo, if_pos ha, nil]; simp
        rw [numOk_1 _ _ (by rw [e])] at h
        rw [e] at h ⊢
        refine ⟨?_, of_decide_eq_true h⟩
        show [a] = _ ++ _
        rw [dec1 _ la, ← ea]; rfl
      | b :: q =>
        by_cases hb : isDig b = true
        · obtain ⟨eb, lb⟩ := of_dig b hb
          have key : ∀ v k, numGo 1 q ((a.toNat - 48) * 10 + (b.toNat - 48)) = (v, k) → numGo 3 (a :: b :: q) 0 = (v, k + 1 + 1) := fun v k hk => by
            rw [numGo, if_pos ha, numGo, if_pos hb, Nat.zero_mul, Nat.zero_add, hk]
          have ha0 : ∀ v k, numGo 1 q ((a.toNat - 48) * 10 + (b.toNat - 48)) = (v, k) → a ≠ 48 ∧ (v : Int) < x := fun v k hk => by
            have e := key v k hk
            rw [numOk_2 _ _ (by rw [e]; simp only; omega), e] at h
            simpa using h
          have ha48 : a ≠ 48 → 1 ≤ a.toNat - 48 := fun h => by
            rw [isDig_iff] at ha
            have : a.toNat ≠ 48 := fun e => h (UInt8.toNat_inj.1 e)
            omega
          have two : numGo 1 q ((a.toNat - 48) * 10 + (b.toNat - 48)) = ((a.toNat - 48) * 10 + (b.toNat - 48), 0) := by
            match q with
            | [] => rw [nil]
            | c :: z =>
              by_cases hc : isDig c = true
              · have e : numGo 1 (c :: z) ((a.toNat - 48) * 10 + (b.toNat - 48)) = (((a.toNat - 48) * 10 + (b.toNat - 48)) * 10 + (c.toNat - 48), 1) := by
                  rw [numGo, if_pos hc]; rfl
                have := ha0 _ _ e
                have := ha48 this.1
                omega
              · rw [off _ _ _ _ (by simpa using hc)]
          have e := key _ _ two
          obtain ⟨n1, n2⟩ := ha0 _ _ two
          have := ha48 n1
          rw [e]
          refine ⟨?_, n2⟩
          simp only [List.drop_succ_cons, List.drop_zero]
          rw [dec2 _ (by omega) (by omega), show ((a.toNat - 48) * 10 + (b.toNat - 48)) / 10 = a.toNat - 48 from by omega, show ((a.toNat - 48) * 10 + (b.toNat - 48)) % 10 = b.toNat - 48 from by omega, ← ea, ← eb]; rfl
        · have e : numGo 3 (a :: b :: q) 0 = (a.toNat - 48, 1) := by rw [numGo, if_pos ha, off _ _ _ _ (by simpa using hb)]; simp
          rw [numOk_1 _ _ (by rw [e])] at h
          rw [e] at h ⊢
          refine ⟨?_, of_decide_eq_true h⟩
          simp only [List.drop_succ_cons, List.drop_zero]
          rw [dec1 _ la, ← ea]; rfl
    · rw [numOk_0 _ _ (by rw [off _ _ _ _ (by simpa using ha)])] at h; simp at h

/-! Texts in quotes -/
theorem hex_back : ∀ n : Fin 256, (plainB (UInt8.ofNat n.val) = false → 0 ≤ hexI (hexD (n.val / 16)) ∧ 0 ≤ hexI (hexD (n.val % 16)) ∧ hexB (hexD (n.val / 16)) (hexD (n.val % 16)) = UInt8.ofNat n.val) ∧
    (0 ≤ hexI (UInt8.ofNat n.val) → hexD (hexI (UInt8.ofNat n.val)).toNat = UInt8.ofNat n.val) := by decide +kernel
theorem byte_all {p : UInt8 → Prop} (h : ∀ n : Fin 256, p (UInt8.ofNat n.val)) (c : UInt8) : p c := by
  have := h ⟨c.toNat, c.toNat_lt⟩
  simpa using this
theorem esc_plain {c : UInt8} (h : plainB c = true) : c ≠ 34 ∧ c ≠ 92 ∧ inText c = true := by
  rw [plain_iff] at h
  refine ⟨fun e => ?_, fun e => ?_, inText_iff.2 (by omega)⟩
  · subst e; simp at h
  · subst e; simp at h
theorem text_esc (l rest : List UInt8) : textGo (l.flatMap escL ++ 34 :: rest) = some (l, (l.flatMap escL).length) := by
  induction l with
  | nil => exact textGo_quote rest
  | cons c r ih =>
    rw [List.flatMap_cons]
    by_cases hp : plainB c = true
    · obtain ⟨h1, h2, h3⟩ := esc_plain hp
      have : escL c = [c] := by unfold escL; rw [if_pos hp]
      rw [this, List.cons_append, List.nil_append, List.cons_append, textGo_chr _ _ h1 h2, if_pos h3, ih]; rfl
    · have hp' : plainB c = false := by simpa using hp
      have e : escL c = [92, hexD (c.toNat / 16), hexD (c.toNat % 16)] := by unfold escL; rw [if_neg hp]
      obtain ⟨h1, h2, h3⟩ := (hex_back ⟨c.toNat, c.toNat_lt⟩).1 (by simpa using hp')
      simp only [UInt8.ofNat_toNat] at h1 h2 h3
      rw [e]
      simp only [List.cons_append, List.nil_append]
      rw [textGo_esc, if_neg (by rw [h3, hp']; simp; omega), ih, h3]; rfl
theorem text_quoted (l rest : List UInt8) : textL (quotedL l ++ rest) = some (l, (quotedL l).length) := by
  unfold textL quotedL
  simp only [List.cons_append, List.append_assoc, List.nil_append, List.getElem?_cons_zero, if_true, List.drop_succ_cons, List.drop_zero]
  rw [text_esc]
  simp
theorem esc_text (n : Nat) : ∀ (l : List UInt8), l.length ≤ n → ∀ x k, textGo l = some (x, k) → l = x.flatMap escL ++ l.drop k ∧ k ≤ l.length := by
  induction n with
  | zero =>
    intro l h x k e
    have : l = [] := List.eq_nil_of_length_eq_zero (by omega)
    subst this
    simp [textGo] at e
    obtain ⟨rfl, rfl⟩ := e
    simp
  | succ n ih =>
    intro l h x k e
    match l, h with
    | [], _ => simp [textGo] at e; obtain ⟨rfl, rfl⟩ := e; simp
    | c :: r, h =>
      simp only [List.length_cons] at h
      by_cases h1 : c = 34
      · subst h1; rw [textGo_quote] at e; simp at e; obtain ⟨rfl, rfl⟩ := e; simp
      · by_cases h2 : c = 92
        · subst h2
          match r, h with
          | [], _ => rw [textGo_short _ (by simp)] at e; simp at e
          | [a], _ => rw [textGo_short _ (by simp)] at e; simp at e
          | a :: b :: q, h =>
            rw [textGo_esc] at e
            split at e
            · simp at e
            · rename_i hn
              obtain ⟨⟨x', k'⟩, e1, e2⟩ := Option.map_eq_some_iff.1 e
              simp only [Prod.mk.injEq] at e2
              obtain ⟨rfl, rfl⟩ := e2
              simp only [List.length_cons] at h
              obtain ⟨i1, i2⟩ := ih q (by omega) x' k' e1
              have hp : plainB (hexB a b) = false := by
                cases hh : plainB (hexB a b) with
                | false => rfl
                | true => exact absurd (.inr (.inr hh)) hn
              have ha : 0 ≤ hexI a := by omega
              have hb : 0 ≤ hexI b := by omega
              have ba := hexI_bd a
              have bb := hexI_bd b
              have da : hexD (hexI a).toNat = a := byte_all (p := fun c => 0 ≤ hexI c → hexD (hexI c).toNat = c) (fun n => (hex_back n).2) a ha
              have db : hexD (hexI b).toNat = b := byte_all (p := fun c => 0 ≤ hexI c → hexD (hexI c).toNat = c) (fun n => (hex_back n).2) b hb
              have hv : (hexB a b).toNat = (hexI a).toNat * 16 + (hexI b).toNat := by
                unfold hexB
                rw [UInt8.toNat_ofNat']
                omega
              have e : escL (hexB a b) = [92, a, b] := by
                unfold escL
                rw [if_neg (by rw [hp]; simp), hv, show ((hexI a).toNat * 16 + (hexI b).toNat) / 16 = (hexI a).toNat from by omega, show ((hexI a).toNat * 16 + (hexI b).toNat) % 16 = (hexI b).toNat from by omega, da, db]
              refine ⟨?_, by simp only [List.length_cons]; omega⟩
              rw [List.flatMap_cons, e]
              simp only [List.cons_append, List.nil_append, List.drop_succ_cons]
              rw [← i1]
        · rw [textGo_chr _ _ h1 h2] at e
          split at e
          · rename_i h3
            obtain ⟨⟨x', k'⟩, e1, e2⟩ := Option.map_eq_some_iff.1 e
            simp only [Prod.mk.injEq] at e2
            obtain ⟨rfl, rfl⟩ := e2
            obtain ⟨i1, i2⟩ := ih r (by omega) x' k' e1
            have hp : plainB c = true := by
              rw [plain_iff]
              rw [inText_iff] at h3
              refine ⟨h3.1, h3.2, fun e => h1 (UInt8.toNat_inj.1 e), fun e => h2 (UInt8.toNat_inj.1 e)⟩
            refine ⟨?_, by simp only [List.length_cons]; omega⟩
            rw [List.flatMap_cons]
            unfold escL
            rw [if_pos hp]
            simp only [List.cons_append, List.nil_append, List.drop_succ_cons]
            exact congrArg _ i1
          · simp at e
theorem quoted_text (l : List UInt8) (x : List UInt8) (k : Nat) (h : textL l = some (x, k)) : l = quotedL x ++ l.drop k := by
  unfold textL at h
  split at h
  · rename_i h0
    match l, h0, h with
    | c :: r, h0, h =>
      simp only [List.getElem?_cons_zero, Option.some.injEq] at h0
      subst h0
      simp only [List.drop_succ_cons, List.drop_zero] at h
      obtain ⟨⟨x', k'⟩, e1, e2⟩ := Option.bind_eq_some_iff.1 h
      simp only at e2
      split at e2
      · rename_i h3
        simp only [Option.some.injEq, Prod.mk.injEq] at e2
        obtain ⟨rfl, rfl⟩ := e2
        obtain ⟨i1, i2⟩ := esc_text r.length r (Nat.le_refl _) _ _ e1
        unfold quotedL
        simp only [List.cons_append, List.append_assoc, List.nil_append, List.drop_succ_cons]
        congr 1
        have h4 : r.drop k' = 34 :: r.drop (k' + 1) := by
          obtain ⟨hlt, hv⟩ := List.getElem?_eq_some_iff.1 h3
          rw [List.drop_eq_getElem_cons hlt, hv]
        rw [← h4]; exact i1
      · simp at e2
  · simp at h

/-! Trees -/
theorem mk_kind (k f l c : Int) (x : ByteArray) (ks : List Tr) : (Tr.mk k f x l c ks).kind = k := rfl
theorem mk_form (k f l c : Int) (x : ByteArray) (ks : List Tr) : (Tr.mk k f x l c ks).form = f := rfl
theorem mk_text (k f l c : Int) (x : ByteArray) (ks : List Tr) : (Tr.mk k f x l c ks).text = x := rfl
theorem mk_kids (k f l c : Int) (x : ByteArray) (ks : List Tr) : (Tr.mk k f x l c ks).kids = ks := rfl
mutual
/-- A tree without places, and without texts but of leaves. -/
def Tr.bare : Tr → Tr
  | .mk k f t _ _ ks => if k = 1 then .mk 1 f t 0 0 [] else .mk k f ⟨#[]⟩ 0 0 (bares ks)
def bares : List Tr → List Tr
  | [] => []
  | k :: r => k.bare :: bares r
end
theorem Tr.bare_def (t : Tr) : t.bare = if t.kind = 1 then .mk 1 t.form t.text 0 0 [] else .mk t.kind t.form ⟨#[]⟩ 0 0 (bares t.kids) := by cases t; rw [Tr.bare]; rfl
theorem bytes_eq {a b : ByteArray} (h : a.data.toList = b.data.toList) : a = b := by
  cases a; cases b; congr 1; exact Array.toList_inj.1 h
theorem bare_same (n : Nat) : ∀ t : Tr, t.size ≤ n → t.may = true → t.same t.bare = true := by
  induction n with
  | zero => intro t h; rw [Tr.size_def] at h; omega
  | succ n ih =>
    intro t h hm
    obtain ⟨a1, a2, a3, a4, a5, a6⟩ := may_parts t hm
    rw [Tr.size_def] at h
    have key : ∀ ks : List Tr, sizes ks ≤ n → mays ks = true → sames ks (bares ks) = true := by
      intro ks
      induction ks with
      | nil => intro _ _; rfl
      | cons k r ihr =>
        intro hs hm
        rw [sizes] at hs
        rw [mays, Bool.and_eq_true] at hm
        rw [bares, sames, ih k (by omega) hm.1, ihr (by omega) hm.2]; rfl
    rw [Tr.same_def, Tr.bare_def]
    split
    · rename_i hk
      simp only [mk_kind, mk_form, mk_text, mk_kids]
      rw [a5 hk, hk]
      simp [sames]
    · rename_i hk
      simp only [mk_kind, mk_form, mk_text, mk_kids]
      rw [key t.kids (by omega) (a6 hk).2.2, (a6 hk).1]
      simp
theorem isDig_34 : isDig 34 = false := by decide
theorem node_show (n : Nat) : ∀ (t : Tr) (d : Nat) (rest : List UInt8), t.size ≤ n → t.may = true →
    nodeGo d (t.showL ++ rest) = if d < t.depth then .error 2 else .ok (t.bare, rest) := by
  induction n with
  | zero => intro t d rest h; rw [Tr.size_def] at h; omega
  | succ n ih =>
    intro t d rest h hm
    obtain ⟨a1, a2, a3, a4, a5, a6⟩ := may_parts t hm
    have hdp := Tr.depth_def t
    rw [Tr.size_def] at h
    cases d with
    | zero => rw [if_pos (by omega)]; rfl
    | succ d =>
      have key : ∀ (ks : List Tr) (fuel : Nat), sizes ks ≤ n → mays ks = true → ks.length ≤ fuel →
          kidsGo (nodeGo d) fuel (showsL ks ++ 41 :: rest) = if d < depths ks then .error 2 else .ok (bares ks, 41 :: rest) := by
        intro ks
        induction ks with
        | nil =>
          intro fuel _ _ _
          cases fuel with
          | zero => rfl
          | succ fuel => rw [kidsGo, showsL, List.nil_append, if_neg (by simp)]; rfl
        | cons k r ihr =>
          intro fuel hs hm hf
          cases fuel with
          | zero => simp at hf
          | succ fuel =>
            rw [sizes] at hs
            rw [mays, Bool.and_eq_true] at hm
            rw [kidsGo, showsL, List.cons_append, if_pos (by simp), List.drop_succ_cons, List.drop_zero, List.append_assoc, ih k d _ (by omega) hm.1]
            rw [depths]
            by_cases h1 : d < k.depth
            · rw [if_pos h1, if_pos (by omega)]
            · rw [if_neg h1]
              simp only
              rw [ihr fuel (by omega) hm.2 (by simpa using hf)]
              by_cases h2 : d < depths r
              · rw [if_pos h2, if_pos (by omega)]
              · rw [if_neg h2, if_neg (by omega)]; rfl
      rw [Tr.showL_def, nodeGo, Tr.bare_def]
      by_cases hk : t.kind = 1
      · have hnd : ¬ (d + 1 < t.depth) := by rw [hdp, a5 hk]; simp [depths]
        rw [if_pos hk, if_pos hk, if_neg hnd]
        have hf : t.form.toNat < 100 := by omega
        have hq : quotedL t.text.data.toList = 34 :: (t.text.data.toList.flatMap escL ++ [34]) := rfl
        obtain ⟨e1, e2⟩ := num_dec t.form.toNat hf 34 ((t.text.data.toList.flatMap escL ++ [34]) ++ rest) isDig_34
        have e3 : Lib.decDigits t.form.toNat ++ quotedL t.text.data.toList ++ rest = Lib.decDigits t.form.toNat ++ 34 :: ((t.text.data.toList.flatMap escL ++ [34]) ++ rest) := by rw [hq]; simp
        have e4 : (Lib.decDigits t.form.toNat ++ quotedL t.text.data.toList ++ rest)[0]? ≠ some 40 := by
          by_cases h10 : t.form.toNat < 10
          · rw [dec1 _ h10]
            intro e
            simp only [List.cons_append, List.getElem?_cons_zero, Option.some.injEq] at e
            have := (dig_of ⟨_, h10⟩).1
            simp only at this
            rw [e] at this; exact absurd this (by decide)
          · rw [dec2 _ h10 hf]
            intro e
            simp only [List.cons_append, List.getElem?_cons_zero, Option.some.injEq] at e
            have := (dig_of ⟨t.form.toNat / 10, by omega⟩).1
            simp only at this
            rw [e] at this; exact absurd this (by decide)
        rw [if_neg e4, e3, e2 22 (by omega), if_neg (by simp), e1]
        simp only
        rw [List.drop_left]
        have e5 : (34 : UInt8) :: ((t.text.data.toList.flatMap escL ++ [34]) ++ rest) = quotedL t.text.data.toList ++ rest := by rw [hq]; simp
        rw [e5, text_quoted]
        simp only
        rw [List.drop_left, Int.toNat_of_nonneg a3]
      · obtain ⟨b1, b2, b3⟩ := a6 hk
        rw [if_neg hk, if_neg hk]
        simp only [List.cons_append, List.append_assoc, List.nil_append, List.getElem?_cons_zero, if_true, List.drop_succ_cons, List.drop_zero]
        have hkn : t.kind.toNat < 100 := by omega
        obtain ⟨c, X, hX, hc, h33⟩ : ∃ c X, (if t.form = 1 then [33] else []) ++ (showsL t.kids ++ 41 :: rest) = c :: X ∧ isDig c = false ∧ (t.form = 1 ↔ c = 33) := by
          by_cases hf : t.form = 1
          · rw [if_pos hf]; exact ⟨33, _, rfl, by decide, by simp [hf]⟩
          · rw [if_neg hf]
            cases hks : t.kids with
            | nil => exact ⟨41, _, rfl, by decide, by simp [hf]⟩
            | cons k r => exact ⟨32, _, by rw [showsL]; rfl, by decide, by simp [hf]⟩
        obtain ⟨e1, e2⟩ := num_dec t.kind.toNat hkn c X hc
        rw [hX, e2 54 (by omega), e1]
        simp only
        rw [if_neg (by simp; omega), List.drop_left, ← hX]
        have hl2 : (if ((if t.form = 1 then [33] else []) ++ (showsL t.kids ++ 41 :: rest))[0]? = some 33 then ((if t.form = 1 then [33] else []) ++ (showsL t.kids ++ 41 :: rest)).drop 1 else (if t.form = 1 then [33] else []) ++ (showsL t.kids ++ 41 :: rest)) = showsL t.kids ++ 41 :: rest := by
          by_cases hf : t.form = 1
          · rw [if_pos hf]; simp
          · have hX2 := hX
            rw [if_neg hf, List.nil_append] at hX2
            rw [hX, List.getElem?_cons_zero, if_neg (by intro e; exact hf (h33.2 (Option.some.inj e))), hX2]
        have hfm : (if ((if t.form = 1 then [33] else []) ++ (showsL t.kids ++ 41 :: rest))[0]? = some (33 : UInt8) then (1 : Int) else 0) = t.form := by
          rw [hX]
          simp only [List.getElem?_cons_zero, Option.some.injEq]
          by_cases hf : t.form = 1
          · rw [if_pos (h33.1 hf), hf]
          · rw [if_neg (fun e => hf (h33.2 e))]; omega
        rw [hl2, hfm]
        have hlen : t.kids.length ≤ (showsL t.kids ++ 41 :: rest).length := by
          have : ∀ ks : List Tr, ks.length ≤ (showsL ks).length := by
            intro ks
            induction ks with
            | nil => simp
            | cons k r ih => rw [showsL]; simp only [List.length_cons, List.length_append]; omega
          have := this t.kids
          rw [List.length_append]; omega
        rw [key t.kids _ (by omega) b3 hlen]
        by_cases h2 : d < depths t.kids
        · rw [if_pos h2, if_pos (by omega)]
        · rw [if_neg h2, if_neg (by omega)]
          simp only [List.getElem?_cons_zero, if_true, List.drop_succ_cons, List.drop_zero]
          rw [Int.toNat_of_nonneg (by omega)]
/-- A tree's text, read. -/
theorem read_show (t : Tr) (hm : t.may = true) :
    readGo ⟨t.showL.toArray⟩ = if 16777216 < t.showL.length then .error 3 else if 1000 < t.depth then .error 2 else .ok t.bare := by
  unfold readGo
  have : (⟨t.showL.toArray⟩ : ByteArray).size = t.showL.length := by simp [ByteArray.size]
  rw [this]
  split
  · rfl
  · have := node_show _ t 1000 [] (Nat.le_refl _) hm
    rw [List.append_nil] at this
    rw [this]
    by_cases h : 1000 < t.depth
    · rw [if_pos h, if_pos h]
    · rw [if_neg h, if_neg h]; simp

theorem may_leaf (f : Int) (x : ByteArray) (h0 : 0 ≤ f) (h1 : f < 22) : (Tr.mk 1 f x 0 0 []).may = true := by
  rw [Tr.may, if_neg (by omega), if_pos rfl]; simp; omega
theorem may_node (k f : Int) (ks : List Tr) (h0 : 1 < k) (h1 : k < 54) (h2 : 0 ≤ f) (h3 : f ≤ 1) (h4 : mays ks = true) : (Tr.mk k f ⟨#[]⟩ 0 0 ks).may = true := by
  rw [Tr.may, if_neg (by omega), if_neg (by omega), if_neg (by rintro (h | h); exact h (by rw [Lib.toList_data]); omega), h4]
/-- What is read has the text that it was read from. -/
theorem show_node (d : Nat) : ∀ (l : List UInt8) (t : Tr) (q : List UInt8), nodeGo d l = .ok (t, q) → t.may = true ∧ l = t.showL ++ q := by
  induction d with
  | zero => intro l t q h; simp [nodeGo] at h
  | succ d ih =>
    intro l t q h
    have key : ∀ (fuel : Nat) (l : List UInt8) (ts : List Tr) (q : List UInt8), kidsGo (nodeGo d) fuel l = .ok (ts, q) → mays ts = true ∧ l = showsL ts ++ q := by
      intro fuel
      induction fuel with
      | zero => intro l ts q h; simp [kidsGo] at h; obtain ⟨rfl, rfl⟩ := h; exact ⟨rfl, rfl⟩
      | succ fuel ihf =>
        intro l ts q h
        rw [kidsGo] at h
        split at h
        · rename_i h0
          match l, h0, h with
          | c :: r, h0, h =>
            simp only [List.getElem?_cons_zero, Option.some.injEq] at h0
            subst h0
            simp only [List.drop_succ_cons, List.drop_zero] at h
            split at h
            · simp at h
            · rename_i t1 r1 e1
              split at h
              · simp at h
              · rename_i ts1 q1 e2
                simp only [Except.ok.injEq, Prod.mk.injEq] at h
                obtain ⟨rfl, rfl⟩ := h
                obtain ⟨m1, s1⟩ := ih _ _ _ e1
                obtain ⟨m2, s2⟩ := ihf _ _ _ e2
                exact ⟨by rw [mays, m1, m2]; rfl, by rw [showsL, s1, s2]; simp⟩
        · simp only [Except.ok.injEq, Prod.mk.injEq] at h
          obtain ⟨rfl, rfl⟩ := h
          exact ⟨rfl, rfl⟩
    rw [nodeGo] at h
    split at h
    · rename_i h0
      match l, h0, h with
      | c :: r, h0, h =>
        simp only [List.getElem?_cons_zero, Option.some.injEq] at h0
        subst h0
        simp only [List.drop_succ_cons, List.drop_zero] at h
        split at h
        · simp at h
        · rename_i hno
          have hno1 : numOk r 54 = true := by
            cases e : numOk r 54 with
            | true => rfl
            | false => exact absurd (.inl e) hno
          have hno2 : 1 < (numGo 3 r 0).1 := by
            false_or_by_contra
            exact hno (.inr (by omega))
          obtain ⟨n1, n2⟩ := dec_num r 54 (by omega) hno1
          have fin : ∀ (f : Int) (l2 : List UInt8), 0 ≤ f → f ≤ 1 → r.drop (numGo 3 r 0).2 = (if f = 1 then [33] else []) ++ l2 →
              (match kidsGo (nodeGo d) l2.length l2 with
                | .error e => (.error e : Except Int (Tr × List UInt8))
                | .ok (ts, q) => if q[0]? = some 41 then .ok (.mk (numGo 3 r 0).1 f ⟨#[]⟩ 0 0 ts, q.drop 1) else .error 100) = .ok (t, q) →
              t.may = true ∧ 40 :: r = t.showL ++ q := by
            intro f l2 f0 f1 hl2 h
            split at h
            · simp at h
            · rename_i ts q1 e1
              split at h
              · rename_i h41
                simp only [Except.ok.injEq, Prod.mk.injEq] at h
                obtain ⟨rfl, rfl⟩ := h
                obtain ⟨m1, s1⟩ := key _ _ _ _ e1
                match q1, h41, s1 with
                | c1 :: r1, h41, s1 =>
                  simp only [List.getElem?_cons_zero, Option.some.injEq] at h41
                  subst h41
                  simp only [List.drop_succ_cons, List.drop_zero]
                  refine ⟨may_node _ _ _ (by omega) (by omega) f0 f1 m1, ?_⟩
                  rw [Tr.showL, if_neg (by omega)]
                  simp only [List.cons_append, List.append_assoc, List.nil_append, Int.toNat_natCast]
                  congr 1
                  conv => lhs; rw [n1, hl2, s1]
              · simp at h
          by_cases h33 : (r.drop (numGo 3 r 0).2)[0]? = some 33
          · simp only [h33, if_true] at h
            refine fin 1 _ (by omega) (by omega) ?_ h
            obtain ⟨hlt, hv⟩ := List.getElem?_eq_some_iff.1 h33
            rw [if_pos rfl]
            show r.drop (numGo 3 r 0).2 = 33 :: _
            conv => lhs; rw [← List.drop_zero (l := r.drop (numGo 3 r 0).2)]
            rw [List.drop_eq_getElem_cons hlt, hv]
            rfl
          · simp only [h33, if_false] at h
            exact fin 0 _ (by omega) (by omega) (by simp) h
    · split at h
      · simp at h
      · rename_i hno
        have hno1 : numOk l 22 = true := by simpa using hno
        obtain ⟨n1, n2⟩ := dec_num l 22 (by omega) hno1
        split at h
        · simp at h
        · rename_i x k e1
          simp only [Except.ok.injEq, Prod.mk.injEq] at h
          obtain ⟨rfl, rfl⟩ := h
          have e2 := quoted_text _ _ _ e1
          constructor
          · exact may_leaf _ _ (by omega) (by omega)
          · rw [Tr.showL, if_pos rfl, Int.toNat_natCast]
            conv => lhs; rw [n1, e2]
            simp
theorem show_read (s : ByteArray) (t : Tr) (h : readGo s = .ok t) : t.may = true ∧ s = ⟨t.showL.toArray⟩ ∧ t.showL.length ≤ 16777216 := by
  unfold readGo at h
  split at h
  · simp at h
  · rename_i hs
    split at h
    · simp at h
    · rename_i t1 q e
      split at h
      · rename_i hq
        simp only [Except.ok.injEq] at h
        subst h hq
        obtain ⟨m, e1⟩ := show_node _ _ _ _ e
        rw [List.append_nil] at e1
        refine ⟨m, bytes_eq (by simpa using e1), ?_⟩
        rw [← e1, ← Lib.size_eq]; omega
      · simp at h
/-- What a tree holds, by its text. -/
theorem blk_show (n : Nat) : ∀ t : Tr, t.size ≤ n → t.may = true → t.blk ≤ 8 * t.showL.length := by
  induction n with
  | zero => intro t h; rw [Tr.size_def] at h; omega
  | succ n ih =>
    intro t h hm
    obtain ⟨a1, a2, a3, a4, a5, a6⟩ := may_parts t hm
    rw [Tr.size_def] at h
    have key : ∀ ks : List Tr, sizes ks ≤ n → mays ks = true → blks ks ≤ 8 * (showsL ks).length := by
      intro ks
      induction ks with
      | nil => intro _ _; simp [blks]
      | cons k r ihr =>
        intro hs hm
        rw [sizes] at hs
        rw [mays, Bool.and_eq_true] at hm
        have h1 := ih k (by omega) hm.1
        have h2 := ihr (by omega) hm.2
        rw [blks, showsL]
        simp only [List.length_cons, List.length_append]
        omega
    rw [Tr.blk_def, Tr.showL_def]
    split
    · rename_i hk
      have h1 : t.text.data.toList.length ≤ (t.text.data.toList.flatMap escL).length := by
        generalize t.text.data.toList = l
        induction l with
        | nil => simp
        | cons c r ih => rw [List.flatMap_cons, List.length_append]; have := escL_len c; simp only [List.length_cons]; omega
      rw [← Lib.size_eq] at h1
      rw [a5 hk]
      unfold quotedL
      simp only [List.length_append, List.length_cons, blks]
      omega
    · rename_i hk
      have h1 := key t.kids (by omega) (a6 hk).2.2
      have h2 : t.text.size = 0 := by
        have := (a6 hk).1
        rw [Lib.toList_data] at this
        rw [Lib.size_eq, this]; rfl
      simp only [List.length_append, List.length_cons, List.length_nil]
      omega
end Go.Proofs.YtjdpbfjfcbjlfaaDoor
