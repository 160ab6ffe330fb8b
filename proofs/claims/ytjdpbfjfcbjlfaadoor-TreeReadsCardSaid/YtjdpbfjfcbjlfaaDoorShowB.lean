/- DERIVED. The walks of show and Show. -/
import Derived.Test.YtjdpbfjfcbjlfaaDoorShowA
import Derived.Test.YtjdpbfjfcbjlfaaDoorTreeG
set_option linter.unusedSimpArgs false
set_option linter.unusedVariables false
namespace Go.Proofs.YtjdpbfjfcbjlfaaDoor
open Go.RowKit

mutual
/-- A tree's text. -/
def Tr.showL : Tr → List UInt8
  | .mk k f t _ _ ks => if k = 1 then Lib.decDigits f.toNat ++ quotedL t.data.toList else 40 :: (Lib.decDigits k.toNat ++ ((if f = 1 then [33] else []) ++ (showsL ks ++ [41])))
def showsL : List Tr → List UInt8
  | [] => []
  | k :: r => 32 :: (k.showL ++ showsL r)
end
mutual
/-- How much a tree holds. -/
def Tr.blk : Tr → Nat
  | .mk _ _ t _ _ ks => t.size + 7 + blks ks
def blks : List Tr → Nat
  | [] => 0
  | k :: r => k.blk + blks r
end
theorem Tr.showL_def (t : Tr) : t.showL = if t.kind = 1 then Lib.decDigits t.form.toNat ++ quotedL t.text.data.toList else 40 :: (Lib.decDigits t.kind.toNat ++ ((if t.form = 1 then [33] else []) ++ (showsL t.kids ++ [41]))) := by cases t; rw [Tr.showL]; rfl
theorem Tr.blk_def (t : Tr) : t.blk = t.text.size + 7 + blks t.kids := by cases t; rw [Tr.blk]; rfl
theorem showsL_append (a b : List Tr) : showsL (a ++ b) = showsL a ++ showsL b := by
  induction a with
  | nil => rfl
  | cons k r ih => simp only [List.cons_append, showsL, ih, List.append_assoc]
theorem showsL_take (ks : List Tr) (i : Nat) (h : i < ks.length) : showsL (ks.take (i + 1)) = showsL (ks.take i) ++ (32 :: (ks[i]).showL) := by
  rw [List.take_add_one, List.getElem?_eq_getElem h, Option.toList_some, showsL_append]; simp [showsL]
theorem blks_append (a b : List Tr) : blks (a ++ b) = blks a + blks b := by
  induction a with
  | nil => simp [blks]
  | cons k r ih => simp only [List.cons_append, blks, ih]; omega
theorem blks_take (ks : List Tr) (i : Nat) (h : i < ks.length) : blks (ks.take (i + 1)) = blks (ks.take i) + (ks[i]).blk := by
  rw [List.take_add_one, List.getElem?_eq_getElem h, Option.toList_some, blks_append]; simp [blks]
theorem blks_take_le (ks : List Tr) (i : Nat) : blks (ks.take i) ≤ blks ks := by
  have := blks_append (ks.take i) (ks.drop i)
  rw [List.take_append_drop] at this; omega
theorem size_le_blk (n : Nat) : ∀ t : Tr, t.size ≤ n → t.size ≤ t.blk := by
  induction n with
  | zero => intro t h; rw [Tr.size_def] at h; omega
  | succ n ih =>
    intro t h
    rw [Tr.size_def] at h ⊢
    rw [Tr.blk_def]
    have key : ∀ ks : List Tr, sizes ks ≤ n → sizes ks ≤ blks ks := by
      intro ks
      induction ks with
      | nil => intro _; simp [sizes]
      | cons k r ihr =>
        intro hs
        rw [sizes] at hs ⊢
        rw [blks]
        have := ih k (by omega)
        have := ihr (by omega)
        omega
    have := key t.kids (by omega)
    omega
theorem dec_small2 (n : Nat) (h : n < 100) : (Lib.decDigits n).length ≤ 2 := by
  rw [Lib.decDigits]
  split
  · simp
  · rw [Lib.decDigits, dif_pos (by omega)]; simp
theorem mays_get (ks : List Tr) : mays ks = true → ∀ (i : Nat) (h : i < ks.length), (ks[i]).may = true := by
  induction ks with
  | nil => intro _ i h; simp at h
  | cons k r ih =>
    intro hm i h
    rw [mays, Bool.and_eq_true] at hm
    cases i with
    | zero => exact hm.1
    | succ i => exact ih hm.2 i (by simpa using h)
/-- What a tree is that may be. -/
theorem may_parts (t : Tr) (h : t.may = true) : 1 ≤ t.kind ∧ t.kind < 54 ∧ 0 ≤ t.form ∧ t.form < 22 ∧ (t.kind = 1 → t.kids = []) ∧ (t.kind ≠ 1 → t.text.toList = [] ∧ t.form ≤ 1 ∧ mays t.kids = true) := by
  rw [Tr.may_def] at h
  split at h
  · simp at h
  · rename_i h1
    split at h
    · rename_i h2
      rw [Bool.and_eq_true, decide_eq_true_eq, decide_eq_true_eq] at h
      exact ⟨by omega, by omega, by omega, h.2, fun _ => List.eq_nil_of_length_eq_zero h.1, fun e => absurd h2 e⟩
    · rename_i h2
      split at h
      · simp at h
      · rename_i h3
        have h4 : t.text.toList = [] := by false_or_by_contra; exact h3 (.inl (by assumption))
        exact ⟨by omega, by omega, by omega, by omega, fun e => absurd e h2, fun _ => ⟨h4, by omega, h⟩⟩
theorem show_len (n : Nat) : ∀ t : Tr, t.size ≤ n → t.may = true → t.showL.length + 1 ≤ 3 * t.blk := by
  induction n with
  | zero => intro t h; rw [Tr.size_def] at h; omega
  | succ n ih =>
    intro t h hm
    obtain ⟨a1, a2, a3, a4, a5, a6⟩ := may_parts t hm
    rw [Tr.size_def] at h
    rw [Tr.blk_def, Tr.showL_def]
    split
    · have := dec_small2 t.form.toNat (by omega)
      have := escs_len t.text.data.toList
      rw [← Lib.size_eq] at this
      unfold quotedL
      simp only [List.length_append, List.length_cons, List.length_nil]
      omega
    · rename_i hk
      have key : ∀ ks : List Tr, sizes ks ≤ n → mays ks = true → (showsL ks).length ≤ 3 * blks ks := by
        intro ks
        induction ks with
        | nil => intro _ _; simp [showsL]
        | cons k r ihr =>
          intro hs hm
          rw [mays, Bool.and_eq_true] at hm
          rw [sizes] at hs
          rw [blks, showsL]
          have h1 := ih k (by omega) hm.1
          have h2 := ihr (by omega) hm.2
          simp only [List.length_cons, List.length_append]
          omega
      have := key t.kids (by omega) (a6 hk).2.2
      have := dec_small2 t.kind.toNat (by omega)
      split
      all_goals
        simp only [List.length_append, List.length_cons, List.length_nil]
        omega
theorem shows_len (ks : List Tr) (hm : mays ks = true) : (showsL ks).length ≤ 3 * blks ks := by
  induction ks with
  | nil => simp [showsL]
  | cons k r ih =>
    rw [mays, Bool.and_eq_true] at hm
    rw [blks, showsL]
    have h1 := show_len _ k (Nat.le_refl _) hm.1
    have h2 := ih hm.2
    simp only [List.length_cons, List.length_append]
    omega
theorem mays_take (ks : List Tr) (hm : mays ks = true) : ∀ i, mays (ks.take i) = true := by
  induction ks with
  | nil => intro i; simpa using hm
  | cons k r ih =>
    intro i
    rw [mays, Bool.and_eq_true] at hm
    cases i with
    | zero => rfl
    | succ i => rw [List.take_succ_cons, mays, hm.1, ih hm.2 i]; rfl
theorem IsB.base {B b : Nat} {l : List UInt8} {w : World} (h : IsB B b l w) : B ≤ b := h.elim (fun x => x.1) (fun x => x.1)
theorem IsB.base2 {B b : Nat} {l : List UInt8} {w : World} (h : IsB B b l w) : B ≤ w.heap.size := by have := h.base; have := h.lt; omega
theorem kept_row {w w' : World} {b k : Nat} {cs : Array Value} {t : TypeId} {fz : Nat × Nat} (h : Kept b w w') (hk : w.heap[k]? = some (.cells cs t fz)) (h1 : t ≠ 5) (h2 : k ≠ b) : w'.heap[k]? = some (.cells cs t fz) :=
  h k _ hk (fun e => h2 (Option.some.inj e)) (fun c f e => by injection e with _ e; exact h1 e)

set_option maxHeartbeats 2000000 in
theorem show_any (n : Nat) : ∀ (t : Tr) (kv : Value) (W0 w : World) (B b : Nat) (l : List UInt8), t.size ≤ n → t.may = true → l.length + 3 * t.blk ≤ 1099511627776 → Lies W0 t kv → Below W0.heap.size W0 w → W0.heap.size ≤ B → IsB B b l w →
    Calls Tryd.prog 29 #[.pointer (some ⟨b, 0, none⟩), nodeV t kv] w fun e w' => e = .returned (.tuple #[]) ∧ Below W0.heap.size W0 w' ∧ IsB B b (l ++ t.showL) w' := by
  induction n with
  | zero => intro t kv W0 w B b l h; rw [Tr.size_def] at h; omega
  | succ n ih =>
    intro t kv W0 w B bb l hn hm hs hl hbw hbB hI
    obtain ⟨xa, cap, b, o, K, rfl, hxa, hk⟩ := hl.kidsOf
    obtain ⟨a1, a2, a3, a4, a5, a6⟩ := may_parts t hm
    have hsz := Tr.size_def t
    have hblk := Tr.blk_def t
    have hlen := sizes_len t.kids
    have hsb := size_le_blk _ t (Nat.le_refl _)
    have hB2 := hI.base2
    have hB3 := hI.base
    have hB4 := hI.lt
    obtain ⟨kd, hkd⟩ := Int.eq_ofNat_of_zero_le (show 0 ≤ t.kind by omega)
    obtain ⟨fm, hfm⟩ := Int.eq_ofNat_of_zero_le (show 0 ≤ t.form by omega)
    have hfm2 : fm < 22 := by omega
    have hkd2 : kd < 54 := by omega
    have IH := Lib.hid ih
    have HK := Lib.hid hk
    have HX := Lib.hid hxa
    have HW := Lib.hid hbw
    have HI := Lib.hid hI
    have hws := hbw.size
    clear ih hk hl hxa hbw hI
    unfold nodeV
    by_cases h1 : t.kind = 1
    · have hsl : t.showL = Lib.decDigits fm ++ quotedL t.text.data.toList := by rw [Tr.showL_def, if_pos h1, hfm, Int.toNat_natCast]
      rw [hsl]
      have t1 : (t.kind == 1) = true := by simp; exact h1
      have hdl := dec_small2 fm (by omega)
      have hql := escs_len t.text.data.toList
      rw [← Lib.size_eq] at hql
      have HA5 := Lib.hid (a5 h1)
      rw [hfm]
      clear h1 hsl a5 a6 hfm hkd
      go_enter Tryd.func29, Tryd.ntmps29
      go_wp2_with fail
      refine (Tryd.strconv_Itoa_small fm (by omega) _).mono ?_
      rintro e w1 ⟨rfl, rfl⟩
      go_wp2_with fail
      refine (writeStr_any B bb _ _ _ (HI.out.alloc _) (by simp [ByteArray.size]; omega) (by simp; omega)).mono ?_
      rintro e w2 ⟨rfl, hI2, hb2, hk2⟩
      have hrow := kept_row (k := w.heap.size) (t := 24) hk2 (heap_alloc_new w (.cells #[.int .i64 t.kind, .int .i64 fm, .string t.text, .int .i64 t.line, .int .i64 t.col, .slice xa t.kids.length cap] 24 (0, 0))) (by decide) (by omega)
      have e2 : w2.cell? ⟨w.heap.size, 2, none⟩ = some (.string t.text) := cell_of_row _ _ _ _ _ _ hrow
      have HI2 := Lib.hid hI2
      have HB2 := Lib.hid ((HW.out.alloc (by omega) _).trans (hb2.mono hbB))
      have hst2 := HB2.out.size
      have hs2 := hI2.base2
      clear hI2 hb2 hk2 hrow
      go_wp2_with fail
      refine (quoted_any t.text _ (by omega)).mono ?_
      rintro e w3 ⟨rfl, hb3⟩
      have HB3 := Lib.hid (HB2.out.trans (hb3.mono hst2))
      have HI3 := Lib.hid (HI2.out.below hb3)
      have hs3 := HI3.out.base2
      have hqq : (quotedL t.text.data.toList).length ≤ 3 * t.text.size + 2 := by unfold quotedL; simp only [List.length_append, List.length_cons, List.length_nil]; omega
      clear hb3
      go_wp2_with fail
      refine (writeStr_any B bb _ _ _ HI3.out (by simp [ByteArray.size]; omega) (by omega)).mono ?_
      rintro e w4 ⟨rfl, hI4, hb4, _⟩
      have HI4 := Lib.hid hI4
      have HB4 := Lib.hid (HB3.out.trans (hb4.mono hbB))
      clear hI4 hb4
      go_wp2_with fail
      refine bodyPost_ret (results_none rfl _ _ _) rfl ?_
      exact ⟨rfl, HB4.out, by have := HI4.out; simpa using this⟩
    · have t1 : ((kd : Int) == 1) = false := by rw [← hkd]; simp; exact h1
      obtain ⟨a7, a8, a9⟩ := a6 h1
      obtain ⟨F, hF⟩ : ∃ F : List UInt8, (if (fm : Int) = 1 then [33] else []) = F := ⟨_, rfl⟩
      have hsl : t.showL = 40 :: (Lib.decDigits kd ++ (F ++ (showsL t.kids ++ [41]))) := by rw [Tr.showL_def, if_neg h1, hkd, hfm, Int.toNat_natCast, hF]
      have HF := Lib.hid hF
      rw [hsl]
      have hdl := dec_small2 kd (by omega)
      have HM := Lib.hid (mays_get _ a9)
      rw [hkd, hfm]
      clear h1 hsl a5 a6 a7 hkd hfm hF
      go_enter Tryd.func29, Tryd.ntmps29
      go_wp2_with fail
      refine (writeByte_of B bb _ _ 40 rfl _ (HI.out.alloc _) (by omega) (by simp; omega)).mono ?_
      rintro e w2 ⟨rfl, hI2, hb2, hk2⟩
      have hrow := kept_row (k := w.heap.size) (t := 24) hk2 (heap_alloc_new w (.cells #[.int .i64 kd, .int .i64 fm, .string t.text, .int .i64 t.line, .int .i64 t.col, .slice xa t.kids.length cap] 24 (0, 0))) (by decide) (by omega)
      have e0 : w2.cell? ⟨w.heap.size, 0, none⟩ = some (.int .i64 kd) := cell_of_row _ _ _ _ _ _ hrow
      have HI2 := Lib.hid hI2
      have HB2 := Lib.hid ((HW.out.alloc (by omega) _).trans (hb2.mono hbB))
      have HR2 := Lib.hid hrow
      have hst2 := HB2.out.size
      have hs2 := hI2.base2
      clear hI2 hb2 hk2 hrow
      go_wp2_with fail
      refine (Tryd.strconv_Itoa_small kd (by omega) _).mono ?_
      rintro e w3 ⟨rfl, rfl⟩
      go_wp2_with fail
      refine (writeStr_any B bb _ _ _ HI2.out (by simp [ByteArray.size]; omega) (by omega)).mono ?_
      rintro e w3 ⟨rfl, hI3, hb3, hk3⟩
      have hrow := kept_row (k := w.heap.size) (t := 24) hk3 HR2.out (by decide) (by omega)
      have e1 : w3.cell? ⟨w.heap.size, 1, none⟩ = some (.int .i64 fm) := cell_of_row _ _ _ _ _ _ hrow
      have HI3 := Lib.hid hI3
      have HB3 := Lib.hid (HB2.out.trans (hb3.mono hbB))
      have HR3 := Lib.hid hrow
      have hst3 := HB3.out.size
      have hs3 := hI3.base2
      clear hI3 hb3 hk3 hrow
      have HMT := Lib.hid a9
      clear a9
      by_cases hf1 : (fm : Int) = 1
      · have t4 : ((fm : Int) == 1) = true := by simp; omega
        have HFE := Lib.hid (show F = [33] by rw [← HF.out, if_pos hf1])
        clear hf1
        go_wp2_with fail
        refine (writeByte_of B bb _ _ 33 rfl _ HI3.out (by simp only [List.length_append, List.length_cons, List.length_nil]; omega) (by omega)).mono ?_
        rintro e w4 ⟨rfl, hI4, hb4, hk4⟩
        have HR4 := Lib.hid (kept_row (k := w.heap.size) (t := 24) hk4 HR3.out (by decide) (by omega))
        have HI4 := Lib.hid hI4
        have HB4 := Lib.hid (HB3.out.trans (hb4.mono hbB))
        clear hI4 hb4 hk4
        have hsr : w4.cell? ⟨w.heap.size, 5, none⟩ = some (.slice xa t.kids.length cap) := cell_of_row _ _ _ _ _ _ HR4.out
        go_wp2_with fail
        go_loopw [34] (fun a wr => ∃ i : Nat, a = .int .i64 i ∧ i ≤ t.kids.length ∧ Below W0.heap.size W0 wr ∧ IsB B bb ((l ++ [40] ++ Lib.decDigits kd ++ [33]) ++ showsL (t.kids.take i)) wr) (fun a _ => t.kids.length - (intOf a).toNat)
        case atStart => exact ⟨0, rfl, by omega, HB4.out, by simpa [showsL] using HI4.out⟩
        case round =>
          obtain ⟨i, rfl, hi, hbr, hIr⟩ := hrel
          have HBR := Lib.hid hbr
          have HIR := Lib.hid hIr
          have hstr := hbr.size
          have hsr2 := hIr.base2
          have hbb := hIr.lt
          have hsl2 := shows_len _ (mays_take _ HMT.out i)
          have hsl3 := blks_take_le t.kids i
          have hLL : ((l ++ [40] ++ Lib.decDigits kd ++ [33])).length ≤ l.length + 4 := by simp only [List.length_append, List.length_cons, List.length_nil]; omega
          clear hIr
          by_cases hin : i < t.kids.length
          · have hx := HX.out (by omega)
            subst hx
            obtain ⟨x, cp, hcW, hl, hlt⟩ := kid_at HK.out (Below.refl _ _) hin
            have hc' := hcW.below hbr
            have c0 := hc'.c0; have c1 := hc'.c1; have c2 := hc'.c2; have c3 := hc'.c3; have c4 := hc'.c4; have c5 := hc'.c5
            have HL := Lib.hid hl
            have hsk := Tr.size_kid t i hin
            have HD := Lib.hid (showsL_take t.kids i hin)
            have hd3 := blks_take t.kids i hin
            have hd4 := blks_take_le t.kids (i + 1)
            have hmk := HM.out i hin
            clear hcW hc' hl hbr
            generalize hk : t.kids[i] = k at *
            clear hk
            go_wp2_with fail
            refine (writeByte_of B bb _ _ 32 rfl _ (HIR.out.alloc _) (by rw [List.length_append]; omega) (by simp; omega)).mono ?_
            rintro e w5 ⟨rfl, hI5, hb5, hk5⟩
            have hrow := kept_row (k := wr.heap.size) (t := 24) hk5 (heap_alloc_new wr (.cells #[.int .i64 k.kind, .int .i64 k.form, .string k.text, .int .i64 k.line, .int .i64 k.col, .slice x k.kids.length cp] 24 (0, 0))) (by decide) (by omega)
            have d0 : w5.cell? ⟨wr.heap.size, 0, none⟩ = some (.int .i64 k.kind) := cell_of_row _ _ _ _ _ _ hrow
            have d1 : w5.cell? ⟨wr.heap.size, 1, none⟩ = some (.int .i64 k.form) := cell_of_row _ _ _ _ _ _ hrow
            have d2 : w5.cell? ⟨wr.heap.size, 2, none⟩ = some (.string k.text) := cell_of_row _ _ _ _ _ _ hrow
            have d3 : w5.cell? ⟨wr.heap.size, 3, none⟩ = some (.int .i64 k.line) := cell_of_row _ _ _ _ _ _ hrow
            have d4 : w5.cell? ⟨wr.heap.size, 4, none⟩ = some (.int .i64 k.col) := cell_of_row _ _ _ _ _ _ hrow
            have d5 : w5.cell? ⟨wr.heap.size, 5, none⟩ = some (.slice x k.kids.length cp) := cell_of_row _ _ _ _ _ _ hrow
            have HI5 := Lib.hid hI5
            have HB5 := Lib.hid ((HBR.out.alloc (by omega) _).trans (hb5.mono hbB))
            clear hI5 hb5 hk5 hrow
            go_wp2_with fail
            refine (IH.out k _ W0 _ B bb _ (by omega) hmk (by simp only [List.length_append, List.length_cons, List.length_nil] at hLL ⊢; omega) HL.out HB5.out hbB HI5.out).mono ?_
            rintro e w6 ⟨rfl, hb6, hI6⟩
            have HB6 := Lib.hid hb6
            have HI6 := Lib.hid hI6
            clear hb6 hI6
            go_wp2_with fail
            go_roundw
            case rel => exact ⟨i + 1, by go_num, by omega, HB6.out, by rw [HD.out]; have := HI6.out; simpa using this⟩
            case measure => simp [intOf]; omega
          · have hi' : i = t.kids.length := by omega
            subst hi'
            have t3 : decide ((t.kids.length : Int) < t.kids.length) = false := by simp
            rw [List.take_length] at HIR hsl2
            clear hbr
            go_wp2_with fail
            refine (writeByte_of B bb _ _ 41 rfl _ HIR.out (by rw [List.length_append]; omega) (by omega)).mono ?_
            rintro e w5 ⟨rfl, hI5, hb5, _⟩
            have HI5 := Lib.hid hI5
            have HB5 := Lib.hid (HBR.out.trans (hb5.mono hbB))
            clear hI5 hb5
            go_wp2_with fail
            go_end0
            exact ⟨rfl, HB5.out, by rw [HFE.out]; have := HI5.out; simpa using this⟩
      · have t4 : ((fm : Int) == 1) = false := by rw [beq_eq_false_iff_ne]; exact hf1
        have HFE := Lib.hid (show F = [] by rw [← HF.out, if_neg hf1])
        clear hf1
        have hsr : w3.cell? ⟨w.heap.size, 5, none⟩ = some (.slice xa t.kids.length cap) := cell_of_row _ _ _ _ _ _ HR3.out
        go_wp2_with fail
        go_loopw [34] (fun a wr => ∃ i : Nat, a = .int .i64 i ∧ i ≤ t.kids.length ∧ Below W0.heap.size W0 wr ∧ IsB B bb ((l ++ [40] ++ Lib.decDigits kd) ++ showsL (t.kids.take i)) wr) (fun a _ => t.kids.length - (intOf a).toNat)
        case atStart => exact ⟨0, rfl, by omega, HB3.out, by simpa [showsL] using HI3.out⟩
        case round =>
          obtain ⟨i, rfl, hi, hbr, hIr⟩ := hrel
          have HBR := Lib.hid hbr
          have HIR := Lib.hid hIr
          have hstr := hbr.size
          have hsr2 := hIr.base2
          have hbb := hIr.lt
          have hsl2 := shows_len _ (mays_take _ HMT.out i)
          have hsl3 := blks_take_le t.kids i
          have hLL : ((l ++ [40] ++ Lib.decDigits kd)).length ≤ l.length + 4 := by simp only [List.length_append, List.length_cons, List.length_nil]; omega
          clear hIr
          by_cases hin : i < t.kids.length
          · have hx := HX.out (by omega)
            subst hx
            obtain ⟨x, cp, hcW, hl, hlt⟩ := kid_at HK.out (Below.refl _ _) hin
            have hc' := hcW.below hbr
            have c0 := hc'.c0; have c1 := hc'.c1; have c2 := hc'.c2; have c3 := hc'.c3; have c4 := hc'.c4; have c5 := hc'.c5
            have HL := Lib.hid hl
            have hsk := Tr.size_kid t i hin
            have HD := Lib.hid (showsL_take t.kids i hin)
            have hd3 := blks_take t.kids i hin
            have hd4 := blks_take_le t.kids (i + 1)
            have hmk := HM.out i hin
            clear hcW hc' hl hbr
            generalize hk : t.kids[i] = k at *
            clear hk
            go_wp2_with fail
            refine (writeByte_of B bb _ _ 32 rfl _ (HIR.out.alloc _) (by rw [List.length_append]; omega) (by simp; omega)).mono ?_
            rintro e w5 ⟨rfl, hI5, hb5, hk5⟩
            have hrow := kept_row (k := wr.heap.size) (t := 24) hk5 (heap_alloc_new wr (.cells #[.int .i64 k.kind, .int .i64 k.form, .string k.text, .int .i64 k.line, .int .i64 k.col, .slice x k.kids.length cp] 24 (0, 0))) (by decide) (by omega)
            have d0 : w5.cell? ⟨wr.heap.size, 0, none⟩ = some (.int .i64 k.kind) := cell_of_row _ _ _ _ _ _ hrow
            have d1 : w5.cell? ⟨wr.heap.size, 1, none⟩ = some (.int .i64 k.form) := cell_of_row _ _ _ _ _ _ hrow
            have d2 : w5.cell? ⟨wr.heap.size, 2, none⟩ = some (.string k.text) := cell_of_row _ _ _ _ _ _ hrow
            have d3 : w5.cell? ⟨wr.heap.size, 3, none⟩ = some (.int .i64 k.line) := cell_of_row _ _ _ _ _ _ hrow
            have d4 : w5.cell? ⟨wr.heap.size, 4, none⟩ = some (.int .i64 k.col) := cell_of_row _ _ _ _ _ _ hrow
            have d5 : w5.cell? ⟨wr.heap.size, 5, none⟩ = some (.slice x k.kids.length cp) := cell_of_row _ _ _ _ _ _ hrow
            have HI5 := Lib.hid hI5
            have HB5 := Lib.hid ((HBR.out.alloc (by omega) _).trans (hb5.mono hbB))
            clear hI5 hb5 hk5 hrow
            go_wp2_with fail
            refine (IH.out k _ W0 _ B bb _ (by omega) hmk (by simp only [List.length_append, List.length_cons, List.length_nil] at hLL ⊢; omega) HL.out HB5.out hbB HI5.out).mono ?_
            rintro e w6 ⟨rfl, hb6, hI6⟩
            have HB6 := Lib.hid hb6
            have HI6 := Lib.hid hI6
            clear hb6 hI6
            go_wp2_with fail
            go_roundw
            case rel => exact ⟨i + 1, by go_num, by omega, HB6.out, by rw [HD.out]; have := HI6.out; simpa using this⟩
            case measure => simp [intOf]; omega
          · have hi' : i = t.kids.length := by omega
            subst hi'
            have t3 : decide ((t.kids.length : Int) < t.kids.length) = false := by simp
            rw [List.take_length] at HIR hsl2
            clear hbr
            go_wp2_with fail
            refine (writeByte_of B bb _ _ 41 rfl _ HIR.out (by rw [List.length_append]; omega) (by omega)).mono ?_
            rintro e w5 ⟨rfl, hI5, hb5, _⟩
            have HI5 := Lib.hid hI5
            have HB5 := Lib.hid (HBR.out.trans (hb5.mono hbB))
            clear hI5 hb5
            go_wp2_with fail
            go_end0
            exact ⟨rfl, HB5.out, by rw [HFE.out]; have := HI5.out; simpa using this⟩
end Go.Proofs.YtjdpbfjfcbjlfaaDoor
