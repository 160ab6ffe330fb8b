/- DERIVED. The walks of may and of the reference's Right. -/
import Derived.Test.YtjdpbfjfcbjlfaaDoorTreeD
set_option linter.unusedSimpArgs false
set_option linter.unusedVariables false
namespace Go.Proofs.YtjdpbfjfcbjlfaaDoor
open Go.RowKit

mutual
/-- May a tree be? -/
def Tr.may : Tr → Bool
  | .mk k f t _ _ ks => if k ≤ 0 ∨ 54 ≤ k ∨ f < 0 then false else if k = 1 then decide (ks.length = 0) && decide (f < 22) else if t.toList ≠ [] ∨ 1 < f then false else mays ks
def mays : List Tr → Bool
  | [] => true
  | k :: r => k.may && mays r
end
theorem Tr.may_def (t : Tr) : t.may = if t.kind ≤ 0 ∨ 54 ≤ t.kind ∨ t.form < 0 then false else if t.kind = 1 then decide (t.kids.length = 0) && decide (t.form < 22) else if t.text.toList ≠ [] ∨ 1 < t.form then false else mays t.kids := by cases t; rw [Tr.may]; rfl
theorem mays_drop (ks : List Tr) (i : Nat) (h : i < ks.length) : mays (ks.drop i) = ((ks[i]).may && mays (ks.drop (i + 1))) := by
  rw [List.drop_eq_getElem_cons h, mays]

set_option maxHeartbeats 2000000 in
theorem may_any (n : Nat) : ∀ (t : Tr) (kv : Value) (w : World), t.size ≤ n → t.size ≤ 1152921504606846976 → Lies w t kv →
    Calls Tryd.prog 28 #[nodeV t kv] w fun e w' => e = .returned (.bool t.may) ∧ Below w.heap.size w w' := by
  induction n with
  | zero => intro t kv w h; rw [Tr.size_def] at h; omega
  | succ n ih =>
    intro t kv w hn hs hl
    obtain ⟨xa, cap, b, o, K, rfl, hxa, hk⟩ := hl.kidsOf
    have hsz := Tr.size_def t
    have hlen := sizes_len t.kids
    have IH := Lib.hid ih
    have HK := Lib.hid hk
    have HX := Lib.hid hxa
    clear ih hk hl hxa
    unfold nodeV
    rw [Tr.may_def]
    by_cases h1 : t.kind ≤ 0
    · rw [if_pos (.inl h1)]
      go_enter Tryd.func28, Tryd.ntmps28
      go_wp2_with fail
      go_ret
      exact ⟨rfl, (Below.refl _ _).alloc (Nat.le_refl _) _⟩
    by_cases h2 : 54 ≤ t.kind
    · rw [if_pos (.inr (.inl h2))]
      go_enter Tryd.func28, Tryd.ntmps28
      go_wp2_with fail
      go_ret
      exact ⟨rfl, (Below.refl _ _).alloc (Nat.le_refl _) _⟩
    by_cases h3 : t.form < 0
    · rw [if_pos (.inr (.inr h3))]
      go_enter Tryd.func28, Tryd.ntmps28
      go_wp2_with fail
      go_ret
      exact ⟨rfl, (Below.refl _ _).alloc (Nat.le_refl _) _⟩
    rw [if_neg (by omega)]
    by_cases h4 : t.kind = 1
    · rw [if_pos h4]
      by_cases h5 : t.kids.length = 0
      · by_cases h6 : t.form < 22
        · rw [decide_eq_true h5, decide_eq_true h6]
          go_enter Tryd.func28, Tryd.ntmps28
          go_wp2_with fail
          go_ret
          exact ⟨rfl, (Below.refl _ _).alloc (Nat.le_refl _) _⟩
        · rw [decide_eq_true h5, decide_eq_false h6]
          go_enter Tryd.func28, Tryd.ntmps28
          go_wp2_with fail
          go_ret
          exact ⟨rfl, (Below.refl _ _).alloc (Nat.le_refl _) _⟩
      · rw [decide_eq_false h5]
        go_enter Tryd.func28, Tryd.ntmps28
        go_wp2_with fail
        go_ret
        exact ⟨rfl, (Below.refl _ _).alloc (Nat.le_refl _) _⟩
    rw [if_neg h4]
    by_cases h5 : t.text.toList = []
    · have t5 : (t.text.toList == []) = true := by rw [h5]; rfl
      by_cases h6 : 1 < t.form
      · rw [if_pos (.inr h6)]
        go_enter Tryd.func28, Tryd.ntmps28
        go_wp2_with fail
        go_ret
        exact ⟨rfl, (Below.refl _ _).alloc (Nat.le_refl _) _⟩
      · rw [if_neg (by simp [h5]; omega)]
        have t1 : decide (t.kind ≤ 0) = false := decide_eq_false h1
        have t2 : decide (54 ≤ t.kind) = false := decide_eq_false h2
        have t3 : decide (t.form < 0) = false := decide_eq_false h3
        have t4 : (t.kind == 1) = false := by simp; exact h4
        have t6 : decide (1 < t.form) = false := decide_eq_false h6
        clear h1 h2 h3 h4 h6
        go_enter Tryd.func28, Tryd.ntmps28
        go_wp2_with fail
        go_loopw [44] (fun a wr => ∃ i : Nat, a = .int .i64 i ∧ i ≤ t.kids.length ∧ Below w.heap.size w wr ∧ mays t.kids = mays (t.kids.drop i)) (fun a _ => t.kids.length - (intOf a).toNat)
        case atStart => exact ⟨0, rfl, by omega, (Below.refl _ _).alloc (Nat.le_refl _) _, rfl⟩
        case round =>
          obtain ⟨i, rfl, hi, hb, hS⟩ := hrel
          have HB := Lib.hid hb
          have HS := Lib.hid hS
          have hst := hb.size
          clear hS
          by_cases hin : i < t.kids.length
          · have hx := HX.out (by omega)
            subst hx
            obtain ⟨x, c, hc', hl, hlt⟩ := kid_at HK.out hb hin
            have c0 := hc'.c0; have c1 := hc'.c1; have c2 := hc'.c2; have c3 := hc'.c3; have c4 := hc'.c4; have c5 := hc'.c5
            have HL := Lib.hid hl
            have HD := Lib.hid (mays_drop t.kids i hin)
            have hsk := Tr.size_kid t i hin
            clear hc' hl hb
            generalize hk : t.kids[i] = k at *
            have I1 := Lib.hid fun kv w => IH.out k kv w (by omega) (by omega)
            clear hk
            go_wp2_with fail
            refine (I1.out _ _ (HL.out.keep ((Below.refl _ _).alloc (Nat.le_refl _) _))).mono ?_
            rintro e w1 ⟨rfl, hb1⟩
            have HB1 := Lib.hid (Below.then (HB.out.alloc (by omega) _) hb1)
            clear hb1
            cases hsm : k.may
            · go_wp2_with fail
              go_ret
              refine ⟨ret_bool ?_, HB1.out⟩
              rw [HS.out, HD.out, hsm]; rfl
            · go_wp2_with fail
              go_roundw
              case rel =>
                refine ⟨i + 1, by go_num, by omega, HB1.out, ?_⟩
                rw [HS.out, HD.out, hsm, Bool.true_and]
              case measure => simp [intOf]; omega
          · have t7 : decide ((i : Int) < t.kids.length) = false := by simp; omega
            clear hb
            go_wp2_with fail
            go_ret
            refine ⟨ret_bool ?_, HB.out⟩
            rw [HS.out, List.drop_eq_nil_of_le (by omega)]; rfl
    · have t5 : (t.text.toList == []) = false := by simp [h5]
      rw [if_pos (.inl h5)]
      go_enter Tryd.func28, Tryd.ntmps28
      go_wp2_with fail
      go_ret
      exact ⟨rfl, (Below.refl _ _).alloc (Nat.le_refl _) _⟩
set_option maxHeartbeats 2000000 in
theorem right_any (n : Nat) : ∀ (t : Tr) (kv : Value) (w : World), t.size ≤ n → t.size ≤ 1152921504606846976 → Lies w t kv →
    Calls Tryd.prog 31 #[nodeV t kv] w fun e w' => e = .returned (.bool t.may) ∧ Below w.heap.size w w' := by
  induction n with
  | zero => intro t kv w h; rw [Tr.size_def] at h; omega
  | succ n ih =>
    intro t kv w hn hs hl
    obtain ⟨xa, cap, b, o, K, rfl, hxa, hk⟩ := hl.kidsOf
    have hsz := Tr.size_def t
    have hlen := sizes_len t.kids
    have IH := Lib.hid ih
    have HK := Lib.hid hk
    have HX := Lib.hid hxa
    clear ih hk hl hxa
    unfold nodeV
    rw [Tr.may_def]
    by_cases h1 : t.kind ≤ 0
    · rw [if_pos (.inl h1)]
      go_enter Tryd.func31, Tryd.ntmps31
      go_wp2_with fail
      go_ret
      exact ⟨rfl, (Below.refl _ _).alloc (Nat.le_refl _) _⟩
    by_cases h2 : 54 ≤ t.kind
    · rw [if_pos (.inr (.inl h2))]
      go_enter Tryd.func31, Tryd.ntmps31
      go_wp2_with fail
      go_ret
      exact ⟨rfl, (Below.refl _ _).alloc (Nat.le_refl _) _⟩
    by_cases h3 : t.form < 0
    · rw [if_pos (.inr (.inr h3))]
      by_cases h4 : t.kind = 1
      · by_cases h5 : t.kids.length = 0
        · go_enter Tryd.func31, Tryd.ntmps31
          go_wp2_with fail
          go_ret
          exact ⟨rfl, (Below.refl _ _).alloc (Nat.le_refl _) _⟩
        · go_enter Tryd.func31, Tryd.ntmps31
          go_wp2_with fail
          go_ret
          exact ⟨rfl, (Below.refl _ _).alloc (Nat.le_refl _) _⟩
      · by_cases h5 : t.text.toList = []
        · have t5 : (t.text.toList == []) = true := by rw [h5]; rfl
          go_enter Tryd.func31, Tryd.ntmps31
          go_wp2_with fail
          go_ret
          exact ⟨rfl, (Below.refl _ _).alloc (Nat.le_refl _) _⟩
        · have t5 : (t.text.toList == []) = false := by simp [h5]
          go_enter Tryd.func31, Tryd.ntmps31
          go_wp2_with fail
          go_ret
          exact ⟨rfl, (Below.refl _ _).alloc (Nat.le_refl _) _⟩
    rw [if_neg (by omega)]
    by_cases h4 : t.kind = 1
    · rw [if_pos h4]
      by_cases h5 : t.kids.length = 0
      · by_cases h6 : t.form < 22
        · rw [decide_eq_true h5, decide_eq_true h6]
          go_enter Tryd.func31, Tryd.ntmps31
          go_wp2_with fail
          go_ret
          exact ⟨rfl, (Below.refl _ _).alloc (Nat.le_refl _) _⟩
        · rw [decide_eq_true h5, decide_eq_false h6]
          go_enter Tryd.func31, Tryd.ntmps31
          go_wp2_with fail
          go_ret
          exact ⟨rfl, (Below.refl _ _).alloc (Nat.le_refl _) _⟩
      · rw [decide_eq_false h5]
        go_enter Tryd.func31, Tryd.ntmps31
        go_wp2_with fail
        go_ret
        exact ⟨rfl, (Below.refl _ _).alloc (Nat.le_refl _) _⟩
    rw [if_neg h4]
    by_cases h5 : t.text.toList = []
    · have t5 : (t.text.toList == []) = true := by rw [h5]; rfl
      by_cases h6 : 1 < t.form
      · rw [if_pos (.inr h6)]
        go_enter Tryd.func31, Tryd.ntmps31
        go_wp2_with fail
        go_ret
        exact ⟨rfl, (Below.refl _ _).alloc (Nat.le_refl _) _⟩
      · rw [if_neg (by simp [h5]; omega)]
        have t1 : decide (t.kind < 1) = false := decide_eq_false (by omega)
        have t0 : decide (t.kind ≤ 0) = false := decide_eq_false h1
        have t2 : decide (54 ≤ t.kind) = false := decide_eq_false h2
        have t3 : decide (t.form < 0) = false := decide_eq_false h3
        have t4 : (t.kind == 1) = false := by simp; exact h4
        have t6 : decide (1 < t.form) = false := decide_eq_false h6
        clear h1 h2 h3 h4 h6
        go_enter Tryd.func31, Tryd.ntmps31
        go_wp2_with fail
        go_loopw [3] (fun a wr => ∃ i : Nat, a = .int .i64 i ∧ i ≤ t.kids.length ∧ Below w.heap.size w wr ∧ Boxed wr w.heap.size t (.slice xa t.kids.length cap) ∧ mays t.kids = mays (t.kids.drop i)) (fun a _ => t.kids.length - (intOf a).toNat)
        case atStart => exact ⟨0, rfl, by omega, (Below.refl _ _).alloc (Nat.le_refl _) _, boxed_new _ _ _ _ rfl, rfl⟩
        case round =>
          obtain ⟨i, rfl, hi, hb, hB5, hS⟩ := hrel
          have X1 := Lib.hid hB5
          have b5 := hB5.c5
          clear hB5
          have HB := Lib.hid hb
          have HS := Lib.hid hS
          have hst := hb.size
          clear hS
          by_cases hin : i < t.kids.length
          · have hx := HX.out (by omega)
            subst hx
            obtain ⟨x, c, hc', hl, hlt⟩ := kid_at HK.out hb hin
            have c0 := hc'.c0; have c1 := hc'.c1; have c2 := hc'.c2; have c3 := hc'.c3; have c4 := hc'.c4; have c5 := hc'.c5
            have HL := Lib.hid hl
            have HD := Lib.hid (mays_drop t.kids i hin)
            have hsk := Tr.size_kid t i hin
            clear hc' hl hb
            generalize hk : t.kids[i] = k at *
            have I1 := Lib.hid fun kv w => IH.out k kv w (by omega) (by omega)
            clear hk
            go_wp2_with fail
            refine (I1.out _ _ HL.out).mono ?_
            rintro e w1 ⟨rfl, hb1⟩
            have HB1 := Lib.hid (Below.then HB.out hb1)
            have X2 := Lib.hid (X1.out.below hb1)
            clear hb1
            cases hsm : k.may
            · go_wp2_with fail
              go_ret
              refine ⟨ret_bool ?_, HB1.out⟩
              rw [HS.out, HD.out, hsm]; rfl
            · go_wp2_with fail
              go_roundw
              case rel =>
                refine ⟨i + 1, by go_num, by omega, HB1.out, X2.out, ?_⟩
                rw [HS.out, HD.out, hsm, Bool.true_and]
              case measure => simp [intOf]; omega
          · have t7 : decide ((i : Int) < t.kids.length) = false := by simp; omega
            clear hb
            go_wp2_with fail
            go_ret
            refine ⟨ret_bool ?_, HB.out⟩
            rw [HS.out, List.drop_eq_nil_of_le (by omega)]; rfl
    · have t5 : (t.text.toList == []) = false := by simp [h5]
      rw [if_pos (.inl h5)]
      go_enter Tryd.func31, Tryd.ntmps31
      go_wp2_with fail
      go_ret
      exact ⟨rfl, (Below.refl _ _).alloc (Nat.le_refl _) _⟩
end Go.Proofs.YtjdpbfjfcbjlfaaDoor
