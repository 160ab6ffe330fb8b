/- DERIVED. The walk of the document's one: the escape, the rune; joined. -/
import Derived.Test.YtmgnpgbganjgfaaDoorRefQuoH
import Derived.Test.YtmgnpgbganjgfaaDoorQuoteL
set_option linter.unusedSimpArgs false
set_option linter.unusedVariables false
namespace Go.Proofs.YtmgnpgbganjgfaaDoor
open Go.RowKit

theorem oneP_esc (text : Bool) (t : List UInt8) (hg : text = true → gapP t = 0) : oneP text (92 :: t) = match escP t with
    | none => .error 51
    | some (v, n) => if v = -2 ∧ text = false then .error 51 else .ok (v, n + 1) := by
  rw [oneP_cons]
  unfold oneC
  rw [if_pos rfl, if_neg (fun h => by have := hg h.1; omega)]
  cases escP t with
  | none => rfl
  | some p => rfl
set_option maxHeartbeats 4000000 in
theorem refOne_esctrue (s : ByteArray) (i : Nat) (w : World) (hs : s.size ≤ 16777216) (hi : i < s.size) (h : s[i] = 92) (hg : gapX s.data.toList i = 0) :
    Calls Tryd.prog 32 #[.string s, .int .i64 i, .bool true] w fun e w' => e = .returned (oneV i (match escP (s.data.toList.drop (i + 1)) with
      | none => .error 51
      | some (v, n) => if v = -2 ∧ true = false then .error 51 else .ok (v, n + 1))) ∧ Below w.heap.size w w' := by
  have t0 : decide ((s.size : Int) ≤ (i : Int)) = false := by simp; omega
  have t1 : decide (s.size ≤ i) = false := by simp; omega
  have G1 := fun w => refGap_any s i w hs hi
  rw [hg] at G1
  have G1 := Lib.hid G1
  have z92 := (u8K s[i] 92 92 rfl (by decide)).1 h
  have e1 := fun w => refEscape_any s i w hs hi
  clear h hg
  unfold EscPost at e1
  cases he : escP (s.data.toList.drop (i + 1)) with
  | none =>
    rw [he] at e1
    have E1 := Lib.hid e1
    clear e1 he
    go_enter Tryd.func32, Tryd.ntmps32
    go_wp2_with fail
    refine (G1.out _).mono ?_
    rintro e w1 ⟨rfl, q1, rfl⟩
    go_wp2_with fail
    refine (E1.out _).mono ?_
    rintro e w2 ⟨v, j, rfl, hv, hn, hb⟩
    have HB := Lib.hid (Below.then (below_drewN (Below.refl _ _) q1) hb)
    clear hb
    have hv := hn (by first | trivial | rfl)
    subst hv
    go_wp2_with fail
    go_ret3
    exact ⟨rfl, HB.out⟩
  | some p =>
    obtain ⟨a, n⟩ := p
    have hval := escP_val _ _ _ he
    rw [he] at e1
    have E1 := Lib.hid e1
    clear e1 he
    simp only
    have p1 : (a == -1) = false := beq_eq_false_iff_ne.2 (by omega)
    have en : i + (n + 1) = i + 1 + n := by omega
    have c2 : wrap64 a = wrap64 a := rfl
    by_cases h2 : a = -2
    · have p2 : (a == -2) = true := beq_iff_eq.2 h2
      rw [if_neg (by simp)]
      unfold oneV
      simp only
      rw [en]
      clear h2 en
      go_enter Tryd.func32, Tryd.ntmps32
      go_wp2_with fail
      refine (G1.out _).mono ?_
      rintro e w1 ⟨rfl, q1, rfl⟩
      go_wp2_with fail
      refine (E1.out _).mono ?_
      rintro e w2 ⟨v, j, rfl, hv, hn, hb⟩
      have HB := Lib.hid (Below.then (below_drewN (Below.refl _ _) q1) hb)
      clear hb
      obtain ⟨e1, e2⟩ := hv _ _ rfl
      subst e1
      subst e2
      go_wp2_with fail
      go_ret3
      exact ⟨rfl, HB.out⟩
    · have p2 : (a == -2) = false := beq_eq_false_iff_ne.2 h2
      rw [if_neg (fun hc => h2 hc.1)]
      unfold oneV
      simp only
      rw [en]
      clear h2 en
      go_enter Tryd.func32, Tryd.ntmps32
      go_wp2_with fail
      refine (G1.out _).mono ?_
      rintro e w1 ⟨rfl, q1, rfl⟩
      go_wp2_with fail
      refine (E1.out _).mono ?_
      rintro e w2 ⟨v, j, rfl, hv, hn, hb⟩
      have HB := Lib.hid (Below.then (below_drewN (Below.refl _ _) q1) hb)
      clear hb
      obtain ⟨e1, e2⟩ := hv _ _ rfl
      subst e1
      subst e2
      go_wp2_with fail
      go_ret3
      exact ⟨rfl, HB.out⟩
set_option maxHeartbeats 4000000 in
theorem refOne_escfalse (s : ByteArray) (i : Nat) (w : World) (hs : s.size ≤ 16777216) (hi : i < s.size) (h : s[i] = 92) :
    Calls Tryd.prog 32 #[.string s, .int .i64 i, .bool false] w fun e w' => e = .returned (oneV i (match escP (s.data.toList.drop (i + 1)) with
      | none => .error 51
      | some (v, n) => if v = -2 ∧ false = false then .error 51 else .ok (v, n + 1))) ∧ Below w.heap.size w w' := by
  have t0 : decide ((s.size : Int) ≤ (i : Int)) = false := by simp; omega
  have t1 : decide (s.size ≤ i) = false := by simp; omega
  have z92 := (u8K s[i] 92 92 rfl (by decide)).1 h
  have e1 := fun w => refEscape_any s i w hs hi
  clear h
  unfold EscPost at e1
  cases he : escP (s.data.toList.drop (i + 1)) with
  | none =>
    rw [he] at e1
    have E1 := Lib.hid e1
    clear e1 he
    go_enter Tryd.func32, Tryd.ntmps32
    go_wp2_with fail
    refine (E1.out _).mono ?_
    rintro e w2 ⟨v, j, rfl, hv, hn, hb⟩
    have HB := Lib.hid hb
    clear hb
    have hv := hn (by first | trivial | rfl)
    subst hv
    go_wp2_with fail
    go_ret3
    exact ⟨rfl, HB.out⟩
  | some p =>
    obtain ⟨a, n⟩ := p
    have hval := escP_val _ _ _ he
    rw [he] at e1
    have E1 := Lib.hid e1
    clear e1 he
    simp only
    have p1 : (a == -1) = false := beq_eq_false_iff_ne.2 (by omega)
    have en : i + (n + 1) = i + 1 + n := by omega
    have c2 : wrap64 a = wrap64 a := rfl
    by_cases h2 : a = -2
    · have p2 : (a == -2) = true := beq_iff_eq.2 h2
      rw [if_pos ⟨h2, by first | trivial | rfl⟩]
      clear h2 en
      go_enter Tryd.func32, Tryd.ntmps32
      go_wp2_with fail
      refine (E1.out _).mono ?_
      rintro e w2 ⟨v, j, rfl, hv, hn, hb⟩
      have HB := Lib.hid hb
      clear hb
      obtain ⟨e1, e2⟩ := hv _ _ rfl
      subst e1
      subst e2
      go_wp2_with fail
      go_ret3
      exact ⟨rfl, HB.out⟩
    · have p2 : (a == -2) = false := beq_eq_false_iff_ne.2 h2
      rw [if_neg (fun hc => h2 hc.1)]
      unfold oneV
      simp only
      rw [en]
      clear h2 en
      go_enter Tryd.func32, Tryd.ntmps32
      go_wp2_with fail
      refine (E1.out _).mono ?_
      rintro e w2 ⟨v, j, rfl, hv, hn, hb⟩
      have HB := Lib.hid hb
      clear hb
      obtain ⟨e1, e2⟩ := hv _ _ rfl
      subst e1
      subst e2
      go_wp2_with fail
      go_ret3
      exact ⟨rfl, HB.out⟩
set_option maxHeartbeats 8000000 in
theorem refOne_rune (s : ByteArray) (i : Nat) (text : Bool) (w : World) (hs : s.size ≤ 16777216) (hi : i < s.size) (h : s[i] ≠ 92) :
    Calls Tryd.prog 32 #[.string s, .int .i64 i, .bool text] w fun e w' => e = .returned (oneV i (if badC (dec (s.data.toList.drop i)) = true then .error 50 else .ok ((dec (s.data.toList.drop i)).1, (dec (s.data.toList.drop i)).2))) ∧ Below w.heap.size w w' := by
  have t0 : decide ((s.size : Int) ≤ (i : Int)) = false := by simp; omega
  have t1 : decide (s.size ≤ i) = false := by simp; omega
  have z92 := (u8K s[i] 92 92 rfl (by decide)).2 h
  have n1 := fun (w : World) => refNext_any s i w (by omega)
  rw [nextL_at s i hi] at n1
  have hdl := (dec_len (s.data.toList.drop i) (by rw [drop_at s i hi]; simp)).2.1
  have hc4 := dec_lt (s.data.toList.drop i)
  clear h
  generalize dec (s.data.toList.drop i) = d at *
  obtain ⟨c, n⟩ := d
  simp only at n1 hdl hc4
  have N1 := Lib.hid n1
  have C1 := Lib.hid fun w => refClass_any (c : Int) w
  have cw : wrap64 (c : Int) = c := by unfold wrap64; omega
  have cw2 : IntKind.i64.wrap (c : Int) = c := IntWalk.i64_in _ (by omega)
  clear n1
  cases hb : badC (c, n) with
  | true =>
    rw [if_pos rfl]
    unfold badC at hb
    simp only [Bool.or_eq_true, Bool.and_eq_true, decide_eq_true_eq] at hb
    generalize cls (c : Int) = x at *
    by_cases x0 : x = 0
    · have p0 : (x == 0) = true := beq_iff_eq.2 x0
      clear hb x0
      go_enter Tryd.func32, Tryd.ntmps32
      go_wp2_with fail
      refine (N1.out _).mono ?_
      rintro e w1 ⟨rfl, rfl⟩
      go_wp2_with fail
      refine (C1.out _).mono ?_
      rintro e w2 ⟨rfl, rfl⟩
      go_wp2_with fail
      go_ret3
      exact ⟨rfl, Below.refl _ _⟩
    · have p0 : (x == 0) = false := beq_eq_false_iff_ne.2 x0
      by_cases x1 : x = 1 ∧ c ≠ 32
      · have p1 : (x == 1) = true := beq_iff_eq.2 x1.1
        have p2 : ((c : Int) != 32) = true := by rw [bne_iff_ne]; omega
        have p2b : ((c : Int) == 32) = false := beq_eq_false_iff_ne.2 (by omega)
        clear hb x0 x1
        go_enter Tryd.func32, Tryd.ntmps32
        go_wp2_with fail
        refine (N1.out _).mono ?_
        rintro e w1 ⟨rfl, rfl⟩
        go_wp2_with fail
        refine (C1.out _).mono ?_
        rintro e w2 ⟨rfl, rfl⟩
        go_wp2_with fail
        go_ret3
        exact ⟨rfl, Below.refl _ _⟩
      · have h3 : c = 65533 ∧ n = 1 := by rcases hb with (hb | hb) | hb; exact absurd hb x0; exact absurd hb x1; exact hb
        have p1 : (x == 1) = false := beq_eq_false_iff_ne.2 (fun e => x1 ⟨e, by omega⟩)
        have p3 : ((c : Int) == 65533) = true := beq_iff_eq.2 (by omega)
        have p4 : ((n : Int) == 1) = true := beq_iff_eq.2 (by omega)
        clear hb x0 x1 h3
        go_enter Tryd.func32, Tryd.ntmps32
        go_wp2_with fail
        refine (N1.out _).mono ?_
        rintro e w1 ⟨rfl, rfl⟩
        go_wp2_with fail
        refine (C1.out _).mono ?_
        rintro e w2 ⟨rfl, rfl⟩
        go_wp2_with fail
        go_ret3
        exact ⟨rfl, Below.refl _ _⟩
  | false =>
    rw [if_neg (by simp)]
    unfold oneV
    simp only
    unfold badC at hb
    simp only [Bool.or_eq_false_iff, Bool.and_eq_false_iff, decide_eq_false_iff_not, Decidable.not_not, ne_eq] at hb
    generalize cls (c : Int) = x at *
    obtain ⟨⟨x0, x1⟩, x2⟩ := hb
    have p0 : (x == 0) = false := beq_eq_false_iff_ne.2 x0
    by_cases y1 : x = 1
    · have c32 : c = 32 := by rcases x1 with x1 | x1; exact absurd y1 x1; exact x1
      have p1 : (x == 1) = true := beq_iff_eq.2 y1
      have p2 : ((c : Int) != 32) = false := by rw [bne_eq_false_iff_eq]; omega
      have p2b : ((c : Int) == 32) = true := beq_iff_eq.2 (by omega)
      have p3 : ((c : Int) == 65533) = false := beq_eq_false_iff_ne.2 (by omega)
      clear x0 x1 x2 y1 c32
      go_enter Tryd.func32, Tryd.ntmps32
      go_wp2_with fail
      refine (N1.out _).mono ?_
      rintro e w1 ⟨rfl, rfl⟩
      go_wp2_with fail
      refine (C1.out _).mono ?_
      rintro e w2 ⟨rfl, rfl⟩
      go_wp2_with fail
      go_ret3
      exact ⟨rfl, Below.refl _ _⟩
    · have p1 : (x == 1) = false := beq_eq_false_iff_ne.2 y1
      by_cases y3 : c = 65533
      · have p3 : ((c : Int) == 65533) = true := beq_iff_eq.2 (by omega)
        have p4 : ((n : Int) == 1) = false := beq_eq_false_iff_ne.2 (by rcases x2 with x2 | x2; exact absurd y3 x2; omega)
        clear x0 x1 x2 y1 y3
        go_enter Tryd.func32, Tryd.ntmps32
        go_wp2_with fail
        refine (N1.out _).mono ?_
        rintro e w1 ⟨rfl, rfl⟩
        go_wp2_with fail
        refine (C1.out _).mono ?_
        rintro e w2 ⟨rfl, rfl⟩
        go_wp2_with fail
        go_ret3
        exact ⟨rfl, Below.refl _ _⟩
      · have p3 : ((c : Int) == 65533) = false := beq_eq_false_iff_ne.2 (by omega)
        clear x0 x1 x2 y1 y3
        go_enter Tryd.func32, Tryd.ntmps32
        go_wp2_with fail
        refine (N1.out _).mono ?_
        rintro e w1 ⟨rfl, rfl⟩
        go_wp2_with fail
        refine (C1.out _).mono ?_
        rintro e w2 ⟨rfl, rfl⟩
        go_wp2_with fail
        go_ret3
        exact ⟨rfl, Below.refl _ _⟩
theorem oneP_gapped (l : List UInt8) (h : 0 < gapP l) : oneP true (92 :: l) = .ok (-2, gapP l + 1) := by
  rw [oneP_cons]
  unfold oneC
  rw [if_pos rfl, if_pos ⟨rfl, h⟩]
/-- The document's one. -/
theorem refOne_any (s : ByteArray) (i : Nat) (text : Bool) (w : World) (hs : s.size ≤ 16777216) (hi : i ≤ s.size) :
    Calls Tryd.prog 32 #[.string s, .int .i64 i, .bool text] w fun e w' => e = .returned (oneV i (oneP text (s.data.toList.drop i))) ∧ Below w.heap.size w w' := by
  by_cases hlt : i < s.size
  · rw [drop_at s i hlt]
    by_cases h : s[i] = 92
    · rw [h]
      cases text with
      | true =>
        by_cases hg : 0 < gapP (s.data.toList.drop (i + 1))
        · rw [oneP_gapped _ hg]
          have hx : 0 < gapX s.data.toList i := by unfold gapX; rw [if_pos hg]; omega
          have key := refOne_gap s i w hs hlt h hx
          have hx2 : gapX s.data.toList i = i + (gapP (s.data.toList.drop (i + 1)) + 1) := by unfold gapX; rw [if_pos hg]; omega
          rw [hx2] at key
          exact key
        · have hg0 : gapP (s.data.toList.drop (i + 1)) = 0 := by omega
          rw [oneP_esc true _ (fun _ => hg0)]
          exact refOne_esctrue s i w hs hlt h (gapX_zero _ _ hg0)
      | false =>
        rw [oneP_esc false _ (fun h => by cases h)]
        exact refOne_escfalse s i w hs hlt h
    · rw [oneP_cons]
      unfold oneC
      rw [if_neg h, ← drop_at s i hlt]
      exact refOne_rune s i text w hs hlt h
  · rw [List.drop_of_length_le (by rw [← Lib.size_eq]; omega), oneP_nil]
    exact refOne_end s i text w hs (by omega)
end Go.Proofs.YtmgnpgbganjgfaaDoor
