/- DERIVED. The walks of the document's two and Scan of comments. -/
import Derived.Test.YthhlnahehpigeaaDoorNoteC
import Derived.Test.YthhlnahehpigeaaDoorRefRun
set_option linter.unusedSimpArgs false
set_option linter.unusedVariables false
namespace Go.Proofs.YthhlnahehpigeaaDoor
open Go.RowKit

set_option maxRecDepth 20000 in
set_option maxHeartbeats 2000000 in
theorem refTwo_any (s : ByteArray) (i : Nat) (a b : UInt8) (x y : Int) (w : World) (hx : x = a.toNat) (hy : y = b.toNat) (hs : s.size ≤ 1152921504606846976) (hi : i ≤ s.size) :
    Calls Tryd.prog 26 #[.string s, .int .i64 i, .int .u8 x, .int .u8 y] w fun e w' => e = .returned (.bool (twoB s.data.toList i a b)) ∧ w = w' := by
  obtain ⟨R, hR⟩ : ∃ R, twoB s.data.toList i a b = R := ⟨_, rfl⟩
  rw [hR]
  by_cases h1 : i + 1 < s.size
  · have t1 : decide ((i : Int) + 1 < s.size) = true := by simp; omega
    have g0 := at_get s i (by omega)
    have g1 := at_get s (i + 1) h1
    unfold twoB at hR
    rw [g0, g1] at hR
    have k0 : ((s[i].toNat : Int) == x) = decide (some s[i] = some a) := by
      subst hx; rw [Bool.eq_iff_iff, beq_iff_eq, decide_eq_true_eq]
      constructor
      · intro h; congr 1; apply UInt8.toNat_inj.1; omega
      · intro h; injection h with h; rw [h]
    have k1 : ((s[i + 1].toNat : Int) == y) = decide (some s[i + 1] = some b) := by
      subst hy; rw [Bool.eq_iff_iff, beq_iff_eq, decide_eq_true_eq]
      constructor
      · intro h; congr 1; apply UInt8.toNat_inj.1; omega
      · intro h; injection h with h; rw [h]
    rw [← k0, ← k1] at hR
    have b1 : (0 : Int) ≤ (i : Int) + 1 := by omega
    have b2 : ((i : Int) + 1).toNat = i + 1 := by omega
    have hw : IntKind.i64.wrap ((i : Int) + 1) = i + 1 := IntWalk.i64_in _ (by omega)
    clear k0 k1 g0 g1 hx hy
    cases p : ((s[i].toNat : Int) == x) with
    | false =>
      rw [p, Bool.false_and] at hR
      subst hR
      go_enter Tryd.func26, Tryd.ntmps26
      go_wp2_with fail
      go_ret
      exact ⟨rfl, rfl⟩
    | true =>
      rw [p, Bool.true_and] at hR
      cases q : ((s[i + 1].toNat : Int) == y) with
      | false =>
        rw [q] at hR
        subst hR
        go_enter Tryd.func26, Tryd.ntmps26
        go_wp2_with fail
        go_ret
        exact ⟨rfl, rfl⟩
      | true =>
        rw [q] at hR
        subst hR
        go_enter Tryd.func26, Tryd.ntmps26
        go_wp2_with fail
        go_ret
        exact ⟨rfl, rfl⟩
  · have t1 : decide ((i : Int) + 1 < s.size) = false := by simp; omega
    have hR2 : R = false := by
      rw [← hR]
      cases q : twoB s.data.toList i a b
      · rfl
      · have := twoB_lt q; rw [← Lib.size_eq] at this; omega
    subst hR2
    clear hR h1 hx hy
    go_enter Tryd.func26, Tryd.ntmps26
    go_wp2_with fail
    go_ret
    exact ⟨rfl, rfl⟩
theorem first_step (l : List UInt8) (k : Nat) (h : k < l.length) (hn : nl (l.drop k) = 0) : firstN (l.drop k) = 1 + firstN (l.drop (k + 1)) := by
  rw [List.drop_eq_getElem_cons h] at hn ⊢
  unfold firstN
  have hq : isNL l[k] = false := by
    cases hq : isNL l[k]
    · rfl
    · have := (nl_cons l[k] (l.drop (k + 1))).2 hq; omega
  rw [List.takeWhile_cons, hq]; simp; omega
theorem first_stop (l : List UInt8) (k : Nat) (h : l.length ≤ k ∨ 0 < nl (l.drop k)) : firstN (l.drop k) = 0 := by
  unfold firstN
  rcases h with h | h
  · rw [List.drop_eq_nil_of_le h]; rfl
  · cases hd : l.drop k with
    | nil => rfl
    | cons a t =>
      rw [hd] at h
      have := (nl_cons a t).1 h
      rw [List.takeWhile_cons, this]; rfl
/-- A row begins with two dashes. -/
theorem row_two (l : List UInt8) (h : twoB l 0 45 45 = false) : rowN l = 0 := by
  apply Classical.byContradiction
  intro h0
  obtain ⟨n, r, hn, rfl, _, _⟩ := rowN_cases l h0
  obtain ⟨m, rfl⟩ : ∃ m, n = m + 2 := ⟨n - 2, by omega⟩
  rw [List.replicate_succ, List.replicate_succ] at h
  have : twoB (45 :: 45 :: List.replicate m 45 ++ r) 0 45 45 = true := (twoB_iff ..).2 ⟨rfl, rfl⟩
  rw [this] at h; cases h
theorem run_two (l : List UInt8) (h : twoB l 0 45 45 = true) : 2 ≤ span (isCls 5) l := by
  have g := (twoB_iff ..).1 h
  obtain ⟨r, hr⟩ : ∃ r, l = List.replicate 2 45 ++ r := by
    match l, g with
    | a :: b :: t, g =>
      have h1 : a = 45 := by simpa using g.1
      have h2 : b = 45 := by simpa using g.2
      exact ⟨t, by rw [h1, h2]; rfl⟩
  rw [hr, span_dash]; omega
set_option maxRecDepth 20000 in
set_option maxHeartbeats 8000000 in
theorem refNoteRow_any (s : ByteArray) (a : Nat) (w : World) (hs : s.size ≤ 8796093022206) (ha : a < s.size) (h2 : twoB s.data.toList a 45 45 = true) :
    Calls Tryd.prog 12 #[.string s, .int .i64 a] w fun e w' => e = .returned (twoV (scanN s.data.toList a)) ∧ w = w' := by
  have T1 := fun w => refTwo_any s a 45 45 45 45 w rfl rfl (by omega) (by omega)
  rw [h2] at T1
  have R1 := fun w => refRun_any s a 5 w (by omega)
  have hls := Lib.size_eq s
  have h2d : twoB (s.data.toList.drop a) 0 45 45 = true := by rw [twoB_drop]; exact h2
  have hr2 := run_two _ h2d
  have hrl := span_le' (isCls 5) (s.data.toList.drop a)
  rw [List.length_drop, ← hls] at hrl
  have hrun : runL s.data.toList a 5 = ((a + span (isCls 5) (s.data.toList.drop a) : Nat) : Int) := by
    unfold runL
    rw [if_pos ⟨by omega, by omega⟩, Int.toNat_natCast]; omega
  rw [hrun] at R1
  have hz := runL_zero (s.data.toList.drop a)
  have hsc : scanN s.data.toList a = if rowN (s.data.toList.drop a) = 0 then (0, 0) else ((a : Int) + rowN (s.data.toList.drop a), 0) := by
    unfold scanN
    have g := (twoB_iff ..).1 h2d
    rw [if_pos ⟨by omega, by omega⟩, Int.toNat_natCast, if_neg, if_pos g.1]
    intro h
    have := ((twoB_iff ..).1 h).1
    rw [g.1] at this; revert this; decide
  have hrow : rowN (s.data.toList.drop a) = if ((s.data.toList.drop a).take (span (isCls 5) (s.data.toList.drop a))).all (· == 45) = true then span (isCls 5) (s.data.toList.drop a) + firstN (s.data.toList.drop (a + span (isCls 5) (s.data.toList.drop a))) else 0 := by
    unfold rowN
    rw [hz, List.drop_drop]
    by_cases h : ((s.data.toList.drop a).take (span (isCls 5) (s.data.toList.drop a))).all (· == 45) = true
    · rw [if_pos ⟨hr2, h⟩, if_pos h]
    · rw [if_neg (fun h' => h h'.2), if_neg h]
  generalize span (isCls 5) (s.data.toList.drop a) = n at *
  obtain ⟨R, hR⟩ : ∃ R, scanN s.data.toList a = R := ⟨_, rfl⟩
  rw [hR]
  rw [hR, hrow] at hsc
  obtain ⟨E, hE⟩ : ∃ E, a + n = E := ⟨_, rfl⟩
  rw [hE] at hsc R1
  have hE1 : a + 2 ≤ E := by omega
  have hE2 : E ≤ s.size := by omega
  have hE3 : E - a = n := by omega
  have HE := Lib.hid hE3
  clear hE hE3
  have T1 := Lib.hid T1
  have R1 := Lib.hid R1
  have HSC := Lib.hid hsc
  have HLS := Lib.hid hls
  have t0 : decide ((a : Int) < 0) = false := by simp
  have t1 : decide (s.size ≤ a) = false := by simp; omega
  clear hR hsc hrow hz hrun h2d h2 hls
  go_enter Tryd.func12, Tryd.ntmps12
  go_wp2_with fail
  refine (T1.out _).mono ?_
  rintro e w1 ⟨rfl, rfl⟩
  go_wp2_with fail
  refine (R1.out _).mono ?_
  rintro e w1 ⟨rfl, rfl⟩
  go_wp2_with fail
  go_loop [7] (fun kv => ∃ k : Nat, kv = .int .i64 k ∧ a ≤ k ∧ k ≤ E ∧ Hid (((s.data.toList.drop a).take (k - a)).all (· == 45) = true)) (fun kv => E - (intOf kv).toNat)
  case atStart => exact ⟨a, rfl, Nat.le_refl _, by omega, Lib.hid (by simp)⟩
  case round =>
    obtain ⟨k, rfl, hk1, hk2, hA⟩ := hrel
    by_cases hkE : k < E
    · have t5 : decide (k < E) = true := by simp; omega
      have hks : k < s.size := by omega
      have hget : (s.data.toList.drop a)[k - a]? = some s[k] := by rw [List.getElem?_drop, show a + (k - a) = k from by omega]; exact at_get s k hks
      have hst : ((s.data.toList.drop a).take (k + 1 - a)).all (· == 45) = (((s.data.toList.drop a).take (k - a)).all (· == 45) && (s[k] == 45)) := by
        rw [show k + 1 - a = (k - a) + 1 from by omega, List.take_add_one, hget, List.all_append]; simp
      rw [hA.out, Bool.true_and] at hst
      by_cases h45 : s[k] = 45
      · have q : ((s[k].toNat : Int) != 45) = false := by rw [h45]; rfl
        have hA2 : Hid (((s.data.toList.drop a).take (k + 1 - a)).all (· == 45) = true) := Lib.hid (by rw [hst, h45]; rfl)
        clear hget hst h45 hA
        go_wp2_with fail
        go_round
        case rel => exact ⟨k + 1, by go_num, by omega, by omega, hA2⟩
        case measure => simp [intOf] <;> omega
      · have q : ((s[k].toNat : Int) != 45) = true := by
          rw [bne_iff_ne]; intro e; apply h45; apply UInt8.toNat_inj.1
          show s[k].toNat = 45; omega
        have hno : ¬ ((s.data.toList.drop a).take n).all (· == 45) = true := by
          intro h
          rw [List.all_eq_true] at h
          have hm : s[k] ∈ (s.data.toList.drop a).take n := by
            rw [List.mem_take_iff_getElem]
            refine ⟨k - a, ?_, ?_⟩
            · have := HE.out
              rw [List.length_drop, ← HLS.out]; omega
            · have := List.getElem?_eq_some_iff.1 hget
              exact this.2
          have := h _ hm
          exact h45 (by simpa using this)
        have hr0 := HSC.out
        rw [if_neg hno, if_pos rfl] at hr0
        have HR0 := Lib.hid hr0
        clear hget hst h45 hA hno hr0
        go_wp2_with fail
        go_ret2
        exact ⟨by rw [HR0.out]; rfl, rfl⟩
    · have hkE' : k = E := by omega
      subst hkE'
      have t5 : decide (k < k) = false := by simp
      have hall := hA.out
      rw [HE.out] at hall
      have hr0 := HSC.out
      rw [if_pos hall, if_neg (by omega)] at hr0
      have HR0 := Lib.hid hr0
      clear hall hr0 hA
      go_wp2_with fail
      go_loop [6] (fun ev => ∃ j : Nat, ev = .int .i64 j ∧ k ≤ j ∧ j ≤ s.size ∧ Hid (j + firstN (s.data.toList.drop j) = k + firstN (s.data.toList.drop k))) (fun ev => s.size - (intOf ev).toNat)
      case atStart => exact ⟨k, rfl, Nat.le_refl _, by omega, Lib.hid rfl⟩
      case round =>
        obtain ⟨j, rfl, hj1, hj2, hJ⟩ := hrel
        by_cases hjs : j < s.size
        · have t6 : decide (j < s.size) = true := by simp; omega
          have E1 := fun w => end_any s j w hjs (by omega)
          by_cases hn0 : nl (s.data.toList.drop j) = 0
          · have hJ2 : Hid (j + 1 + firstN (s.data.toList.drop (j + 1)) = k + firstN (s.data.toList.drop k)) := Lib.hid (by
              rw [← hJ.out, first_step _ j (by rw [← HLS.out]; exact hjs) hn0]; omega)
            rw [hn0] at E1
            have E1 := Lib.hid E1
            clear hn0 hJ
            go_wp2_with fail
            refine (E1.out _).mono ?_
            rintro e w1 ⟨rfl, rfl⟩
            go_wp2_with fail
            go_round
            case rel => exact ⟨j + 1, by go_num, by omega, by omega, hJ2⟩
            case measure => simp [intOf] <;> omega
          · have hJ2 : Hid (j = k + firstN (s.data.toList.drop k)) := Lib.hid (by
              rw [← hJ.out, first_stop _ j (.inr (by omega))]; rfl)
            have t7 : ((nl (s.data.toList.drop j) : Int) == 0) = false := by simp; omega
            generalize nl (s.data.toList.drop j) = z at *
            have E1 := Lib.hid E1
            clear hn0 hJ
            go_wp2_with fail
            refine (E1.out _).mono ?_
            rintro e w1 ⟨rfl, rfl⟩
            go_wp2_with fail
            go_ret2
            refine ⟨?_, rfl⟩
            rw [HR0.out]
            have h := hJ2.out
            have h2 := HE.out
            show _ = Ending.returned (twoV ((a : Int) + ((n + firstN (s.data.toList.drop k) : Nat) : Int), 0))
            rw [show (a : Int) + ((n + firstN (s.data.toList.drop k) : Nat) : Int) = (j : Int) from by omega]; rfl
        · have t6 : decide (j < s.size) = false := by simp; omega
          have hJ2 : Hid (j = k + firstN (s.data.toList.drop k)) := Lib.hid (by
            rw [← hJ.out, first_stop _ j (.inl (by rw [← HLS.out]; omega))]; rfl)
          clear hJ
          go_wp2_with fail
          go_ret2
          refine ⟨?_, rfl⟩
          rw [HR0.out]
          have h := hJ2.out
          have h2 := HE.out
          show _ = Ending.returned (twoV ((a : Int) + ((n + firstN (s.data.toList.drop k) : Nat) : Int), 0))
          rw [show (a : Int) + ((n + firstN (s.data.toList.drop k) : Nat) : Int) = (j : Int) from by omega]; rfl
end Go.Proofs.YthhlnahehpigeaaDoor
