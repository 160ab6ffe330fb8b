/- DERIVED. The walks of the document's Scan and Kind of comments. -/
import Derived.Test.YthhlnahehpigeaaDoorRefNoteA
set_option linter.unusedSimpArgs false
set_option linter.unusedVariables false
namespace Go.Proofs.YthhlnahehpigeaaDoor
open Go.RowKit

def twoV' : Option Nat → Int × Int
  | some n => (n, 0)
  | none => (0, 60)
/-- The loop of the document's Scan. -/
def RefNestAt (l : List UInt8) (R : Option Nat) (dv iv : Value) : Prop :=
  ∃ d i : Nat, dv = .int .i64 d ∧ iv = .int .i64 i ∧ i ≤ l.length ∧ d ≤ i ∧ ((1 ≤ d ∧ nestI l i d = R) ∨ (d = 0 ∧ R = some i))
set_option maxRecDepth 20000 in
set_option maxHeartbeats 8000000 in
theorem refNoteNest_any (s : ByteArray) (a : Nat) (w : World) (hs : s.size ≤ 8796093022206) (ha : a < s.size) (h1 : twoB s.data.toList a 45 45 = false) (h2 : twoB s.data.toList a 123 45 = true) :
    Calls Tryd.prog 12 #[.string s, .int .i64 a] w fun e w' => e = .returned (twoV (scanN s.data.toList a)) ∧ w = w' := by
  have T1 := fun w => refTwo_any s a 45 45 45 45 w rfl rfl (by omega) (by omega)
  rw [h1] at T1
  have T2 := fun w => refTwo_any s a 123 45 123 45 w rfl rfl (by omega) (by omega)
  rw [h2] at T2
  have hls := Lib.size_eq s
  have hlt := twoB_lt h2
  rw [← hls] at hlt
  have hsc : scanN s.data.toList a = twoV' (nestI s.data.toList (a + 2) 1) := by
    unfold scanN
    rw [if_pos ⟨by omega, by omega⟩, Int.toNat_natCast, if_pos (by rw [twoB_drop]; exact h2)]
    rw [nestI_drop _ s.data.toList a 2 1 (Nat.le_refl _)]
    cases nestI (s.data.toList.drop a) 2 1 with
    | none => rfl
    | some n => show ((a : Int) + n, (0 : Int)) = (((a + n : Nat) : Int), (0 : Int)); simp
  rw [hsc]
  obtain ⟨R, hR⟩ : ∃ R, nestI s.data.toList (a + 2) 1 = R := ⟨_, rfl⟩
  rw [hR]
  have HR := Lib.hid hR
  have HLS := Lib.hid hls
  have T1 := Lib.hid T1
  have T2 := Lib.hid T2
  have t0 : decide ((a : Int) < 0) = false := by simp
  have t1 : decide (s.size ≤ a) = false := by simp; omega
  clear hR hsc h1 h2 hls
  go_enter Tryd.func12, Tryd.ntmps12
  go_wp2_with fail
  refine (T1.out _).mono ?_
  rintro e w1 ⟨rfl, rfl⟩
  go_wp2_with fail
  refine (T2.out _).mono ?_
  rintro e w1 ⟨rfl, rfl⟩
  go_wp2_with fail
  go_loop [8, 9] (fun dv kv => RefNestAt s.data.toList R dv kv) (fun _ kv => s.size + 2 - (intOf kv).toNat)
  case atStart => exact ⟨1, a + 2, rfl, by go_num, by rw [← HLS.out]; omega, by omega, .inl ⟨Nat.le_refl _, HR.out⟩⟩
  case round =>
    obtain ⟨d, i, rfl, rfl, hi, hdi, hc⟩ := hrel
    rw [← HLS.out] at hi
    rcases hc with ⟨hd, hN⟩ | ⟨rfl, hN⟩
    · have HN := Lib.hid hN
      have t2 : decide (0 < d) = true := by simp; omega
      clear hN
      by_cases hin : i < s.size
      · have t3 : decide (s.size ≤ i) = false := by simp; omega
        have hil : i < s.data.toList.length := by rw [← HLS.out]; exact hin
        have c1 := fun w => refTwo_any s i 123 45 123 45 w rfl rfl (by omega) (by omega)
        have c2 := fun w => refTwo_any s i 45 125 45 125 w rfl rfl (by omega) (by omega)
        cases h1 : twoB s.data.toList i 123 45 with
        | true =>
          rw [h1] at c1
          have C1 := Lib.hid c1
          have hlt := twoB_lt h1
          have HN2 := Lib.hid (show nestI s.data.toList (i + 2) (d + 1) = R by rw [← HN.out, nestI_in _ _ _ h1])
          have HLT := Lib.hid hlt
          clear c1 c2 h1 hlt hil
          go_wp2_with fail
          refine (C1.out _).mono ?_
          rintro e w1 ⟨rfl, rfl⟩
          go_wp2_with fail
          go_round
          case rel => exact ⟨d + 1, i + 2, by go_num, by go_num, HLT.out, by omega, .inl ⟨by omega, HN2.out⟩⟩
          case measure => simp [intOf] <;> omega
        | false =>
          rw [h1] at c1
          have C1 := Lib.hid c1
          cases h2 : twoB s.data.toList i 45 125 with
          | true =>
            rw [h2] at c2
            have C2 := Lib.hid c2
            have hlt := twoB_lt h2
            have HLT := Lib.hid hlt
            have hN2 := HN.out
            rw [nestI_out _ _ _ h1 h2] at hN2
            have hN3 : Hid ((1 ≤ d - 1 ∧ nestI s.data.toList (i + 2) (d - 1) = R) ∨ (d - 1 = 0 ∧ R = some (i + 2))) := Lib.hid (by
              by_cases hd1 : d ≤ 1
              · rw [if_pos hd1] at hN2; exact .inr ⟨by omega, hN2.symm⟩
              · rw [if_neg hd1] at hN2; exact .inl ⟨by omega, hN2⟩)
            clear c1 c2 h1 h2 hlt hil hN2
            go_wp2_with fail
            refine (C1.out _).mono ?_
            rintro e w1 ⟨rfl, rfl⟩
            go_wp2_with fail
            refine (C2.out _).mono ?_
            rintro e w1 ⟨rfl, rfl⟩
            go_wp2_with fail
            go_round
            case rel => exact ⟨d - 1, i + 2, congrArg (Value.int .i64) (by omega), by go_num, HLT.out, by omega, hN3.out⟩
            case measure => simp [intOf] <;> omega
          | false =>
            rw [h2] at c2
            have C2 := Lib.hid c2
            have HN2 := Lib.hid (show nestI s.data.toList (i + 1) d = R by rw [← HN.out, nestI_on _ _ _ hil h1 h2])
            clear c1 c2 h1 h2
            go_wp2_with fail
            refine (C1.out _).mono ?_
            rintro e w1 ⟨rfl, rfl⟩
            go_wp2_with fail
            refine (C2.out _).mono ?_
            rintro e w1 ⟨rfl, rfl⟩
            go_wp2_with fail
            go_round
            case rel => exact ⟨d, i + 1, rfl, by go_num, by omega, by omega, .inl ⟨hd, HN2.out⟩⟩
            case measure => simp [intOf] <;> omega
      · have t3 : decide (s.size ≤ i) = true := by simp; omega
        have HN2 := Lib.hid (show R = none by rw [← HN.out, nestI_end _ _ _ (by rw [← HLS.out]; omega)])
        go_wp2_with fail
        go_ret2
        exact ⟨by rw [HN2.out]; rfl, rfl⟩
    · have HN := Lib.hid hN
      clear hN
      go_wp2_with fail
      go_ret2
      exact ⟨by rw [HN.out]; rfl, rfl⟩
set_option maxRecDepth 20000 in
set_option maxHeartbeats 4000000 in
theorem refNoteScan_any (s : ByteArray) (i : Int) (w : World) (hs : s.size ≤ 8796093022206) :
    Calls Tryd.prog 12 #[.string s, .int .i64 i] w fun e w' => e = .returned (twoV (scanN s.data.toList i)) ∧ w = w' := by
  by_cases h0 : 0 ≤ i
  · obtain ⟨a, rfl⟩ := Int.eq_ofNat_of_zero_le h0
    by_cases ha : a < s.size
    · cases h1 : twoB s.data.toList a 45 45 with
      | true => exact refNoteRow_any s a w hs ha h1
      | false =>
        cases h2 : twoB s.data.toList a 123 45 with
        | true => exact refNoteNest_any s a w hs ha h1 h2
        | false =>
          have T1 := fun w => refTwo_any s a 45 45 45 45 w rfl rfl (by omega) (by omega)
          rw [h1] at T1
          have T2 := fun w => refTwo_any s a 123 45 123 45 w rfl rfl (by omega) (by omega)
          rw [h2] at T2
          have hsc : scanN s.data.toList a = (0, 0) := by
            unfold scanN
            rw [if_pos ⟨h0, by rw [← Lib.size_eq]; omega⟩, Int.toNat_natCast, if_neg (by rw [twoB_drop, Nat.add_zero, h2]; simp)]
            split
            · rw [row_two _ (by rw [twoB_drop, Nat.add_zero]; exact h1), if_pos rfl]
            · rfl
          rw [hsc]
          have T1 := Lib.hid T1
          have T2 := Lib.hid T2
          have t0 : decide ((a : Int) < 0) = false := by simp
          have t1 : decide (s.size ≤ a) = false := by simp; omega
          clear hsc h1 h2
          go_enter Tryd.func12, Tryd.ntmps12
          go_wp2_with fail
          refine (T1.out _).mono ?_
          rintro e w1 ⟨rfl, rfl⟩
          go_wp2_with fail
          refine (T2.out _).mono ?_
          rintro e w1 ⟨rfl, rfl⟩
          go_wp2_with fail
          go_ret2
          exact ⟨rfl, rfl⟩
    · have t0 : decide ((a : Int) < 0) = false := by simp
      have t1 : decide (s.size ≤ a) = true := by simp; omega
      have hsc : scanN s.data.toList a = (0, 0) := by unfold scanN; rw [if_neg (by rw [← Lib.size_eq]; omega)]
      rw [hsc]
      clear hsc
      go_enter Tryd.func12, Tryd.ntmps12
      go_wp2_with fail
      go_ret2
      exact ⟨rfl, rfl⟩
  · have t0 : decide (i < 0) = true := by simp; omega
    have hsc : scanN s.data.toList i = (0, 0) := by unfold scanN; rw [if_neg (by omega)]
    rw [hsc]
    clear hsc h0
    go_enter Tryd.func12, Tryd.ntmps12
    go_wp2_with fail
    go_ret2
    exact ⟨rfl, rfl⟩
theorem byte_opt (s : ByteArray) (i : Nat) (a : UInt8) (x : Int) (hx : x = a.toNat) (h : i < s.size) : ((s[i].toNat : Int) == x) = decide (s.data.toList[i]? = some a) := by
  rw [at_get s i h]
  subst hx; rw [Bool.eq_iff_iff, beq_iff_eq, decide_eq_true_eq]
  constructor
  · intro h; congr 1; apply UInt8.toNat_inj.1; omega
  · intro h; injection h with h; rw [h]
set_option maxRecDepth 20000 in
set_option maxHeartbeats 4000000 in
theorem refNoteKind_any (s : ByteArray) (w : World) (hs : s.size ≤ 8796093022206) :
    Calls Tryd.prog 15 #[.string s] w fun e w' => e = .returned (.int .i64 (kindN s.data.toList)) ∧ w = w' := by
  have S1 := refNoteScan_any s 0 w hs
  obtain ⟨R, hR⟩ : ∃ R, kindN s.data.toList = R := ⟨_, rfl⟩
  rw [hR]
  have hls := Lib.size_eq s
  by_cases h0 : s.data.toList = []
  · rw [kind_not _ (.inl h0)] at hR
    subst hR
    generalize scanN s.data.toList 0 = p at *
    obtain ⟨x, e⟩ := p
    unfold twoV at S1
    have S1 := Lib.hid S1
    have q1 : (s.toList == []) = true := by rw [Lib.toList_data, h0]; rfl
    have q2 : s.toList.isEmpty = true := by rw [Lib.toList_data, h0]; rfl
    have q3 : s.toList = [] := by rw [Lib.toList_data, h0]
    have tz : ((s.size : Int) == 0) = true := by rw [hls, h0]; rfl
    have tz2 : s.size = 0 := by rw [hls, h0]; rfl
    clear h0 hls
    go_enter Tryd.func15, Tryd.ntmps15
    go_wp2_with fail
    refine S1.out.mono ?_
    rintro e w1 ⟨rfl, rfl⟩
    go_wp2_with fail
    go_ret
    exact ⟨rfl, rfl⟩
  · have q1 : (s.toList == []) = false := by rw [Lib.toList_data]; simpa using h0
    have q2 : s.toList.isEmpty = false := by rw [Lib.toList_data]; simpa using h0
    have q3 : ¬ s.toList = [] := by rw [Lib.toList_data]; exact h0
    have hpos : 0 < s.size := by rw [hls]; exact List.length_pos_iff.2 h0
    have tz : ((s.size : Int) == 0) = false := by rw [beq_eq_false_iff_ne]; omega
    by_cases hsc : scanN s.data.toList 0 = ((s.data.toList.length : Int), 0)
    · have hk := kind_is _ h0 hsc
      rw [hR] at hk
      rw [hsc, ← hls] at S1
      have hkc := kind_cases s.data.toList
      unfold twoV at S1
      simp only at S1
      have S1 := Lib.hid S1
      have eg := at_get s 0 hpos
      rw [eg] at hk
      obtain ⟨y45, n45⟩ := byteKN s[0] 45 45 rfl (by decide)
      by_cases h45 : s[0] = 45
      · have q := y45 h45
        rw [if_pos (by rw [h45])] at hk
        subst hk
        clear hR hkc hsc eg h45 y45 n45 h0 hls
        go_enter Tryd.func15, Tryd.ntmps15
        go_wp2_with fail
        refine S1.out.mono ?_
        rintro e w1 ⟨rfl, rfl⟩
        go_wp2_with fail
        go_ret
        exact ⟨rfl, rfl⟩
      · have q := n45 h45
        rw [if_neg (by simpa using h45)] at hk
        have hne : kindN s.data.toList ≠ 0 := by rw [hR, hk]; split <;> decide
        have hn : twoB s.data.toList 0 123 45 = true ∧ nestI s.data.toList 2 1 = some s.data.toList.length := by
          rcases hkc hne with ⟨n, r, hn2, hrr, _⟩ | h
          · exfalso
            apply h45
            have : s.data.toList[0]? = some 45 := by
              rw [hrr]
              obtain ⟨m, rfl⟩ : ∃ m, n = m + 1 := ⟨n - 1, by omega⟩
              rw [List.replicate_succ]; rfl
            rw [eg] at this
            injection this
          · exact h
        obtain ⟨h3, h4, h5⟩ := nestI_last _ s.data.toList 2 1 _ (Nat.le_refl _) hn.2
        by_cases h6 : 6 ≤ s.size
        · have t6 : decide ((6 : Int) ≤ s.size) = true := by simp; omega
          have b4 : 2 < s.size := by omega
          have k2 := byte_opt s 2 35 35 rfl b4
          have hq : s.size - 3 < s.size := by omega
          have k3 : ((s[s.size - 3].toNat : Int) == 35) = decide (s.data.toList[s.data.toList.length - 3]? = some 35) := by
            rw [byte_opt s (s.size - 3) 35 35 rfl hq, show s.size - 3 = s.data.toList.length - 3 from by omega]
          have b1 : (0 : Int) ≤ (s.size : Int) - 3 := by omega
          have b2 : ((s.size : Int) - 3).toNat = s.size - 3 := by omega
          have b5 : (3 : Int) ≤ s.size := by omega
          have b6 : (2 : Int) < s.size := by omega
          have b3 : (s.size : Int) - 3 < s.size := by omega
          by_cases ha : s.data.toList[2]? = some 35
          · rw [decide_eq_true ha] at k2
            by_cases hb : s.data.toList[s.data.toList.length - 3]? = some 35
            · rw [decide_eq_true hb] at k3
              rw [if_pos ⟨by omega, ha, hb⟩] at hk
              subst hk
              clear hR hkc hsc eg h45 y45 n45 h0 hls hne hn h3 h4 h5 ha hb
              go_enter Tryd.func15, Tryd.ntmps15
              go_wp2_with fail
              refine S1.out.mono ?_
              rintro e w1 ⟨rfl, rfl⟩
              go_wp2_with fail
              go_ret
              exact ⟨rfl, rfl⟩
            · rw [decide_eq_false hb] at k3
              rw [if_neg (fun h => hb h.2.2)] at hk
              subst hk
              clear hR hkc hsc eg h45 y45 n45 h0 hls hne hn h3 h4 h5 ha hb
              go_enter Tryd.func15, Tryd.ntmps15
              go_wp2_with fail
              refine S1.out.mono ?_
              rintro e w1 ⟨rfl, rfl⟩
              go_wp2_with fail
              go_ret
              exact ⟨rfl, rfl⟩
          · rw [decide_eq_false ha] at k2
            rw [if_neg (fun h => ha h.2.1)] at hk
            subst hk
            clear hR hkc hsc eg h45 y45 n45 h0 hls hne hn h3 h4 h5 ha k3
            go_enter Tryd.func15, Tryd.ntmps15
            go_wp2_with fail
            refine S1.out.mono ?_
            rintro e w1 ⟨rfl, rfl⟩
            go_wp2_with fail
            go_ret
            exact ⟨rfl, rfl⟩
        · have t6 : decide ((6 : Int) ≤ s.size) = false := by simp; omega
          rw [if_neg (fun h => h6 (by omega))] at hk
          subst hk
          clear hR hkc hsc eg h45 y45 n45 h0 hls hne hn h3 h4 h5
          go_enter Tryd.func15, Tryd.ntmps15
          go_wp2_with fail
          refine S1.out.mono ?_
          rintro e w1 ⟨rfl, rfl⟩
          go_wp2_with fail
          go_ret
          exact ⟨rfl, rfl⟩
    · rw [kind_not _ (.inr hsc)] at hR
      subst hR
      rw [← hls] at hsc
      generalize scanN s.data.toList 0 = p at *
      obtain ⟨x, e⟩ := p
      unfold twoV at S1
      simp only at S1
      have S1 := Lib.hid S1
      have hq : (e != 0) = true ∨ ((e != 0) = false ∧ (x != (s.size : Int)) = true) := by
        by_cases h : e = 0
        · refine .inr ⟨by simp; exact h, ?_⟩
          rw [bne_iff_ne]
          intro h2; apply hsc; rw [h, h2]
        · exact .inl (by rw [bne_iff_ne]; exact h)
      clear hsc h0 hls
      rcases hq with q5 | ⟨q5, q6⟩
      all_goals
        go_enter Tryd.func15, Tryd.ntmps15
        go_wp2_with fail
        refine S1.out.mono ?_
        rintro e w1 ⟨rfl, rfl⟩
        go_wp2_with fail
        go_ret
        exact ⟨rfl, rfl⟩
end Go.Proofs.YthhlnahehpigeaaDoor
