/- DERIVED. The walks of Split and Apart. -/
import Derived.Test.YthiljpnabgbabaaDoorWordD
set_option linter.unusedSimpArgs false
set_option linter.unusedVariables false
namespace Go.Proofs.YthiljpnabgbabaaDoor
open Go.RowKit

/-- What Split hands back. -/
def splitV (s : ByteArray) : Option (Nat × Nat) → Value
  | some (q, n) => .tuple #[.string (s.extract 0 q), .string (s.extract n s.size), .int .i64 0]
  | none => .tuple #[.string ⟨#[]⟩, .string ⟨#[]⟩, .int .i64 30]

set_option maxHeartbeats 2000000 in
theorem split_any (s : ByteArray) (w : World) (hs : s.size ≤ 1152921504606846976) (hT : Tabs w) :
    Calls Tryd.prog 15 #[.string s] w fun e w' => e = .returned (splitV s (splitW s.data.toList)) ∧ Below w.heap.size w w' := by
  have s1 := scan_any s w hs hT
  have hle := scanW_le s.data.toList
  rw [← Lib.size_eq] at hle
  have hah := scan_ahead s.data.toList
  have hk : kindW s.data.toList = if (scanW s.data.toList).2.1 = s.size then (scanW s.data.toList).1 else 0 := by unfold kindW; rw [← Lib.size_eq]
  have hsp : splitW s.data.toList = if qual (kindW s.data.toList) then some ((scanW s.data.toList).2.2 - 1, (scanW s.data.toList).2.2) else if kindW s.data.toList = 1 ∨ kindW s.data.toList = 2 ∨ kindW s.data.toList = 5 ∨ kindW s.data.toList = 6 then some (0, 0) else none := by
    unfold splitW qual; rfl
  rw [hsp]
  clear hsp
  generalize kindW s.data.toList = K at *
  generalize scanW s.data.toList = R at *
  by_cases hR : R.2.1 = s.size
  · rw [if_pos hR] at hk
    subst hk
    have hx : s.extract 0 R.2.1 = s := by rw [hR]; exact ByteArray.extract_zero_size
    rw [hx] at s1
    have hb : (s.toList == s.toList) = true := by simp
    by_cases hq : qual R.1
    · rw [if_pos hq]
      obtain ⟨a1, a2⟩ := hah hq
      rw [hR] at a2
      obtain ⟨k, n, a⟩ := R
      simp only at *
      obtain ⟨m, rfl⟩ : ∃ m, a = m + 1 := ⟨a - 1, by omega⟩
      have S1 := Lib.hid s1
      clear s1 hR hx hT hle hah
      unfold splitV
      have g1 : IntKind.i64.wrap ((m : Int) + 1 - 1) = (m : Int) := by rw [IntWalk.i64_in _ (by omega)]; omega
      have g2 : (0 : Int) ≤ (m : Int) := by omega
      have g4 : (m : Int) ≤ (s.size : Int) := by omega
      have g5 : (m : Int) + 1 ≤ (s.size : Int) := by omega
      have g6 : (0 : Int) ≤ (m : Int) + 1 := by omega
      have g7 : ((m : Int) + 1).toNat = m + 1 := by omega
      have g8 : IntKind.i64.wrap ((m : Int) + 1) = (m : Int) + 1 := IntWalk.i64_in _ (by omega)
      have G1 := Lib.hid g1; have G7 := Lib.hid g7; have G8 := Lib.hid g8
      clear g1 g7 g8
      unfold qual at hq
      rcases hq with rfl | rfl | rfl | rfl
      all_goals
        go_enter Tryd.func15, Tryd.ntmps15
        go_wp2_with fail
        refine S1.out.mono ?_
        rintro e w1 ⟨rfl, hb1⟩
        have HB := Lib.hid hb1
        clear hb1
        go_wp2_with fail
        have g1 := G1.out
        have g7 := G7.out
        have g8 := G8.out
        go_quiet (fail)
        clear g1 g7 g8
        go_wp2_with fail
        go_ret3
        exact ⟨rfl, below_drewN HB.out _⟩
    · rw [if_neg hq]
      by_cases hp : R.1 = 1 ∨ R.1 = 2 ∨ R.1 = 5 ∨ R.1 = 6
      · rw [if_pos hp]
        have hv : splitV s (some (0, 0)) = .tuple #[.string ⟨#[]⟩, .string s, .int .i64 0] := by
          unfold splitV; simp only; rw [ext_nil, ByteArray.extract_zero_size]
        rw [hv]
        clear hv
        obtain ⟨k, n, a⟩ := R
        simp only at *
        have S1 := Lib.hid s1
        clear s1 hR hx hT hle hah hq
        rcases hp with rfl | rfl | rfl | rfl
        all_goals
          go_enter Tryd.func15, Tryd.ntmps15
          go_wp2_with fail
          refine S1.out.mono ?_
          rintro e w1 ⟨rfl, hb1⟩
          have HB := Lib.hid hb1
          clear hb1
          go_wp2_with fail
          go_ret3
          exact ⟨rfl, HB.out⟩
      · rw [if_neg hp]
        unfold splitV
        obtain ⟨k, n, a⟩ := R
        simp only at *
        have S1 := Lib.hid s1
        have c1 : (k == 1) = false := beq_eq_false_iff_ne.2 (by omega)
        have c2 : (k == 2) = false := beq_eq_false_iff_ne.2 (by omega)
        have c3 : (k == 3) = false := beq_eq_false_iff_ne.2 (by omega)
        have c4 : (k == 4) = false := beq_eq_false_iff_ne.2 (by omega)
        have c5 : (k == 5) = false := beq_eq_false_iff_ne.2 (by omega)
        have c6 : (k == 6) = false := beq_eq_false_iff_ne.2 (by omega)
        have c7 : (k == 7) = false := beq_eq_false_iff_ne.2 (by omega)
        have c8 : (k == 8) = false := beq_eq_false_iff_ne.2 (by omega)
        clear s1 hR hx hT hle hah hq hp
        go_enter Tryd.func15, Tryd.ntmps15
        go_wp2_with fail
        refine S1.out.mono ?_
        rintro e w1 ⟨rfl, hb1⟩
        have HB := Lib.hid hb1
        clear hb1
        go_wp2_with fail
        go_ret3
        exact ⟨rfl, HB.out⟩
  · rw [if_neg hR] at hk
    subst hk
    rw [if_neg (by unfold qual; omega), if_neg (by omega)]
    unfold splitV
    have hb := ext_ne s R.2.1 s.size rfl hR hle
    have S1 := Lib.hid s1
    clear s1 hR hT hah
    generalize s.extract 0 R.2.1 = x at *
    go_enter Tryd.func15, Tryd.ntmps15
    go_wp2_with fail
    refine S1.out.mono ?_
    rintro e w1 ⟨rfl, hb1⟩
    have HB := Lib.hid hb1
    clear hb1
    go_wp2_with fail
    go_ret3
    exact ⟨rfl, HB.out⟩

theorem app_data (s t : ByteArray) : (s ++ t).data.toList = s.data.toList ++ t.data.toList := by
  obtain ⟨⟨a⟩⟩ := s
  obtain ⟨⟨b⟩⟩ := t
  simp

theorem app_left (s t : ByteArray) : (s ++ t).extract 0 s.size = s := by
  have h : ((s ++ t).extract 0 s.size).data.toList = s.data.toList := by
    rw [ext_data, app_data, Lib.size_eq]; exact List.take_left' rfl
  rw [of_list h, Lib.mk_data]

set_option maxHeartbeats 2000000 in
theorem apart_any (s t : ByteArray) (w : World) (hs : s.size ≤ 140737488351232) (ht : t.size ≤ 140737488351232) (hT : Tabs w) :
    Calls Tryd.prog 17 #[.string s, .string t] w fun e w' => e = .returned (.bool (apartW s.data.toList t.data.toList)) ∧ Below w.heap.size w w' := by
  have k1 := fun w hT => kind_any s w (by omega) hT
  have k2 := fun w hT => kind_any t w (by omega) hT
  have s1 := fun w hT => scan_any (s ++ t) w (by rw [ByteArray.size_append]; omega) hT
  have hle := scanW_le (s ++ t).data.toList
  rw [← Lib.size_eq] at hle
  obtain ⟨b, hb⟩ : ∃ b, apartW s.data.toList t.data.toList = b := ⟨_, rfl⟩
  have hb' := hb
  rw [hb]
  unfold apartW at hb'
  rw [← app_data] at hb'
  generalize scanW (s ++ t).data.toList = R at *
  generalize kindW s.data.toList = k at *
  generalize kindW t.data.toList = l at *
  have hl : s.data.toList.length = s.size := (Lib.size_eq s).symm
  rw [hl] at hb'
  have K1 := Lib.hid k1; have K2 := Lib.hid k2; have S1 := Lib.hid s1; have HT := Lib.hid hT
  clear k1 k2 s1 hT hb hl
  by_cases hk : k = 0
  · have e : b = false := by rw [← hb', hk]; simp
    subst e
    have hk0 : (k == 0) = true := beq_iff_eq.2 hk
    clear hb' hk
    go_enter Tryd.func17, Tryd.ntmps17
    go_wp2_with fail
    refine (K1.out _ HT.out).mono ?_
    rintro e w1 ⟨rfl, hb1⟩
    have HB := Lib.hid hb1
    have HT1 := Lib.hid (HT.out.below hb1)
    clear hb1
    go_wp2_with fail
    refine (K2.out _ HT1.out).mono ?_
    rintro e w2 ⟨rfl, hb2⟩
    have HB2 := Lib.hid (Below.then HB.out hb2)
    clear hb2
    go_wp2_with fail
    go_ret
    exact ⟨rfl, HB2.out⟩
  have hk0 : (k == 0) = false := beq_eq_false_iff_ne.2 hk
  by_cases hl : l = 0
  · have e : b = false := by rw [← hb', hl]; simp
    subst e
    have hl0 : (l == 0) = true := beq_iff_eq.2 hl
    clear hb' hk hl
    go_enter Tryd.func17, Tryd.ntmps17
    go_wp2_with fail
    refine (K1.out _ HT.out).mono ?_
    rintro e w1 ⟨rfl, hb1⟩
    have HB := Lib.hid hb1
    have HT1 := Lib.hid (HT.out.below hb1)
    clear hb1
    go_wp2_with fail
    refine (K2.out _ HT1.out).mono ?_
    rintro e w2 ⟨rfl, hb2⟩
    have HB2 := Lib.hid (Below.then HB.out hb2)
    clear hb2
    go_wp2_with fail
    go_ret
    exact ⟨rfl, HB2.out⟩
  have hl0 : (l == 0) = false := beq_eq_false_iff_ne.2 hl
  by_cases hm : R.1 = k
  · have hm0 : (R.1 != k) = false := by simpa using hm
    by_cases hn : R.2.1 = s.size
    · have e : b = true := by rw [← hb']; simp [hk, hl, hm, hn]
      subst e
      have hx : (s ++ t).extract 0 R.2.1 = s := by rw [hn]; exact app_left s t
      rw [hx] at S1
      have hbb : (s.toList == s.toList) = true := by simp
      clear hb' hk hl hm hn hx
      go_enter Tryd.func17, Tryd.ntmps17
      go_wp2_with fail
      refine (K1.out _ HT.out).mono ?_
      rintro e w1 ⟨rfl, hb1⟩
      have HB := Lib.hid hb1
      have HT1 := Lib.hid (HT.out.below hb1)
      clear hb1
      go_wp2_with fail
      refine (K2.out _ HT1.out).mono ?_
      rintro e w2 ⟨rfl, hb2⟩
      have HB2 := Lib.hid (Below.then HB.out hb2)
      have HT2 := Lib.hid (HT1.out.below hb2)
      clear hb2
      go_wp2_with fail
      refine (S1.out _ HT2.out).mono ?_
      rintro e w3 ⟨rfl, hb3⟩
      have HB3 := Lib.hid (Below.then HB2.out hb3)
      clear hb3
      go_wp2_with fail
      go_ret
      exact ⟨rfl, HB3.out⟩
    · have e : b = false := by rw [← hb']; simp [hn]
      subst e
      have hbb : (((s ++ t).extract 0 R.2.1).toList == s.toList) = false := by
        rw [beq_eq_false_iff_ne, Lib.toList_data, Lib.toList_data, ext_data]
        intro e
        have := congrArg List.length e
        rw [List.length_take, ← Lib.size_eq, ← Lib.size_eq] at this
        omega
      generalize (s ++ t).extract 0 R.2.1 = x at *
      clear hb' hk hl hm hn
      go_enter Tryd.func17, Tryd.ntmps17
      go_wp2_with fail
      refine (K1.out _ HT.out).mono ?_
      rintro e w1 ⟨rfl, hb1⟩
      have HB := Lib.hid hb1
      have HT1 := Lib.hid (HT.out.below hb1)
      clear hb1
      go_wp2_with fail
      refine (K2.out _ HT1.out).mono ?_
      rintro e w2 ⟨rfl, hb2⟩
      have HB2 := Lib.hid (Below.then HB.out hb2)
      have HT2 := Lib.hid (HT1.out.below hb2)
      clear hb2
      go_wp2_with fail
      refine (S1.out _ HT2.out).mono ?_
      rintro e w3 ⟨rfl, hb3⟩
      have HB3 := Lib.hid (Below.then HB2.out hb3)
      clear hb3
      go_wp2_with fail
      go_ret
      exact ⟨rfl, HB3.out⟩
  · have e : b = false := by rw [← hb']; simp [hm]
    subst e
    have hm0 : (R.1 != k) = true := by simpa using hm
    clear hb' hk hl hm
    go_enter Tryd.func17, Tryd.ntmps17
    go_wp2_with fail
    refine (K1.out _ HT.out).mono ?_
    rintro e w1 ⟨rfl, hb1⟩
    have HB := Lib.hid hb1
    have HT1 := Lib.hid (HT.out.below hb1)
    clear hb1
    go_wp2_with fail
    refine (K2.out _ HT1.out).mono ?_
    rintro e w2 ⟨rfl, hb2⟩
    have HB2 := Lib.hid (Below.then HB.out hb2)
    have HT2 := Lib.hid (HT1.out.below hb2)
    clear hb2
    go_wp2_with fail
    refine (S1.out _ HT2.out).mono ?_
    rintro e w3 ⟨rfl, hb3⟩
    have HB3 := Lib.hid (Below.then HB2.out hb3)
    clear hb3
    go_wp2_with fail
    go_ret
    exact ⟨rfl, HB3.out⟩
end Go.Proofs.YthiljpnabgbabaaDoor
