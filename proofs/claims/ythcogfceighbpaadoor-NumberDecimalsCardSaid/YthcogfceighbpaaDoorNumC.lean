/- DERIVED. The walks of number's scan. -/
import Derived.Test.YthcogfceighbpaaDoorNumB
set_option linter.unusedSimpArgs false
set_option linter.unusedVariables false
namespace Go.Proofs.YthcogfceighbpaaDoor
open Go.RowKit

def numV (s : ByteArray) (p : Int × Nat) : Value := .tuple #[.int .i64 p.1, .string (s.extract 0 p.2)]
theorem ext0 (s : ByteArray) : s.extract 0 0 = ⟨#[]⟩ := by apply ByteArray.ext; simp
theorem point_pre (l : List UInt8) (n : Nat) : Lib.hasPrefix (l.drop n) [46] = decide (l[n]? = some 46) := by
  rw [← List.head?_drop]
  cases l.drop n with
  | nil => rfl
  | cons a t =>
    simp only [Lib.hasPrefix, List.isPrefixOf, Bool.and_true, List.head?_cons, Option.some.injEq]
    rw [Bool.eq_iff_iff, beq_iff_eq, decide_eq_true_eq]
    exact eq_comm
set_option maxRecDepth 20000 in
set_option maxHeartbeats 4000000 in
theorem scan_any (s : ByteArray) (w : World) (hs : s.size ≤ 1152921504606846976) :
    Calls Tryd.prog 22 #[.string s] w fun e w' => e = .returned (numV s (scanX s.data.toList)) ∧ Below w.heap.size w w' := by
  obtain ⟨R, hR⟩ : ∃ R, scanX s.data.toList = R := ⟨_, rfl⟩
  rw [hR]
  have P1 := prefixed_any s w hs
  have hle := scanX_le s.data.toList
  rw [hR, ← Lib.size_eq] at hle
  unfold scanX at hR
  have hpre : (prefX s.data.toList = (10, 0)) ∨ ((prefX s.data.toList = (8, 2) ∨ prefX s.data.toList = (16, 2)) ∧ 2 < s.size ∧ 0 < digN (prefX s.data.toList).1 (s.data.toList.drop 2)) := by
    unfold prefX
    have hl : ∀ b, 0 < digN b (s.data.toList.drop 2) → 2 < s.size := fun b h => by
      have := digN_le b (s.data.toList.drop 2); rw [List.length_drop, ← Lib.size_eq] at this; omega
    split
    · next h => exact .inr ⟨.inl rfl, hl _ h.2.2, h.2.2⟩
    · split
      · next h => exact .inr ⟨.inr rfl, hl _ h.2.2, h.2.2⟩
      · exact .inl rfl
  rcases hpre with hp | ⟨hp, h2, hd⟩
  · rw [hp] at hR P1
    simp only [show ((0 : Nat) = 2) = False from by simp, if_false] at hR
    have P1 := Lib.hid P1
    have C0 := fun w => rowN_any s 10 w hs
    have hdl := digN_le 10 s.data.toList
    rw [← Lib.size_eq] at hdl
    clear hp
    obtain ⟨d, hdd⟩ : ∃ d, digN 10 s.data.toList = d := ⟨_, rfl⟩
    rw [hdd] at hR hdl C0
    have C0 := Lib.hid C0
    by_cases h0 : d = 0
    · have HR := Lib.hid (show R = (0, 0) from by rw [← hR, if_pos h0])
      have t0 : ((d : Int) == 0) = true := by simp; omega
      clear hR hdd h0
      go_enter Tryd.func22, Tryd.ntmps22
      go_wp2_with fail
      refine P1.out.mono ?_
      rintro e w1 ⟨rfl, hb1⟩
      have HB1 := Lib.hid (hb1)
      clear hb1
      unfold pairV
      go_wp2_with fail
      refine (C0.out _).mono ?_
      rintro e w2 ⟨rfl, hb2⟩
      have HB2 := Lib.hid (Below.then HB1.out hb2)
      clear hb2
      go_wp2_with fail
      go_ret2
      exact ⟨by rw [HR.out]; unfold numV; rw [ext0]; rfl, HB2.out⟩
    · rw [if_neg h0] at hR
      have t0 : ((d : Int) == 0) = false := by simp; omega
      have PR := Tryd.strings_HasPrefix (s.extract d s.size) ⟨#[46]⟩
      rw [cut_data] at PR
      rw [show (⟨#[46]⟩ : ByteArray).data.toList = [46] from rfl, point_pre] at PR
      have E0 := exponent_any (s.extract d s.size)
      rw [cut_data, cut_size s d (by omega)] at E0
      have E0 := Lib.hid fun w => E0 w (by omega)
      clear hdd h0
      by_cases hpt : s.data.toList[d]? = some 46
      · rw [decide_eq_true hpt] at PR
        have PR := Lib.hid PR
        have hdlt : d < s.size := by have := (List.getElem?_eq_some_iff.1 hpt).1; rw [← Lib.size_eq] at this; exact this
        have C1 := rowN_any (s.extract (d + 1) s.size) 10
        rw [cut_data, cut_size s (d + 1) (by omega)] at C1
        have C1 := Lib.hid fun w => C1 w (by omega)
        have hel := digN_le 10 (s.data.toList.drop (d + 1))
        rw [List.length_drop, ← Lib.size_eq] at hel
        obtain ⟨f, hff⟩ : ∃ f, digN 10 (s.data.toList.drop (d + 1)) = f := ⟨_, rfl⟩
        rw [hff] at hR C1 hel
        clear hff
        by_cases hf : 0 < f
        · rw [show (if s.data.toList[d]? = some 46 ∧ 0 < f then ((12 : Int), d + 1 + f) else (11, d)) = (12, d + 1 + f) from if_pos ⟨hpt, hf⟩] at hR
          have t1 : decide (0 < f) = true := by simp; omega
          have t1x : (0 : Int) < f := by omega
          have E1 := exponent_any (s.extract (d + 1 + f) s.size)
          rw [cut_data, cut_size s (d + 1 + f) (by omega)] at E1
          have E1 := Lib.hid fun w => E1 w (by omega)
          have hxl := expX_le (s.data.toList.drop (d + 1 + f))
          rw [List.length_drop, ← Lib.size_eq] at hxl
          obtain ⟨g, hgg⟩ : ∃ g, expX (s.data.toList.drop (d + 1 + f)) = g := ⟨_, rfl⟩
          simp only [hgg] at hR
          rw [hgg] at E1 hxl
          have b1 : d + 1 + f ≤ s.size := by omega
          have b2 : d + 1 + f + g ≤ s.size := by omega
          have b3 : (d : Int) + 1 + f + g ≤ s.size := by omega
          have b4 : (0 : Int) ≤ (d : Int) + 1 + f + g := by omega
          have b5 : ((d : Int) + 1 + f + g).toNat = d + 1 + f + g := by omega
          have b6 : (d : Int) + 1 + f ≤ s.size := by omega
          have b7 : (0 : Int) ≤ (d : Int) + 1 + f := by omega
          have b8 : ((d : Int) + 1 + f).toNat = d + 1 + f := by omega
          clear hgg hpt hf E0 hel hxl
          by_cases hg : 0 < g
          · have HR := Lib.hid (show R = (12, d + 1 + f + g) from by rw [← hR, if_pos hg])
            have t2 : decide (0 < g) = true := by simp; omega
            have t2x : (0 : Int) < g := by omega
            clear hR hg
            go_enter Tryd.func22, Tryd.ntmps22
            go_wp2_with fail
            refine P1.out.mono ?_
            rintro e w1 ⟨rfl, hb1⟩
            have HB1 := Lib.hid (hb1)
            clear hb1
            unfold pairV
            go_wp2_with fail
            refine (C0.out _).mono ?_
            rintro e w2 ⟨rfl, hb2⟩
            have HB2 := Lib.hid (Below.then HB1.out hb2)
            clear hb2
            go_wp2_with fail
            refine (PR.out _).mono ?_
            rintro e w9 ⟨rfl, rfl⟩
            go_wp2_with fail
            refine (C1.out _).mono ?_
            rintro e w3 ⟨rfl, hb3⟩
            have HB4 := Lib.hid (Below.then HB2.out hb3)
            clear hb3
            go_wp2_with fail
            refine (E1.out _).mono ?_
            rintro e w5 ⟨rfl, hb5⟩
            have HB5 := Lib.hid (Below.then HB4.out hb5)
            clear hb5
            go_wp2_with fail
            go_quiet (fail)
            go_wp2_with fail
            go_ret2
            exact ⟨by rw [HR.out]; first | rfl | (unfold numV; rfl), below_drewN HB5.out _⟩
          · have HR := Lib.hid (show R = (12, d + 1 + f) from by rw [← hR, if_neg hg])
            have t2 : decide (0 < g) = false := by simp; omega
            clear hR hg
            go_enter Tryd.func22, Tryd.ntmps22
            go_wp2_with fail
            refine P1.out.mono ?_
            rintro e w1 ⟨rfl, hb1⟩
            have HB1 := Lib.hid (hb1)
            clear hb1
            unfold pairV
            go_wp2_with fail
            refine (C0.out _).mono ?_
            rintro e w2 ⟨rfl, hb2⟩
            have HB2 := Lib.hid (Below.then HB1.out hb2)
            clear hb2
            go_wp2_with fail
            refine (PR.out _).mono ?_
            rintro e w9 ⟨rfl, rfl⟩
            go_wp2_with fail
            refine (C1.out _).mono ?_
            rintro e w3 ⟨rfl, hb3⟩
            have HB4 := Lib.hid (Below.then HB2.out hb3)
            clear hb3
            go_wp2_with fail
            refine (E1.out _).mono ?_
            rintro e w5 ⟨rfl, hb5⟩
            have HB5 := Lib.hid (Below.then HB4.out hb5)
            clear hb5
            go_wp2_with fail
            go_quiet (fail)
            go_wp2_with fail
            go_ret2
            exact ⟨by rw [HR.out]; first | rfl | (unfold numV; rfl), below_drewN HB5.out _⟩
        · rw [show (if s.data.toList[d]? = some 46 ∧ 0 < f then ((12 : Int), d + 1 + f) else (11, d)) = (11, d) from if_neg (fun h => hf h.2)] at hR
          have t1 : decide (0 < f) = false := by simp; omega
          have hxl := expX_le (s.data.toList.drop d)
          rw [List.length_drop, ← Lib.size_eq] at hxl
          obtain ⟨g, hgg⟩ : ∃ g, expX (s.data.toList.drop d) = g := ⟨_, rfl⟩
          simp only [hgg] at hR
          rw [hgg] at E0 hxl
          have E1 := E0
          have b1 : d + 1 ≤ s.size := by omega
          have b2 : d + g ≤ s.size := by omega
          have b3 : (d : Int) + g ≤ s.size := by omega
          have b4 : (0 : Int) ≤ (d : Int) + g := by omega
          have b5 : ((d : Int) + g).toNat = d + g := by omega
          clear hgg hpt hf E0 hel hxl
          by_cases hg : 0 < g
          · have HR := Lib.hid (show R = (12, d + g) from by rw [← hR, if_pos hg])
            have t2 : decide (0 < g) = true := by simp; omega
            have t2x : (0 : Int) < g := by omega
            clear hR hg
            go_enter Tryd.func22, Tryd.ntmps22
            go_wp2_with fail
            refine P1.out.mono ?_
            rintro e w1 ⟨rfl, hb1⟩
            have HB1 := Lib.hid (hb1)
            clear hb1
            unfold pairV
            go_wp2_with fail
            refine (C0.out _).mono ?_
            rintro e w2 ⟨rfl, hb2⟩
            have HB2 := Lib.hid (Below.then HB1.out hb2)
            clear hb2
            go_wp2_with fail
            refine (PR.out _).mono ?_
            rintro e w9 ⟨rfl, rfl⟩
            go_wp2_with fail
            refine (C1.out _).mono ?_
            rintro e w3 ⟨rfl, hb3⟩
            have HB4 := Lib.hid (Below.then HB2.out hb3)
            clear hb3
            go_wp2_with fail
            refine (E1.out _).mono ?_
            rintro e w5 ⟨rfl, hb5⟩
            have HB5 := Lib.hid (Below.then HB4.out hb5)
            clear hb5
            go_wp2_with fail
            go_quiet (fail)
            go_wp2_with fail
            go_ret2
            exact ⟨by rw [HR.out]; first | rfl | (unfold numV; rfl), below_drewN HB5.out _⟩
          · have HR := Lib.hid (show R = (11, d) from by rw [← hR, if_neg hg])
            have t2 : decide (0 < g) = false := by simp; omega
            clear hR hg
            go_enter Tryd.func22, Tryd.ntmps22
            go_wp2_with fail
            refine P1.out.mono ?_
            rintro e w1 ⟨rfl, hb1⟩
            have HB1 := Lib.hid (hb1)
            clear hb1
            unfold pairV
            go_wp2_with fail
            refine (C0.out _).mono ?_
            rintro e w2 ⟨rfl, hb2⟩
            have HB2 := Lib.hid (Below.then HB1.out hb2)
            clear hb2
            go_wp2_with fail
            refine (PR.out _).mono ?_
            rintro e w9 ⟨rfl, rfl⟩
            go_wp2_with fail
            refine (C1.out _).mono ?_
            rintro e w3 ⟨rfl, hb3⟩
            have HB4 := Lib.hid (Below.then HB2.out hb3)
            clear hb3
            go_wp2_with fail
            refine (E1.out _).mono ?_
            rintro e w5 ⟨rfl, hb5⟩
            have HB5 := Lib.hid (Below.then HB4.out hb5)
            clear hb5
            go_wp2_with fail
            go_quiet (fail)
            go_wp2_with fail
            go_ret2
            exact ⟨by rw [HR.out]; first | rfl | (unfold numV; rfl), below_drewN HB5.out _⟩
      · rw [show (if s.data.toList[d]? = some 46 ∧ 0 < digN 10 (s.data.toList.drop (d + 1)) then ((12 : Int), d + 1 + digN 10 (s.data.toList.drop (d + 1))) else (11, d)) = (11, d) from if_neg (fun h => hpt h.1)] at hR
        rw [decide_eq_false hpt] at PR
        have PR := Lib.hid PR
        have hxl := expX_le (s.data.toList.drop d)
        rw [List.length_drop, ← Lib.size_eq] at hxl
        obtain ⟨g, hgg⟩ : ∃ g, expX (s.data.toList.drop d) = g := ⟨_, rfl⟩
        simp only [hgg] at hR
        rw [hgg] at E0 hxl
        have b2 : d + g ≤ s.size := by omega
        have b3 : (d : Int) + g ≤ s.size := by omega
        have b4 : (0 : Int) ≤ (d : Int) + g := by omega
        have b5 : ((d : Int) + g).toNat = d + g := by omega
        clear hgg hpt hxl
        by_cases hg : 0 < g
        · have HR := Lib.hid (show R = (12, d + g) from by rw [← hR, if_pos hg])
          have t2 : decide (0 < g) = true := by simp; omega
          have t2x : (0 : Int) < g := by omega
          clear hR hg
          go_enter Tryd.func22, Tryd.ntmps22
          go_wp2_with fail
          refine P1.out.mono ?_
          rintro e w1 ⟨rfl, hb1⟩
          have HB1 := Lib.hid (hb1)
          clear hb1
          unfold pairV
          go_wp2_with fail
          refine (C0.out _).mono ?_
          rintro e w2 ⟨rfl, hb2⟩
          have HB2 := Lib.hid (Below.then HB1.out hb2)
          clear hb2
          go_wp2_with fail
          refine (PR.out _).mono ?_
          rintro e w9 ⟨rfl, rfl⟩
          go_wp2_with fail
          refine (E0.out _).mono ?_
          rintro e w3 ⟨rfl, hb3⟩
          have HB3 := Lib.hid (Below.then HB2.out hb3)
          clear hb3
          go_wp2_with fail
          go_quiet (fail)
          go_wp2_with fail
          go_ret2
          exact ⟨by rw [HR.out]; first | rfl | (unfold numV; rfl), below_drewN HB3.out _⟩
        · have HR := Lib.hid (show R = (11, d) from by rw [← hR, if_neg hg])
          have t2 : decide (0 < g) = false := by simp; omega
          clear hR hg
          go_enter Tryd.func22, Tryd.ntmps22
          go_wp2_with fail
          refine P1.out.mono ?_
          rintro e w1 ⟨rfl, hb1⟩
          have HB1 := Lib.hid (hb1)
          clear hb1
          unfold pairV
          go_wp2_with fail
          refine (C0.out _).mono ?_
          rintro e w2 ⟨rfl, hb2⟩
          have HB2 := Lib.hid (Below.then HB1.out hb2)
          clear hb2
          go_wp2_with fail
          refine (PR.out _).mono ?_
          rintro e w9 ⟨rfl, rfl⟩
          go_wp2_with fail
          refine (E0.out _).mono ?_
          rintro e w3 ⟨rfl, hb3⟩
          have HB3 := Lib.hid (Below.then HB2.out hb3)
          clear hb3
          go_wp2_with fail
          go_quiet (fail)
          go_wp2_with fail
          go_ret2
          exact ⟨by rw [HR.out]; first | rfl | (unfold numV; rfl), below_drewN HB3.out _⟩
  · have hF : R = (11, 2 + digN (prefX s.data.toList).1 (s.data.toList.drop 2)) := by
      rw [← hR, if_pos (by rcases hp with h | h <;> rw [h])]
    have C2 := rowN_any (s.extract 2 s.size) (prefX s.data.toList).1
    rw [cut_data, cut_size s 2 (by omega)] at C2
    have hdl := digN_le (prefX s.data.toList).1 (s.data.toList.drop 2)
    rw [List.length_drop, ← Lib.size_eq] at hdl
    clear hR
    obtain ⟨d, hdd⟩ : ∃ d, digN (prefX s.data.toList).1 (s.data.toList.drop 2) = d := ⟨_, rfl⟩
    rw [hdd] at C2 hF hdl hd
    clear hdd
    have HF := Lib.hid hF
    have b1 : 2 + d ≤ s.size := by omega
    have b3 : (2 : Int) + d ≤ s.size := by omega
    have b4 : (0 : Int) ≤ (2 : Int) + d := by omega
    have b5 : ((2 : Int) + d).toNat = 2 + d := by omega
    clear hF hdl
    rcases hp with hp | hp
    all_goals
      rw [hp] at C2 P1
      have P1 := Lib.hid P1
      have C2 := Lib.hid fun w => C2 w (by omega)
      clear hp
      go_enter Tryd.func22, Tryd.ntmps22
      go_wp2_with fail
      refine P1.out.mono ?_
      rintro e w1 ⟨rfl, hb1⟩
      have HB1 := Lib.hid (hb1)
      clear hb1
      unfold pairV
      go_wp2_with fail
      refine (C2.out _).mono ?_
      rintro e w2 ⟨rfl, hb2⟩
      have HB2 := Lib.hid (Below.then HB1.out hb2)
      clear hb2
      go_wp2_with fail
      go_quiet (fail)
      go_wp2_with fail
      go_ret2
      exact ⟨by rw [HF.out]; first | rfl | (unfold numV; rfl), below_drewN HB2.out _⟩
end Go.Proofs.YthcogfceighbpaaDoor
