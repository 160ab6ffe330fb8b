/- DERIVED. The walks of number's exponent, scan, Scan and is. -/
import Derived.Test.YthcogfceighbpaaDoorNumA
set_option linter.unusedSimpArgs false
set_option linter.unusedVariables false
namespace Go.Proofs.YthcogfceighbpaaDoor
open Go.RowKit

theorem byteK (x : UInt8) (c : Nat) (ci : Int) (hi : ci = c) (hc : c < 256) : (x = UInt8.ofNat c → ((x.toNat : Int) == ci) = true ∧ ((x.toNat : Int) != ci) = false) ∧ (¬ x = UInt8.ofNat c → ((x.toNat : Int) == ci) = false ∧ ((x.toNat : Int) != ci) = true) := by
  subst hi
  have k := byte_is x c hc
  refine ⟨fun h => ?_, fun h => ?_⟩
  · rw [decide_eq_true h] at k; exact ⟨k, by rw [bne, k]; rfl⟩
  · rw [decide_eq_false h] at k; exact ⟨k, by rw [bne, k]; rfl⟩
theorem empty_l {s : ByteArray} (h : s.size = 0) : s.toList = [] := by rw [Lib.toList_data]; exact List.length_eq_zero_iff.1 (by rw [← Lib.size_eq]; exact h)
theorem full_l {s : ByteArray} (h : 0 < s.size) : s.toList.isEmpty = false ∧ (s.toList == []) = false := by
  have : s.toList ≠ [] := by
    rw [Lib.toList_data]; intro e
    have h2 : s.size = 0 := by rw [Lib.size_eq, e]; rfl
    omega
  cases hs : s.toList with
  | nil => exact absurd hs this
  | cons a t => exact ⟨rfl, rfl⟩

set_option maxRecDepth 20000 in
set_option maxHeartbeats 2000000 in
theorem exponent_any (s : ByteArray) (w : World) (hs : s.size ≤ 1152921504606846976) :
    Calls Tryd.prog 42 #[.string s] w fun e w' => e = .returned (.int .i64 (expX s.data.toList : Nat)) ∧ Below w.heap.size w w' := by
  obtain ⟨R, hR⟩ : ∃ R, expX s.data.toList = R := ⟨_, rfl⟩
  rw [hR]
  unfold expX at hR
  by_cases h0 : s.size = 0
  · have HR := Lib.hid (show R = 0 from by rw [← hR, at_none s 0 (by omega)]; simp)
    have t0 : s.toList.isEmpty = true := by rw [empty_l h0]; rfl
    have t1 : (s.toList == []) = true := by rw [empty_l h0]; rfl
    clear hR h0
    go_enter Tryd.func42, Tryd.ntmps42
    go_wp2_with fail
    go_ret
    exact ⟨by rw [HR.out]; rfl, Below.refl _ _⟩
  · have i0 : 0 < s.size := by omega
    obtain ⟨t0, t1⟩ := full_l i0
    have e0 := at_list s 0 i0
    obtain ⟨k0, n0⟩ := byteK s[0] 101 101 rfl (by decide)
    obtain ⟨k1, n1⟩ := byteK s[0] 69 69 rfl (by decide)
    have C1 := rowN_any (s.extract 1 s.size) 10
    have C2 := rowN_any (s.extract 2 s.size) 10
    rw [cut_data, cut_size s 1 (by omega)] at C1
    rw [cut_data] at C2
    rw [e0] at hR
    simp only [Option.some.injEq] at hR
    clear h0 e0
    by_cases he : s[0] = 101 ∨ s[0] = 69
    · have hq : (((s[0].toNat : Int) == 101) = true ∧ ((s[0].toNat : Int) != 101) = false) ∨ ((((s[0].toNat : Int) == 101) = false ∧ ((s[0].toNat : Int) != 101) = true) ∧ (((s[0].toNat : Int) == 69) = true ∧ ((s[0].toNat : Int) != 69) = false)) := by
        by_cases h : s[0] = 101
        · exact .inl (k0 h)
        · exact .inr ⟨n0 h, k1 (he.resolve_left h)⟩
      rw [if_pos he] at hR
      clear k0 k1 n0 n1 he
      by_cases h1 : s.size = 1
      · have HR := Lib.hid (show R = 0 from by
          rw [← hR, at_none s 1 (by omega)]
          simp only [reduceCtorEq, or_self, if_false]
          rw [List.drop_eq_nil_of_le (by rw [← Lib.size_eq]; omega)]; rfl)
        have C := C1 w (by omega)
        rw [List.drop_eq_nil_of_le (by rw [← Lib.size_eq]; omega)] at C
        have HC := Lib.hid C
        have t3 : decide ((1 : Int) < s.size) = false := by simp; omega
        clear hR C C1 C2 h1
        rcases hq with ⟨q1, q2⟩ | ⟨⟨q1, q2⟩, q3, q4⟩
        all_goals
          go_enter Tryd.func42, Tryd.ntmps42
          go_wp2_with fail
          refine HC.out.mono ?_
          rintro e w1 ⟨rfl, hb1⟩
          have HB1 := Lib.hid (hb1)
          clear hb1
          go_wp2_with fail
          go_ret
          exact ⟨by rw [HR.out]; rfl, HB1.out⟩
      · have i1 : 1 < s.size := by omega
        have t3 : decide ((1 : Int) < s.size) = true := by simp; omega
        have e1 := at_list s 1 i1
        obtain ⟨k0, n0⟩ := byteK s[1] 43 43 rfl (by decide)
        obtain ⟨k1, n1⟩ := byteK s[1] 45 45 rfl (by decide)
        rw [e1] at hR
        simp only [Option.some.injEq] at hR
        clear h1 e1
        by_cases hsg : s[1] = 43 ∨ s[1] = 45
        · have hp : (((s[1].toNat : Int) == 43) = true ∧ ((s[1].toNat : Int) != 43) = false) ∨ ((((s[1].toNat : Int) == 43) = false ∧ ((s[1].toNat : Int) != 43) = true) ∧ (((s[1].toNat : Int) == 45) = true ∧ ((s[1].toNat : Int) != 45) = false)) := by
            by_cases h : s[1] = 43
            · exact .inl (k0 h)
            · exact .inr ⟨n0 h, k1 (hsg.resolve_left h)⟩
          rw [if_pos hsg] at hR
          have C := C2 w (by rw [cut_size s 2 (by omega)]; omega)
          have hdl := digN_le 10 (s.data.toList.drop 2)
          rw [List.length_drop, ← Lib.size_eq] at hdl
          clear k0 k1 n0 n1 hsg C1 C2
          generalize digN 10 (s.data.toList.drop 2) = d at *
          have HC := Lib.hid C
          have HR := Lib.hid hR
          clear C hR
          by_cases hd : d = 0
          · have t4 : ((d : Int) == 0) = true := by simp; omega
            have HR2 := Lib.hid (show R = 0 from by rw [← HR.out, if_pos hd])
            clear hd
            rcases hq with ⟨q1, q2⟩ | ⟨⟨q1, q2⟩, q3, q4⟩ <;> rcases hp with ⟨p1, p2⟩ | ⟨⟨p1, p2⟩, p3, p4⟩
            all_goals
              go_enter Tryd.func42, Tryd.ntmps42
              go_wp2_with fail
              refine HC.out.mono ?_
              rintro e w1 ⟨rfl, hb1⟩
              have HB1 := Lib.hid (hb1)
              clear hb1
              go_wp2_with fail
              go_ret
              exact ⟨by rw [HR2.out]; rfl, HB1.out⟩
          · have t4 : ((d : Int) == 0) = false := by simp; omega
            have HR2 := Lib.hid (show R = 2 + d from by rw [← HR.out, if_neg hd])
            clear hd
            rcases hq with ⟨q1, q2⟩ | ⟨⟨q1, q2⟩, q3, q4⟩ <;> rcases hp with ⟨p1, p2⟩ | ⟨⟨p1, p2⟩, p3, p4⟩
            all_goals
              go_enter Tryd.func42, Tryd.ntmps42
              go_wp2_with fail
              refine HC.out.mono ?_
              rintro e w1 ⟨rfl, hb1⟩
              have HB1 := Lib.hid (hb1)
              clear hb1
              go_wp2_with fail
              go_ret
              exact ⟨by rw [HR2.out]; go_num, HB1.out⟩
        · have p1 := n0 (fun h => hsg (.inl h))
          have p2 := n1 (fun h => hsg (.inr h))
          obtain ⟨p1, p3⟩ := p1
          obtain ⟨p2, p4⟩ := p2
          rw [if_neg hsg] at hR
          have C := C1 w (by omega)
          have hdl := digN_le 10 (s.data.toList.drop 1)
          rw [List.length_drop, ← Lib.size_eq] at hdl
          clear k0 k1 n0 n1 hsg C1 C2
          generalize digN 10 (s.data.toList.drop 1) = d at *
          have HC := Lib.hid C
          have HR := Lib.hid hR
          clear C hR
          by_cases hd : d = 0
          · have t4 : ((d : Int) == 0) = true := by simp; omega
            have HR2 := Lib.hid (show R = 0 from by rw [← HR.out, if_pos hd])
            clear hd
            rcases hq with ⟨q1, q2⟩ | ⟨⟨q1, q2⟩, q3, q4⟩
            all_goals
              go_enter Tryd.func42, Tryd.ntmps42
              go_wp2_with fail
              refine HC.out.mono ?_
              rintro e w1 ⟨rfl, hb1⟩
              have HB1 := Lib.hid (hb1)
              clear hb1
              go_wp2_with fail
              go_ret
              exact ⟨by rw [HR2.out]; rfl, HB1.out⟩
          · have t4 : ((d : Int) == 0) = false := by simp; omega
            have HR2 := Lib.hid (show R = 1 + d from by rw [← HR.out, if_neg hd])
            clear hd
            rcases hq with ⟨q1, q2⟩ | ⟨⟨q1, q2⟩, q3, q4⟩
            all_goals
              go_enter Tryd.func42, Tryd.ntmps42
              go_wp2_with fail
              refine HC.out.mono ?_
              rintro e w1 ⟨rfl, hb1⟩
              have HB1 := Lib.hid (hb1)
              clear hb1
              go_wp2_with fail
              go_ret
              exact ⟨by rw [HR2.out]; go_num, HB1.out⟩
    · have HR := Lib.hid (show R = 0 from by rw [← hR, if_neg he])
      obtain ⟨p1, p3⟩ := n0 (fun h => he (.inl h))
      obtain ⟨p2, p4⟩ := n1 (fun h => he (.inr h))
      clear k0 k1 n0 n1 he hR C1 C2
      go_enter Tryd.func42, Tryd.ntmps42
      go_wp2_with fail
      go_ret
      exact ⟨by rw [HR.out]; rfl, Below.refl _ _⟩
end Go.Proofs.YthcogfceighbpaaDoor
