/- DERIVED. The walks of number's row, prefixed, exponent, scan, Scan and is. DERIVED. The walks of number's exponent, scan, Scan and is. DERIVED. The walks of number's scan. DERIVED. The walks of number's Scan and is. -/
import Derived.Test.YtikkdkacflkifaaDoorNumP
import Derived.Test.YtikkdkacflkifaaDoorRun
set_option linter.unusedSimpArgs false
set_option linter.unusedVariables false
namespace Go.Proofs.YtikkdkacflkifaaDoor
open Go.RowKit

set_option maxHeartbeats 1000000 in
theorem rowN_any (c : ByteArray) (base : Int) (w : World) (hs : c.size ≤ 1152921504606846976) :
    Calls Tryd.prog 68 #[.string c, .int .i64 base] w fun e w' => e = .returned (.int .i64 (digN base c.data.toList : Nat)) ∧ Below w.heap.size w w' := by
  obtain ⟨R, hR⟩ : ∃ R : Nat, span (isDig base) c.data.toList = R := ⟨_, rfl⟩
  have hF : digN base c.data.toList = R := by rw [← hR, span_dig base _ _ (Nat.le_refl _)]
  rw [hF]
  have hRs : R ≤ c.size := by have := span_le' (isDig base) c.data.toList; rw [hR, ← Lib.size_eq] at this; exact this
  have HR := Lib.hid hR
  clear hF hR
  have hd : ∀ pos, Utf8.decode c pos = dec (c.data.toList.drop pos) := fun pos => decode_eq _ _
  have HD := Lib.hid hd
  clear hd
  go_enter Tryd.func68, Tryd.ntmps68
  go_wp2_with fail
  go_loopw [] (fun wr => ∃ pos : Nat, Iter w c pos wr ∧ Come (isDig base) c.data.toList pos) (fun wr => c.size - wr.iterPos w.heap.size)
  case atStart => exact ⟨0, Iter.start _ _, Come.start _ _⟩
  case round =>
    obtain ⟨pos, hI, hC⟩ := hrel
    have HP := Lib.hid (iterPos_at hI)
    by_cases hp : pos < c.size
    · have hpl : pos < c.data.toList.length := by rw [← Lib.size_eq]; exact hp
      have hnx : ∀ ty, (Instr.next (.pointer (some ⟨w.heap.size, 0, none⟩)) true ty).run Tryd.prog wr = _ := fun ty => Lib.run_next_any_at wr w.heap.size c pos ty hI.1 hp
      rw [HD.out] at hnx
      have hdl := dec_len _ (drop_ne hpl)
      have hposR : pos ≤ R := by have := hC.2; rw [HR.out] at this; omega
      have hI2 := hI.next (pos + (dec (c.data.toList.drop pos)).2)
      by_cases hk : isDig base (dec (c.data.toList.drop pos)).1 = true
      · have hC2 := hC.next hpl hk
        have hkb : decide (dig ((dec (c.data.toList.drop pos)).1 : Int) base < 0) = false := by unfold isDig at hk; simp at hk ⊢; omega
        have hq := Lib.hid hC2.1
        have HK := Lib.hid hk
        clear hk
        go_wp2_with (go_at_call 56; refine (digit_any _ _ _).mono ?_; rintro e w' ⟨rfl, rfl⟩)
        go_roundw
        case rel => exact ⟨_, hI2, hC2⟩
        case measure =>
          rw [HP.out, iterPos_at hI2]
          have := hq.out
          rw [← Lib.size_eq] at this
          omega
      · have hkb : decide (dig ((dec (c.data.toList.drop pos)).1 : Int) base < 0) = true := by unfold isDig at hk; simp at hk ⊢; omega
        have hE := hC.stop (by simpa using hk)
        rw [HR.out] at hE
        subst hE
        clear hk
        go_wp2_with (go_at_call 56; refine (digit_any _ _ _).mono ?_; rintro e w' ⟨rfl, rfl⟩)
        go_ret
        exact ⟨by go_num, hI2.2⟩
    · have hpl : ¬ pos < c.data.toList.length := by rw [← Lib.size_eq]; exact hp
      have hnx : ∀ ty, (Instr.next (.pointer (some ⟨w.heap.size, 0, none⟩)) true ty).run Tryd.prog wr = _ := fun ty => Lib.run_next_end_at wr w.heap.size c pos ty hI.1 hp
      have hE := hC.end hpl
      have hS := hC.size hpl
      rw [HR.out] at hE
      rw [← Lib.size_eq] at hS
      have hfin : ((R : Nat) : Int) = c.size := by omega
      have HF := Lib.hid hfin
      clear hfin hE hS
      go_wp2_with fail
      go_ret
      exact ⟨ret_int HF.out.symm, hI.2⟩

theorem at_list (s : ByteArray) (i : Nat) (h : i < s.size) : s.data.toList[i]? = some s[i] := by
  rw [List.getElem?_eq_getElem (by rw [← Lib.size_eq]; exact h)]; rfl
theorem at_none (s : ByteArray) (i : Nat) (h : ¬ i < s.size) : s.data.toList[i]? = none := List.getElem?_eq_none (by rw [← Lib.size_eq]; omega)
theorem byte_is (x : UInt8) (c : Nat) (hc : c < 256) : ((x.toNat : Int) == (c : Int)) = decide (x = UInt8.ofNat c) := by
  rw [Bool.eq_iff_iff, beq_iff_eq, decide_eq_true_eq]
  constructor
  · intro h; apply UInt8.toNat_inj.1; rw [UInt8.toNat_ofNat']; omega
  · rintro rfl; rw [UInt8.toNat_ofNat']; omega
def pairV (p : Int × Nat) : Value := .tuple #[.int .i64 p.1, .int .i64 (p.2 : Nat)]
set_option maxHeartbeats 1000000 in
theorem prefixed_any (s : ByteArray) (w : World) (hs : s.size ≤ 1152921504606846976) :
    Calls Tryd.prog 55 #[.string s] w fun e w' => e = .returned (pairV (prefX s.data.toList)) ∧ Below w.heap.size w w' := by
  obtain ⟨R, hR⟩ : ∃ R, prefX s.data.toList = R := ⟨_, rfl⟩
  rw [hR]
  by_cases h2 : s.size < 2
  · have HR := Lib.hid (show R = (10, 0) from by
      rw [← hR]; unfold prefX
      rw [List.drop_eq_nil_of_le (by rw [← Lib.size_eq]; omega)]
      simp [digN])
    have t0 : decide ((s.size : Int) < 2) = true := by simp; omega
    clear hR h2
    go_enter Tryd.func55, Tryd.ntmps55
    go_wp2_with fail
    go_ret2
    exact ⟨by rw [HR.out]; rfl, Below.refl _ _⟩
  · have i0 : 0 < s.size := by omega
    have i1 : 1 < s.size := by omega
    have t0 : decide ((s.size : Int) < 2) = false := by simp; omega
    have e0 := at_list s 0 i0
    have e1 := at_list s 1 i1
    have hcut := cut_data s 2
    have hcs := cut_size s 2 (by omega)
    have R8 := rowN_any (s.extract 2 s.size) 8 w (by omega)
    have R16 := rowN_any (s.extract 2 s.size) 16 w (by omega)
    rw [hcut] at R8 R16
    unfold prefX at hR
    rw [e0, e1] at hR
    simp only [Option.some.injEq] at hR
    have k0 := byte_is s[0] 48 (by decide)
    have k1 := byte_is s[1] 111 (by decide)
    have k2 := byte_is s[1] 79 (by decide)
    have k3 := byte_is s[1] 120 (by decide)
    have k4 := byte_is s[1] 88 (by decide)
    clear e0 e1 hcut hcs h2
    by_cases h0 : s[0] = 48
    · have t1 : ((s[0].toNat : Int) == 48) = true := by rw [show (48 : Int) = ((48 : Nat) : Int) from rfl, k0]; simpa using h0
      have t2 : ((s[0].toNat : Int) != 48) = false := by rw [bne, t1]; rfl
      by_cases h8 : s[1] = 111 ∨ s[1] = 79
      · have hq : ((s[1].toNat : Int) == 111) = true ∨ (((s[1].toNat : Int) == 111) = false ∧ ((s[1].toNat : Int) == 79) = true) := by
          rw [show (111 : Int) = ((111 : Nat) : Int) from rfl, show (79 : Int) = ((79 : Nat) : Int) from rfl, k1, k2]
          by_cases h : s[1] = 111
          · left; simpa using h
          · right; exact ⟨by simpa using h, by simpa using h8.resolve_left h⟩
        have hx : ¬ (s[1] = 120 ∨ s[1] = 88) := by rintro (h | h) <;> rcases h8 with h8 | h8 <;> rw [h] at h8 <;> revert h8 <;> decide
        by_cases hd : digN 8 (s.data.toList.drop 2) = 0
        · have HR := Lib.hid (show R = (10, 0) from by rw [← hR, if_neg (by rintro ⟨_, _, h⟩; omega), if_neg (fun h => hx h.2.1)])
          rw [hd] at R8
          have C8 := Lib.hid R8
          clear R8 R16 hR hd hx h8 h0 k0 k1 k2 k3 k4
          rcases hq with q1 | ⟨q1, q2⟩
          all_goals
            go_enter Tryd.func55, Tryd.ntmps55
            go_wp2_with fail
            refine C8.out.mono ?_
            rintro e w1 ⟨rfl, hb1⟩
            have HB1 := Lib.hid hb1
            clear hb1
            go_wp2_with fail
            go_ret2
            exact ⟨by rw [HR.out]; rfl, HB1.out⟩
        · have HR := Lib.hid (show R = (8, 2) from by rw [← hR, if_pos ⟨h0, h8, by omega⟩])
          have t9 : ((digN 8 (s.data.toList.drop 2) : Int) == 0) = false := by simp; omega
          have C8 := Lib.hid R8
          clear R8 R16 hR hx h8 h0 k0 k1 k2 k3 k4
          generalize digN 8 (s.data.toList.drop 2) = d at *
          rcases hq with q1 | ⟨q1, q2⟩
          all_goals
            go_enter Tryd.func55, Tryd.ntmps55
            go_wp2_with fail
            refine C8.out.mono ?_
            rintro e w1 ⟨rfl, hb1⟩
            have HB1 := Lib.hid hb1
            clear hb1
            go_wp2_with fail
            go_ret2
            exact ⟨by rw [HR.out]; rfl, HB1.out⟩
      · have q1 : ((s[1].toNat : Int) == 111) = false := by rw [show (111 : Int) = ((111 : Nat) : Int) from rfl, k1]; simpa using fun h => h8 (.inl h)
        have q2 : ((s[1].toNat : Int) == 79) = false := by rw [show (79 : Int) = ((79 : Nat) : Int) from rfl, k2]; simpa using fun h => h8 (.inr h)
        by_cases h16 : s[1] = 120 ∨ s[1] = 88
        · have hq : ((s[1].toNat : Int) == 120) = true ∨ (((s[1].toNat : Int) == 120) = false ∧ ((s[1].toNat : Int) == 88) = true) := by
            rw [show (120 : Int) = ((120 : Nat) : Int) from rfl, show (88 : Int) = ((88 : Nat) : Int) from rfl, k3, k4]
            by_cases h : s[1] = 120
            · left; simpa using h
            · right; exact ⟨by simpa using h, by simpa using h16.resolve_left h⟩
          by_cases hd : digN 16 (s.data.toList.drop 2) = 0
          · have HR := Lib.hid (show R = (10, 0) from by rw [← hR, if_neg (fun h => h8 h.2.1), if_neg (by rintro ⟨_, _, h⟩; omega)])
            rw [hd] at R16
            have C8 := Lib.hid R16
            clear R8 R16 hR hd h16 h8 h0 k0 k1 k2 k3 k4
            rcases hq with q3 | ⟨q3, q4⟩
            all_goals
              go_enter Tryd.func55, Tryd.ntmps55
              go_wp2_with fail
              refine C8.out.mono ?_
              rintro e w1 ⟨rfl, hb1⟩
              have HB1 := Lib.hid hb1
              clear hb1
              go_wp2_with fail
              go_ret2
              exact ⟨by rw [HR.out]; rfl, HB1.out⟩
          · have HR := Lib.hid (show R = (16, 2) from by rw [← hR, if_neg (fun h => h8 h.2.1), if_pos ⟨h0, h16, by omega⟩])
            have t9 : ((digN 16 (s.data.toList.drop 2) : Int) == 0) = false := by simp; omega
            have C8 := Lib.hid R16
            clear R8 R16 hR h16 h8 h0 k0 k1 k2 k3 k4
            generalize digN 16 (s.data.toList.drop 2) = d at *
            rcases hq with q3 | ⟨q3, q4⟩
            all_goals
              go_enter Tryd.func55, Tryd.ntmps55
              go_wp2_with fail
              refine C8.out.mono ?_
              rintro e w1 ⟨rfl, hb1⟩
              have HB1 := Lib.hid hb1
              clear hb1
              go_wp2_with fail
              go_ret2
              exact ⟨by rw [HR.out]; rfl, HB1.out⟩
        · have HR := Lib.hid (show R = (10, 0) from by rw [← hR, if_neg (fun h => h8 h.2.1), if_neg (fun h => h16 h.2.1)])
          have q3 : ((s[1].toNat : Int) == 120) = false := by rw [show (120 : Int) = ((120 : Nat) : Int) from rfl, k3]; simpa using fun h => h16 (.inl h)
          have q4 : ((s[1].toNat : Int) == 88) = false := by rw [show (88 : Int) = ((88 : Nat) : Int) from rfl, k4]; simpa using fun h => h16 (.inr h)
          clear R8 R16 hR h16 h8 h0 k0 k1 k2 k3 k4
          go_enter Tryd.func55, Tryd.ntmps55
          go_wp2_with fail
          go_ret2
          exact ⟨by rw [HR.out]; rfl, Below.refl _ _⟩
    · have HR := Lib.hid (show R = (10, 0) from by rw [← hR, if_neg (fun h => h0 h.1), if_neg (fun h => h0 h.1)])
      have t1 : ((s[0].toNat : Int) == 48) = false := by rw [show (48 : Int) = ((48 : Nat) : Int) from rfl, k0]; simpa using h0
      have t2 : ((s[0].toNat : Int) != 48) = true := by rw [bne, t1]; rfl
      clear R8 R16 hR h0 k0 k1 k2 k3 k4
      go_enter Tryd.func55, Tryd.ntmps55
      go_wp2_with fail
      go_ret2
      exact ⟨by rw [HR.out]; rfl, Below.refl _ _⟩
end Go.Proofs.YtikkdkacflkifaaDoor

namespace Go.Proofs.YtikkdkacflkifaaDoor
open Go.RowKit

theorem byteK (x : UInt8) (c : Nat) (ci : Int) (hi : ci = c) (hc : c < 256) : (x = UInt8.ofNat c → ((x.toNat : Int) == ci) = true ∧ ((x.toNat : Int) != ci) = false) ∧ (¬ x = UInt8.ofNat c → ((x.toNat : Int) == ci) = false ∧ ((x.toNat : Int) != ci) = true) := by
  subst hi
  have k := byte_is x c hc
  refine ⟨fun h => ?_, fun h => ?_⟩
  · rw [decide_eq_true h] at k; exact ⟨k, by rw [bne, k]; rfl⟩
  · rw [decide_eq_false h] at k; exact ⟨k, by rw [bne, k]; rfl⟩
theorem empty_l {s : ByteArray} (h : s.size = 0) : s.toList = [] := by rw [Lib.toList_data]; exact List.length_eq_zero_iff.1 (by rw [← Lib.size_eq]; exact h)
theorem full_l {s : ByteArray} (h : 0 < s.size) : s.toList.isEmpty = false ∧ (s.toList == []) = false := by
  have : s.toList ≠ [] := by
    rw [Lib.toList_data]; intro e
    have h2 : s.size = 0 := by rw [Lib.size_eq, e]; rfl
    omega
  cases hs : s.toList with
  | nil => exact absurd hs this
  | cons a t => exact ⟨rfl, rfl⟩

set_option maxRecDepth 20000 in
set_option maxHeartbeats 2000000 in
theorem exponent_any (s : ByteArray) (w : World) (hs : s.size ≤ 1152921504606846976) :
    Calls Tryd.prog 85 #[.string s] w fun e w' => e = .returned (.int .i64 (expX s.data.toList : Nat)) ∧ Below w.heap.size w w' := by
  obtain ⟨R, hR⟩ : ∃ R, expX s.data.toList = R := ⟨_, rfl⟩
  rw [hR]
  unfold expX at hR
  by_cases h0 : s.size = 0
  · have HR := Lib.hid (show R = 0 from by rw [← hR, at_none s 0 (by omega)]; simp)
    have t0 : s.toList.isEmpty = true := by rw [empty_l h0]; rfl
    have t1 : (s.toList == []) = true := by rw [empty_l h0]; rfl
    clear hR h0
    go_enter Tryd.func85, Tryd.ntmps85
    go_wp2_with fail
    go_ret
    exact ⟨by rw [HR.out]; rfl, Below.refl _ _⟩
  · have i0 : 0 < s.size := by omega
    obtain ⟨t0, t1⟩ := full_l i0
    have e0 := at_list s 0 i0
    obtain ⟨k0, n0⟩ := byteK s[0] 101 101 rfl (by decide)
    obtain ⟨k1, n1⟩ := byteK s[0] 69 69 rfl (by decide)
    have C1 := rowN_any (s.extract 1 s.size) 10
    have C2 := rowN_any (s.extract 2 s.size) 10
    rw [cut_data, cut_size s 1 (by omega)] at C1
    rw [cut_data] at C2
    rw [e0] at hR
    simp only [Option.some.injEq] at hR
    clear h0 e0
    by_cases he : s[0] = 101 ∨ s[0] = 69
    · have hq : (((s[0].toNat : Int) == 101) = true ∧ ((s[0].toNat : Int) != 101) = false) ∨ ((((s[0].toNat : Int) == 101) = false ∧ ((s[0].toNat : Int) != 101) = true) ∧ (((s[0].toNat : Int) == 69) = true ∧ ((s[0].toNat : Int) != 69) = false)) := by
        by_cases h : s[0] = 101
        · exact .inl (k0 h)
        · exact .inr ⟨n0 h, k1 (he.resolve_left h)⟩
      rw [if_pos he] at hR
      clear k0 k1 n0 n1 he
      by_cases h1 : s.size = 1
      · have HR := Lib.hid (show R = 0 from by
          rw [← hR, at_none s 1 (by omega)]
          simp only [reduceCtorEq, or_self, if_false]
          rw [List.drop_eq_nil_of_le (by rw [← Lib.size_eq]; omega)]; rfl)
        have C := C1 w (by omega)
        rw [List.drop_eq_nil_of_le (by rw [← Lib.size_eq]; omega)] at C
        have HC := Lib.hid C
        have t3 : decide ((1 : Int) < s.size) = false := by simp; omega
        clear hR C C1 C2 h1
        rcases hq with ⟨q1, q2⟩ | ⟨⟨q1, q2⟩, q3, q4⟩
        all_goals
          go_enter Tryd.func85, Tryd.ntmps85
          go_wp2_with fail
          refine HC.out.mono ?_
          rintro e w1 ⟨rfl, hb1⟩
          have HB1 := Lib.hid (hb1)
          clear hb1
          go_wp2_with fail
          go_ret
          exact ⟨by rw [HR.out]; rfl, HB1.out⟩
      · have i1 : 1 < s.size := by omega
        have t3 : decide ((1 : Int) < s.size) = true := by simp; omega
        have e1 := at_list s 1 i1
        obtain ⟨k0, n0⟩ := byteK s[1] 43 43 rfl (by decide)
        obtain ⟨k1, n1⟩ := byteK s[1] 45 45 rfl (by decide)
        rw [e1] at hR
        simp only [Option.some.injEq] at hR
        clear h1 e1
        by_cases hsg : s[1] = 43 ∨ s[1] = 45
        · have hp : (((s[1].toNat : Int) == 43) = true ∧ ((s[1].toNat : Int) != 43) = false) ∨ ((((s[1].toNat : Int) == 43) = false ∧ ((s[1].toNat : Int) != 43) = true) ∧ (((s[1].toNat : Int) == 45) = true ∧ ((s[1].toNat : Int) != 45) = false)) := by
            by_cases h : s[1] = 43
            · exact .inl (k0 h)
            · exact .inr ⟨n0 h, k1 (hsg.resolve_left h)⟩
          rw [if_pos hsg] at hR
          have C := C2 w (by rw [cut_size s 2 (by omega)]; omega)
          have hdl := digN_le 10 (s.data.toList.drop 2)
          rw [List.length_drop, ← Lib.size_eq] at hdl
          clear k0 k1 n0 n1 hsg C1 C2
          generalize digN 10 (s.data.toList.drop 2) = d at *
          have HC := Lib.hid C
          have HR := Lib.hid hR
          clear C hR
          by_cases hd : d = 0
          · have t4 : ((d : Int) == 0) = true := by simp; omega
            have HR2 := Lib.hid (show R = 0 from by rw [← HR.out, if_pos hd])
            clear hd
            rcases hq with ⟨q1, q2⟩ | ⟨⟨q1, q2⟩, q3, q4⟩ <;> rcases hp with ⟨p1, p2⟩ | ⟨⟨p1, p2⟩, p3, p4⟩
            all_goals
              go_enter Tryd.func85, Tryd.ntmps85
              go_wp2_with fail
              refine HC.out.mono ?_
              rintro e w1 ⟨rfl, hb1⟩
              have HB1 := Lib.hid (hb1)
              clear hb1
              go_wp2_with fail
              go_ret
              exact ⟨by rw [HR2.out]; rfl, HB1.out⟩
          · have t4 : ((d : Int) == 0) = false := by simp; omega
            have HR2 := Lib.hid (show R = 2 + d from by rw [← HR.out, if_neg hd])
            clear hd
            rcases hq with ⟨q1, q2⟩ | ⟨⟨q1, q2⟩, q3, q4⟩ <;> rcases hp with ⟨p1, p2⟩ | ⟨⟨p1, p2⟩, p3, p4⟩
            all_goals
              go_enter Tryd.func85, Tryd.ntmps85
              go_wp2_with fail
              refine HC.out.mono ?_
              rintro e w1 ⟨rfl, hb1⟩
              have HB1 := Lib.hid (hb1)
              clear hb1
              go_wp2_with fail
              go_ret
              exact ⟨by rw [HR2.out]; go_num, HB1.out⟩
        · have p1 := n0 (fun h => hsg (.inl h))
          have p2 := n1 (fun h => hsg (.inr h))
          obtain ⟨p1, p3⟩ := p1
          obtain ⟨p2, p4⟩ := p2
          rw [if_neg hsg] at hR
          have C := C1 w (by omega)
          have hdl := digN_le 10 (s.data.toList.drop 1)
          rw [List.length_drop, ← Lib.size_eq] at hdl
          clear k0 k1 n0 n1 hsg C1 C2
          generalize digN 10 (s.data.toList.drop 1) = d at *
          have HC := Lib.hid C
          have HR := Lib.hid hR
          clear C hR
          by_cases hd : d = 0
          · have t4 : ((d : Int) == 0) = true := by simp; omega
            have HR2 := Lib.hid (show R = 0 from by rw [← HR.out, if_pos hd])
            clear hd
            rcases hq with ⟨q1, q2⟩ | ⟨⟨q1, q2⟩, q3, q4⟩
            all_goals
              go_enter Tryd.func85, Tryd.ntmps85
              go_wp2_with fail
              refine HC.out.mono ?_
              rintro e w1 ⟨rfl, hb1⟩
              have HB1 := Lib.hid (hb1)
              clear hb1
              go_wp2_with fail
              go_ret
              exact ⟨by rw [HR2.out]; rfl, HB1.out⟩
          · have t4 : ((d : Int) == 0) = false := by simp; omega
            have HR2 := Lib.hid (show R = 1 + d from by rw [← HR.out, if_neg hd])
            clear hd
            rcases hq with ⟨q1, q2⟩ | ⟨⟨q1, q2⟩, q3, q4⟩
            all_goals
              go_enter Tryd.func85, Tryd.ntmps85
              go_wp2_with fail
              refine HC.out.mono ?_
              rintro e w1 ⟨rfl, hb1⟩
              have HB1 := Lib.hid (hb1)
              clear hb1
              go_wp2_with fail
              go_ret
              exact ⟨by rw [HR2.out]; go_num, HB1.out⟩
    · have HR := Lib.hid (show R = 0 from by rw [← hR, if_neg he])
      obtain ⟨p1, p3⟩ := n0 (fun h => he (.inl h))
      obtain ⟨p2, p4⟩ := n1 (fun h => he (.inr h))
      clear k0 k1 n0 n1 he hR C1 C2
      go_enter Tryd.func85, Tryd.ntmps85
      go_wp2_with fail
      go_ret
      exact ⟨by rw [HR.out]; rfl, Below.refl _ _⟩
end Go.Proofs.YtikkdkacflkifaaDoor

namespace Go.Proofs.YtikkdkacflkifaaDoor
open Go.RowKit

def numV (s : ByteArray) (p : Int × Nat) : Value := .tuple #[.int .i64 p.1, .string (s.extract 0 p.2)]
theorem ext0 (s : ByteArray) : s.extract 0 0 = ⟨#[]⟩ := by apply ByteArray.ext; simp
theorem point_pre (l : List UInt8) (n : Nat) : Lib.hasPrefix (l.drop n) [46] = decide (l[n]? = some 46) := by
  rw [← List.head?_drop]
  cases l.drop n with
  | nil => rfl
  | cons a t =>
    simp only [Lib.hasPrefix, List.isPrefixOf, Bool.and_true, List.head?_cons, Option.some.injEq]
    rw [Bool.eq_iff_iff, beq_iff_eq, decide_eq_true_eq]
    exact eq_comm
set_option maxRecDepth 20000 in
set_option maxHeartbeats 4000000 in
theorem scan_any (s : ByteArray) (w : World) (hs : s.size ≤ 1152921504606846976) :
    Calls Tryd.prog 67 #[.string s] w fun e w' => e = .returned (numV s (scanX s.data.toList)) ∧ Below w.heap.size w w' := by
  obtain ⟨R, hR⟩ : ∃ R, scanX s.data.toList = R := ⟨_, rfl⟩
  rw [hR]
  have P1 := prefixed_any s w hs
  have hle := scanX_le s.data.toList
  rw [hR, ← Lib.size_eq] at hle
  unfold scanX at hR
  have hpre : (prefX s.data.toList = (10, 0)) ∨ ((prefX s.data.toList = (8, 2) ∨ prefX s.data.toList = (16, 2)) ∧ 2 < s.size ∧ 0 < digN (prefX s.data.toList).1 (s.data.toList.drop 2)) := by
    unfold prefX
    have hl : ∀ b, 0 < digN b (s.data.toList.drop 2) → 2 < s.size := fun b h => by
      have := digN_le b (s.data.toList.drop 2); rw [List.length_drop, ← Lib.size_eq] at this; omega
    split
    · next h => exact .inr ⟨.inl rfl, hl _ h.2.2, h.2.2⟩
    · split
      · next h => exact .inr ⟨.inr rfl, hl _ h.2.2, h.2.2⟩
      · exact .inl rfl
  rcases hpre with hp | ⟨hp, h2, hd⟩
  · rw [hp] at hR P1
    simp only [show ((0 : Nat) = 2) = False from by simp, if_false] at hR
    have P1 := Lib.hid P1
    have C0 := fun w => rowN_any s 10 w hs
    have hdl := digN_le 10 s.data.toList
    rw [← Lib.size_eq] at hdl
    clear hp
    obtain ⟨d, hdd⟩ : ∃ d, digN 10 s.data.toList = d := ⟨_, rfl⟩
    rw [hdd] at hR hdl C0
    have C0 := Lib.hid C0
    by_cases h0 : d = 0
    · have HR := Lib.hid (show R = (0, 0) from by rw [← hR, if_pos h0])
      have t0 : ((d : Int) == 0) = true := by simp; omega
      clear hR hdd h0
      go_enter Tryd.func67, Tryd.ntmps67
      go_wp2_with fail
      refine P1.out.mono ?_
      rintro e w1 ⟨rfl, hb1⟩
      have HB1 := Lib.hid (hb1)
      clear hb1
      unfold pairV
      go_wp2_with fail
      refine (C0.out _).mono ?_
      rintro e w2 ⟨rfl, hb2⟩
      have HB2 := Lib.hid (Below.then HB1.out hb2)
      clear hb2
      go_wp2_with fail
      go_ret2
      exact ⟨by rw [HR.out]; unfold numV; rw [ext0]; rfl, HB2.out⟩
    · rw [if_neg h0] at hR
      have t0 : ((d : Int) == 0) = false := by simp; omega
      have PR := Tryd.strings_HasPrefix (s.extract d s.size) ⟨#[46]⟩
      rw [cut_data] at PR
      rw [show (⟨#[46]⟩ : ByteArray).data.toList = [46] from rfl, point_pre] at PR
      have E0 := exponent_any (s.extract d s.size)
      rw [cut_data, cut_size s d (by omega)] at E0
      have E0 := Lib.hid fun w => E0 w (by omega)
      clear hdd h0
      by_cases hpt : s.data.toList[d]? = some 46
      · rw [decide_eq_true hpt] at PR
        have PR := Lib.hid PR
        have hdlt : d < s.size := by have := (List.getElem?_eq_some_iff.1 hpt).1; rw [← Lib.size_eq] at this; exact this
        have C1 := rowN_any (s.extract (d + 1) s.size) 10
        rw [cut_data, cut_size s (d + 1) (by omega)] at C1
        have C1 := Lib.hid fun w => C1 w (by omega)
        have hel := digN_le 10 (s.data.toList.drop (d + 1))
        rw [List.length_drop, ← Lib.size_eq] at hel
        obtain ⟨f, hff⟩ : ∃ f, digN 10 (s.data.toList.drop (d + 1)) = f := ⟨_, rfl⟩
        rw [hff] at hR C1 hel
        clear hff
        by_cases hf : 0 < f
        · rw [show (if s.data.toList[d]? = some 46 ∧ 0 < f then ((12 : Int), d + 1 + f) else (11, d)) = (12, d + 1 + f) from if_pos ⟨hpt, hf⟩] at hR
          have t1 : decide (0 < f) = true := by simp; omega
          have t1x : (0 : Int) < f := by omega
          have E1 := exponent_any (s.extract (d + 1 + f) s.size)
          rw [cut_data, cut_size s (d + 1 + f) (by omega)] at E1
          have E1 := Lib.hid fun w => E1 w (by omega)
          have hxl := expX_le (s.data.toList.drop (d + 1 + f))
          rw [List.length_drop, ← Lib.size_eq] at hxl
          obtain ⟨g, hgg⟩ : ∃ g, expX (s.data.toList.drop (d + 1 + f)) = g := ⟨_, rfl⟩
          simp only [hgg] at hR
          rw [hgg] at E1 hxl
          have b1 : d + 1 + f ≤ s.size := by omega
          have b2 : d + 1 + f + g ≤ s.size := by omega
          have b3 : (d : Int) + 1 + f + g ≤ s.size := by omega
          have b4 : (0 : Int) ≤ (d : Int) + 1 + f + g := by omega
          have b5 : ((d : Int) + 1 + f + g).toNat = d + 1 + f + g := by omega
          have b6 : (d : Int) + 1 + f ≤ s.size := by omega
          have b7 : (0 : Int) ≤ (d : Int) + 1 + f := by omega
          have b8 : ((d : Int) + 1 + f).toNat = d + 1 + f := by omega
          clear hgg hpt hf E0 hel hxl
          by_cases hg : 0 < g
          · have HR := Lib.hid (show R = (12, d + 1 + f + g) from by rw [← hR, if_pos hg])
            have t2 : decide (0 < g) = true := by simp; omega
            have t2x : (0 : Int) < g := by omega
            clear hR hg
            go_enter Tryd.func67, Tryd.ntmps67
            go_wp2_with fail
            refine P1.out.mono ?_
            rintro e w1 ⟨rfl, hb1⟩
            have HB1 := Lib.hid (hb1)
            clear hb1
            unfold pairV
            go_wp2_with fail
            refine (C0.out _).mono ?_
            rintro e w2 ⟨rfl, hb2⟩
            have HB2 := Lib.hid (Below.then HB1.out hb2)
            clear hb2
            go_wp2_with fail
            refine (PR.out _).mono ?_
            rintro e w9 ⟨rfl, rfl⟩
            go_wp2_with fail
            refine (C1.out _).mono ?_
            rintro e w3 ⟨rfl, hb3⟩
            have HB4 := Lib.hid (Below.then HB2.out hb3)
            clear hb3
            go_wp2_with fail
            refine (E1.out _).mono ?_
            rintro e w5 ⟨rfl, hb5⟩
            have HB5 := Lib.hid (Below.then HB4.out hb5)
            clear hb5
            go_wp2_with fail
            go_quiet (fail)
            go_wp2_with fail
            go_ret2
            exact ⟨by rw [HR.out]; first | rfl | (unfold numV; rfl), below_drewN HB5.out _⟩
          · have HR := Lib.hid (show R = (12, d + 1 + f) from by rw [← hR, if_neg hg])
            have t2 : decide (0 < g) = false := by simp; omega
            clear hR hg
            go_enter Tryd.func67, Tryd.ntmps67
            go_wp2_with fail
            refine P1.out.mono ?_
            rintro e w1 ⟨rfl, hb1⟩
            have HB1 := Lib.hid (hb1)
            clear hb1
            unfold pairV
            go_wp2_with fail
            refine (C0.out _).mono ?_
            rintro e w2 ⟨rfl, hb2⟩
            have HB2 := Lib.hid (Below.then HB1.out hb2)
            clear hb2
            go_wp2_with fail
            refine (PR.out _).mono ?_
            rintro e w9 ⟨rfl, rfl⟩
            go_wp2_with fail
            refine (C1.out _).mono ?_
            rintro e w3 ⟨rfl, hb3⟩
            have HB4 := Lib.hid (Below.then HB2.out hb3)
            clear hb3
            go_wp2_with fail
            refine (E1.out _).mono ?_
            rintro e w5 ⟨rfl, hb5⟩
            have HB5 := Lib.hid (Below.then HB4.out hb5)
            clear hb5
            go_wp2_with fail
            go_quiet (fail)
            go_wp2_with fail
            go_ret2
            exact ⟨by rw [HR.out]; first | rfl | (unfold numV; rfl), below_drewN HB5.out _⟩
        · rw [show (if s.data.toList[d]? = some 46 ∧ 0 < f then ((12 : Int), d + 1 + f) else (11, d)) = (11, d) from if_neg (fun h => hf h.2)] at hR
          have t1 : decide (0 < f) = false := by simp; omega
          have hxl := expX_le (s.data.toList.drop d)
          rw [List.length_drop, ← Lib.size_eq] at hxl
          obtain ⟨g, hgg⟩ : ∃ g, expX (s.data.toList.drop d) = g := ⟨_, rfl⟩
          simp only [hgg] at hR
          rw [hgg] at E0 hxl
          have E1 := E0
          have b1 : d + 1 ≤ s.size := by omega
          have b2 : d + g ≤ s.size := by omega
          have b3 : (d : Int) + g ≤ s.size := by omega
          have b4 : (0 : Int) ≤ (d : Int) + g := by omega
          have b5 : ((d : Int) + g).toNat = d + g := by omega
          clear hgg hpt hf E0 hel hxl
          by_cases hg : 0 < g
          · have HR := Lib.hid (show R = (12, d + g) from by rw [← hR, if_pos hg])
            have t2 : decide (0 < g) = true := by simp; omega
            have t2x : (0 : Int) < g := by omega
            clear hR hg
            go_enter Tryd.func67, Tryd.ntmps67
            go_wp2_with fail
            refine P1.out.mono ?_
            rintro e w1 ⟨rfl, hb1⟩
            have HB1 := Lib.hid (hb1)
            clear hb1
            unfold pairV
            go_wp2_with fail
            refine (C0.out _).mono ?_
            rintro e w2 ⟨rfl, hb2⟩
            have HB2 := Lib.hid (Below.then HB1.out hb2)
            clear hb2
            go_wp2_with fail
            refine (PR.out _).mono ?_
            rintro e w9 ⟨rfl, rfl⟩
            go_wp2_with fail
            refine (C1.out _).mono ?_
            rintro e w3 ⟨rfl, hb3⟩
            have HB4 := Lib.hid (Below.then HB2.out hb3)
            clear hb3
            go_wp2_with fail
            refine (E1.out _).mono ?_
            rintro e w5 ⟨rfl, hb5⟩
            have HB5 := Lib.hid (Below.then HB4.out hb5)
            clear hb5
            go_wp2_with fail
            go_quiet (fail)
            go_wp2_with fail
            go_ret2
            exact ⟨by rw [HR.out]; first | rfl | (unfold numV; rfl), below_drewN HB5.out _⟩
          · have HR := Lib.hid (show R = (11, d) from by rw [← hR, if_neg hg])
            have t2 : decide (0 < g) = false := by simp; omega
            clear hR hg
            go_enter Tryd.func67, Tryd.ntmps67
            go_wp2_with fail
            refine P1.out.mono ?_
            rintro e w1 ⟨rfl, hb1⟩
            have HB1 := Lib.hid (hb1)
            clear hb1
            unfold pairV
            go_wp2_with fail
            refine (C0.out _).mono ?_
            rintro e w2 ⟨rfl, hb2⟩
            have HB2 := Lib.hid (Below.then HB1.out hb2)
            clear hb2
            go_wp2_with fail
            refine (PR.out _).mono ?_
            rintro e w9 ⟨rfl, rfl⟩
            go_wp2_with fail
            refine (C1.out _).mono ?_
            rintro e w3 ⟨rfl, hb3⟩
            have HB4 := Lib.hid (Below.then HB2.out hb3)
            clear hb3
            go_wp2_with fail
            refine (E1.out _).mono ?_
            rintro e w5 ⟨rfl, hb5⟩
            have HB5 := Lib.hid (Below.then HB4.out hb5)
            clear hb5
            go_wp2_with fail
            go_quiet (fail)
            go_wp2_with fail
            go_ret2
            exact ⟨by rw [HR.out]; first | rfl | (unfold numV; rfl), below_drewN HB5.out _⟩
      · rw [show (if s.data.toList[d]? = some 46 ∧ 0 < digN 10 (s.data.toList.drop (d + 1)) then ((12 : Int), d + 1 + digN 10 (s.data.toList.drop (d + 1))) else (11, d)) = (11, d) from if_neg (fun h => hpt h.1)] at hR
        rw [decide_eq_false hpt] at PR
        have PR := Lib.hid PR
        have hxl := expX_le (s.data.toList.drop d)
        rw [List.length_drop, ← Lib.size_eq] at hxl
        obtain ⟨g, hgg⟩ : ∃ g, expX (s.data.toList.drop d) = g := ⟨_, rfl⟩
        simp only [hgg] at hR
        rw [hgg] at E0 hxl
        have b2 : d + g ≤ s.size := by omega
        have b3 : (d : Int) + g ≤ s.size := by omega
        have b4 : (0 : Int) ≤ (d : Int) + g := by omega
        have b5 : ((d : Int) + g).toNat = d + g := by omega
        clear hgg hpt hxl
        by_cases hg : 0 < g
        · have HR := Lib.hid (show R = (12, d + g) from by rw [← hR, if_pos hg])
          have t2 : decide (0 < g) = true := by simp; omega
          have t2x : (0 : Int) < g := by omega
          clear hR hg
          go_enter Tryd.func67, Tryd.ntmps67
          go_wp2_with fail
          refine P1.out.mono ?_
          rintro e w1 ⟨rfl, hb1⟩
          have HB1 := Lib.hid (hb1)
          clear hb1
          unfold pairV
          go_wp2_with fail
          refine (C0.out _).mono ?_
          rintro e w2 ⟨rfl, hb2⟩
          have HB2 := Lib.hid (Below.then HB1.out hb2)
          clear hb2
          go_wp2_with fail
          refine (PR.out _).mono ?_
          rintro e w9 ⟨rfl, rfl⟩
          go_wp2_with fail
          refine (E0.out _).mono ?_
          rintro e w3 ⟨rfl, hb3⟩
          have HB3 := Lib.hid (Below.then HB2.out hb3)
          clear hb3
          go_wp2_with fail
          go_quiet (fail)
          go_wp2_with fail
          go_ret2
          exact ⟨by rw [HR.out]; first | rfl | (unfold numV; rfl), below_drewN HB3.out _⟩
        · have HR := Lib.hid (show R = (11, d) from by rw [← hR, if_neg hg])
          have t2 : decide (0 < g) = false := by simp; omega
          clear hR hg
          go_enter Tryd.func67, Tryd.ntmps67
          go_wp2_with fail
          refine P1.out.mono ?_
          rintro e w1 ⟨rfl, hb1⟩
          have HB1 := Lib.hid (hb1)
          clear hb1
          unfold pairV
          go_wp2_with fail
          refine (C0.out _).mono ?_
          rintro e w2 ⟨rfl, hb2⟩
          have HB2 := Lib.hid (Below.then HB1.out hb2)
          clear hb2
          go_wp2_with fail
          refine (PR.out _).mono ?_
          rintro e w9 ⟨rfl, rfl⟩
          go_wp2_with fail
          refine (E0.out _).mono ?_
          rintro e w3 ⟨rfl, hb3⟩
          have HB3 := Lib.hid (Below.then HB2.out hb3)
          clear hb3
          go_wp2_with fail
          go_quiet (fail)
          go_wp2_with fail
          go_ret2
          exact ⟨by rw [HR.out]; first | rfl | (unfold numV; rfl), below_drewN HB3.out _⟩
  · have hF : R = (11, 2 + digN (prefX s.data.toList).1 (s.data.toList.drop 2)) := by
      rw [← hR, if_pos (by rcases hp with h | h <;> rw [h])]
    have C2 := rowN_any (s.extract 2 s.size) (prefX s.data.toList).1
    rw [cut_data, cut_size s 2 (by omega)] at C2
    have hdl := digN_le (prefX s.data.toList).1 (s.data.toList.drop 2)
    rw [List.length_drop, ← Lib.size_eq] at hdl
    clear hR
    obtain ⟨d, hdd⟩ : ∃ d, digN (prefX s.data.toList).1 (s.data.toList.drop 2) = d := ⟨_, rfl⟩
    rw [hdd] at C2 hF hdl hd
    clear hdd
    have HF := Lib.hid hF
    have b1 : 2 + d ≤ s.size := by omega
    have b3 : (2 : Int) + d ≤ s.size := by omega
    have b4 : (0 : Int) ≤ (2 : Int) + d := by omega
    have b5 : ((2 : Int) + d).toNat = 2 + d := by omega
    clear hF hdl
    rcases hp with hp | hp
    all_goals
      rw [hp] at C2 P1
      have P1 := Lib.hid P1
      have C2 := Lib.hid fun w => C2 w (by omega)
      clear hp
      go_enter Tryd.func67, Tryd.ntmps67
      go_wp2_with fail
      refine P1.out.mono ?_
      rintro e w1 ⟨rfl, hb1⟩
      have HB1 := Lib.hid (hb1)
      clear hb1
      unfold pairV
      go_wp2_with fail
      refine (C2.out _).mono ?_
      rintro e w2 ⟨rfl, hb2⟩
      have HB2 := Lib.hid (Below.then HB1.out hb2)
      clear hb2
      go_wp2_with fail
      go_quiet (fail)
      go_wp2_with fail
      go_ret2
      exact ⟨by rw [HF.out]; first | rfl | (unfold numV; rfl), below_drewN HB2.out _⟩
end Go.Proofs.YtikkdkacflkifaaDoor

namespace Go.Proofs.YtikkdkacflkifaaDoor
open Go.RowKit

/-- A text that is cut is itself only where nothing is cut. -/
theorem cut_self (s : ByteArray) (n : Nat) (h : n ≤ s.size) : ((s.extract 0 n).toList == s.toList) = decide (n = s.size) := by
  rw [Bool.eq_iff_iff, beq_iff_eq, decide_eq_true_eq, Lib.toList_data, Lib.toList_data]
  constructor
  · intro e
    have := congrArg List.length e
    rw [← Lib.size_eq, ← Lib.size_eq, ByteArray.size_extract] at this; omega
  · rintro rfl
    rw [Lib.extract_data, List.drop_zero, List.take_of_length_le (by rw [← Lib.size_eq]; omega)]
def isK (k : Int) (l : List UInt8) : Bool := decide ((scanX l).1 = k) && decide ((scanX l).2 = l.length)
set_option maxHeartbeats 1000000 in
theorem is_any (s : ByteArray) (k : Int) (w : World) (hs : s.size ≤ 1152921504606846976) :
    Calls Tryd.prog 54 #[.string s, .int .i64 k] w fun e w' => e = .returned (.bool (isK k s.data.toList)) ∧ Below w.heap.size w w' := by
  have C := scan_any s w hs
  have hle := scanX_le s.data.toList
  rw [← Lib.size_eq] at hle
  unfold isK
  rw [← Lib.size_eq]
  generalize scanX s.data.toList = p at *
  obtain ⟨j, n⟩ := p
  simp only at hle ⊢
  have hc := cut_self s n hle
  have HC := Lib.hid C
  clear C
  by_cases hj : j = k
  · have t0 : (j == k) = true := by simpa using hj
    rw [decide_eq_true hj, Bool.true_and, ← hc]
    clear hc hj
    go_enter Tryd.func54, Tryd.ntmps54
    go_wp2_with fail
    refine HC.out.mono ?_
    rintro e w1 ⟨rfl, hb1⟩
    have HB1 := Lib.hid hb1
    clear hb1
    unfold numV
    go_wp2_with fail
    go_ret
    exact ⟨rfl, HB1.out⟩
  · have t0 : (j == k) = false := by simpa using hj
    rw [decide_eq_false hj, Bool.false_and]
    clear hc hj
    go_enter Tryd.func54, Tryd.ntmps54
    go_wp2_with fail
    refine HC.out.mono ?_
    rintro e w1 ⟨rfl, hb1⟩
    have HB1 := Lib.hid hb1
    clear hb1
    unfold numV
    go_wp2_with fail
    go_ret
    exact ⟨rfl, HB1.out⟩
end Go.Proofs.YtikkdkacflkifaaDoor

