/- DERIVED. The walks of number's row, prefixed, exponent, scan, Scan and is. -/
import Derived.Test.YthcogfceighbpaaDoorNumP
import Derived.Test.YthcogfceighbpaaDoorRun
set_option linter.unusedSimpArgs false
set_option linter.unusedVariables false
namespace Go.Proofs.YthcogfceighbpaaDoor
open Go.RowKit

set_option maxHeartbeats 1000000 in
theorem rowN_any (c : ByteArray) (base : Int) (w : World) (hs : c.size ≤ 1152921504606846976) :
    Calls Tryd.prog 40 #[.string c, .int .i64 base] w fun e w' => e = .returned (.int .i64 (digN base c.data.toList : Nat)) ∧ Below w.heap.size w w' := by
  obtain ⟨R, hR⟩ : ∃ R : Nat, span (isDig base) c.data.toList = R := ⟨_, rfl⟩
  have hF : digN base c.data.toList = R := by rw [← hR, span_dig base _ _ (Nat.le_refl _)]
  rw [hF]
  have hRs : R ≤ c.size := by have := span_le' (isDig base) c.data.toList; rw [hR, ← Lib.size_eq] at this; exact this
  have HR := Lib.hid hR
  clear hF hR
  have hd : ∀ pos, Utf8.decode c pos = dec (c.data.toList.drop pos) := fun pos => decode_eq _ _
  have HD := Lib.hid hd
  clear hd
  go_enter Tryd.func40, Tryd.ntmps40
  go_wp2_with fail
  go_loopw [] (fun wr => ∃ pos : Nat, Iter w c pos wr ∧ Come (isDig base) c.data.toList pos) (fun wr => c.size - wr.iterPos w.heap.size)
  case atStart => exact ⟨0, Iter.start _ _, Come.start _ _⟩
  case round =>
    obtain ⟨pos, hI, hC⟩ := hrel
    have HP := Lib.hid (iterPos_at hI)
    by_cases hp : pos < c.size
    · have hpl : pos < c.data.toList.length := by rw [← Lib.size_eq]; exact hp
      have hnx : ∀ ty, (Instr.next (.pointer (some ⟨w.heap.size, 0, none⟩)) true ty).run Tryd.prog wr = _ := fun ty => Lib.run_next_any_at wr w.heap.size c pos ty hI.1 hp
      rw [HD.out] at hnx
      have hdl := dec_len _ (drop_ne hpl)
      have hposR : pos ≤ R := by have := hC.2; rw [HR.out] at this; omega
      have hI2 := hI.next (pos + (dec (c.data.toList.drop pos)).2)
      by_cases hk : isDig base (dec (c.data.toList.drop pos)).1 = true
      · have hC2 := hC.next hpl hk
        have hkb : decide (dig ((dec (c.data.toList.drop pos)).1 : Int) base < 0) = false := by unfold isDig at hk; simp at hk ⊢; omega
        have hq := Lib.hid hC2.1
        have HK := Lib.hid hk
        clear hk
        go_wp2_with (go_at_call 26; refine (digit_any _ _ _).mono ?_; rintro e w' ⟨rfl, rfl⟩)
        go_roundw
        case rel => exact ⟨_, hI2, hC2⟩
        case measure =>
          rw [HP.out, iterPos_at hI2]
          have := hq.out
          rw [← Lib.size_eq] at this
          omega
      · have hkb : decide (dig ((dec (c.data.toList.drop pos)).1 : Int) base < 0) = true := by unfold isDig at hk; simp at hk ⊢; omega
        have hE := hC.stop (by simpa using hk)
        rw [HR.out] at hE
        subst hE
        clear hk
        go_wp2_with (go_at_call 26; refine (digit_any _ _ _).mono ?_; rintro e w' ⟨rfl, rfl⟩)
        go_ret
        exact ⟨by go_num, hI2.2⟩
    · have hpl : ¬ pos < c.data.toList.length := by rw [← Lib.size_eq]; exact hp
      have hnx : ∀ ty, (Instr.next (.pointer (some ⟨w.heap.size, 0, none⟩)) true ty).run Tryd.prog wr = _ := fun ty => Lib.run_next_end_at wr w.heap.size c pos ty hI.1 hp
      have hE := hC.end hpl
      have hS := hC.size hpl
      rw [HR.out] at hE
      rw [← Lib.size_eq] at hS
      have hfin : ((R : Nat) : Int) = c.size := by omega
      have HF := Lib.hid hfin
      clear hfin hE hS
      go_wp2_with fail
      go_ret
      exact ⟨ret_int HF.out.symm, hI.2⟩

theorem at_list (s : ByteArray) (i : Nat) (h : i < s.size) : s.data.toList[i]? = some s[i] := by
  rw [List.getElem?_eq_getElem (by rw [← Lib.size_eq]; exact h)]; rfl
theorem at_none (s : ByteArray) (i : Nat) (h : ¬ i < s.size) : s.data.toList[i]? = none := List.getElem?_eq_none (by rw [← Lib.size_eq]; omega)
theorem byte_is (x : UInt8) (c : Nat) (hc : c < 256) : ((x.toNat : Int) == (c : Int)) = decide (x = UInt8.ofNat c) := by
  rw [Bool.eq_iff_iff, beq_iff_eq, decide_eq_true_eq]
  constructor
  · intro h; apply UInt8.toNat_inj.1; rw [UInt8.toNat_ofNat']; omega
  · rintro rfl; rw [UInt8.toNat_ofNat']; omega
def pairV (p : Int × Nat) : Value := .tuple #[.int .i64 p.1, .int .i64 (p.2 : Nat)]
set_option maxHeartbeats 1000000 in
theorem prefixed_any (s : ByteArray) (w : World) (hs : s.size ≤ 1152921504606846976) :
    Calls Tryd.prog 25 #[.string s] w fun e w' => e = .returned (pairV (prefX s.data.toList)) ∧ Below w.heap.size w w' := by
  obtain ⟨R, hR⟩ : ∃ R, prefX s.data.toList = R := ⟨_, rfl⟩
  rw [hR]
  by_cases h2 : s.size < 2
  · have HR := Lib.hid (show R = (10, 0) from by
      rw [← hR]; unfold prefX
      rw [List.drop_eq_nil_of_le (by rw [← Lib.size_eq]; omega)]
      simp [digN])
    have t0 : decide ((s.size : Int) < 2) = true := by simp; omega
    clear hR h2
    go_enter Tryd.func25, Tryd.ntmps25
    go_wp2_with fail
    go_ret2
    exact ⟨by rw [HR.out]; rfl, Below.refl _ _⟩
  · have i0 : 0 < s.size := by omega
    have i1 : 1 < s.size := by omega
    have t0 : decide ((s.size : Int) < 2) = false := by simp; omega
    have e0 := at_list s 0 i0
    have e1 := at_list s 1 i1
    have hcut := cut_data s 2
    have hcs := cut_size s 2 (by omega)
    have R8 := rowN_any (s.extract 2 s.size) 8 w (by omega)
    have R16 := rowN_any (s.extract 2 s.size) 16 w (by omega)
    rw [hcut] at R8 R16
    unfold prefX at hR
    rw [e0, e1] at hR
    simp only [Option.some.injEq] at hR
    have k0 := byte_is s[0] 48 (by decide)
    have k1 := byte_is s[1] 111 (by decide)
    have k2 := byte_is s[1] 79 (by decide)
    have k3 := byte_is s[1] 120 (by decide)
    have k4 := byte_is s[1] 88 (by decide)
    clear e0 e1 hcut hcs h2
    by_cases h0 : s[0] = 48
    · have t1 : ((s[0].toNat : Int) == 48) = true := by rw [show (48 : Int) = ((48 : Nat) : Int) from rfl, k0]; simpa using h0
      have t2 : ((s[0].toNat : Int) != 48) = false := by rw [bne, t1]; rfl
      by_cases h8 : s[1] = 111 ∨ s[1] = 79
      · have hq : ((s[1].toNat : Int) == 111) = true ∨ (((s[1].toNat : Int) == 111) = false ∧ ((s[1].toNat : Int) == 79) = true) := by
          rw [show (111 : Int) = ((111 : Nat) : Int) from rfl, show (79 : Int) = ((79 : Nat) : Int) from rfl, k1, k2]
          by_cases h : s[1] = 111
          · left; simpa using h
          · right; exact ⟨by simpa using h, by simpa using h8.resolve_left h⟩
        have hx : ¬ (s[1] = 120 ∨ s[1] = 88) := by rintro (h | h) <;> rcases h8 with h8 | h8 <;> rw [h] at h8 <;> revert h8 <;> decide
        by_cases hd : digN 8 (s.data.toList.drop 2) = 0
        · have HR := Lib.hid (show R = (10, 0) from by rw [← hR, if_neg (by rintro ⟨_, _, h⟩; omega), if_neg (fun h => hx h.2.1)])
          rw [hd] at R8
          have C8 := Lib.hid R8
          clear R8 R16 hR hd hx h8 h0 k0 k1 k2 k3 k4
          rcases hq with q1 | ⟨q1, q2⟩
          all_goals
            go_enter Tryd.func25, Tryd.ntmps25
            go_wp2_with fail
            refine C8.out.mono ?_
            rintro e w1 ⟨rfl, hb1⟩
            have HB1 := Lib.hid hb1
            clear hb1
            go_wp2_with fail
            go_ret2
            exact ⟨by rw [HR.out]; rfl, HB1.out⟩
        · have HR := Lib.hid (show R = (8, 2) from by rw [← hR, if_pos ⟨h0, h8, by omega⟩])
          have t9 : ((digN 8 (s.data.toList.drop 2) : Int) == 0) = false := by simp; omega
          have C8 := Lib.hid R8
          clear R8 R16 hR hx h8 h0 k0 k1 k2 k3 k4
          generalize digN 8 (s.data.toList.drop 2) = d at *
          rcases hq with q1 | ⟨q1, q2⟩
          all_goals
            go_enter Tryd.func25, Tryd.ntmps25
            go_wp2_with fail
            refine C8.out.mono ?_
            rintro e w1 ⟨rfl, hb1⟩
            have HB1 := Lib.hid hb1
            clear hb1
            go_wp2_with fail
            go_ret2
            exact ⟨by rw [HR.out]; rfl, HB1.out⟩
      · have q1 : ((s[1].toNat : Int) == 111) = false := by rw [show (111 : Int) = ((111 : Nat) : Int) from rfl, k1]; simpa using fun h => h8 (.inl h)
        have q2 : ((s[1].toNat : Int) == 79) = false := by rw [show (79 : Int) = ((79 : Nat) : Int) from rfl, k2]; simpa using fun h => h8 (.inr h)
        by_cases h16 : s[1] = 120 ∨ s[1] = 88
        · have hq : ((s[1].toNat : Int) == 120) = true ∨ (((s[1].toNat : Int) == 120) = false ∧ ((s[1].toNat : Int) == 88) = true) := by
            rw [show (120 : Int) = ((120 : Nat) : Int) from rfl, show (88 : Int) = ((88 : Nat) : Int) from rfl, k3, k4]
            by_cases h : s[1] = 120
            · left; simpa using h
            · right; exact ⟨by simpa using h, by simpa using h16.resolve_left h⟩
          by_cases hd : digN 16 (s.data.toList.drop 2) = 0
          · have HR := Lib.hid (show R = (10, 0) from by rw [← hR, if_neg (fun h => h8 h.2.1), if_neg (by rintro ⟨_, _, h⟩; omega)])
            rw [hd] at R16
            have C8 := Lib.hid R16
            clear R8 R16 hR hd h16 h8 h0 k0 k1 k2 k3 k4
            rcases hq with q3 | ⟨q3, q4⟩
            all_goals
              go_enter Tryd.func25, Tryd.ntmps25
              go_wp2_with fail
              refine C8.out.mono ?_
              rintro e w1 ⟨rfl, hb1⟩
              have HB1 := Lib.hid hb1
              clear hb1
              go_wp2_with fail
              go_ret2
              exact ⟨by rw [HR.out]; rfl, HB1.out⟩
          · have HR := Lib.hid (show R = (16, 2) from by rw [← hR, if_neg (fun h => h8 h.2.1), if_pos ⟨h0, h16, by omega⟩])
            have t9 : ((digN 16 (s.data.toList.drop 2) : Int) == 0) = false := by simp; omega
            have C8 := Lib.hid R16
            clear R8 R16 hR h16 h8 h0 k0 k1 k2 k3 k4
            generalize digN 16 (s.data.toList.drop 2) = d at *
            rcases hq with q3 | ⟨q3, q4⟩
            all_goals
              go_enter Tryd.func25, Tryd.ntmps25
              go_wp2_with fail
              refine C8.out.mono ?_
              rintro e w1 ⟨rfl, hb1⟩
              have HB1 := Lib.hid hb1
              clear hb1
              go_wp2_with fail
              go_ret2
              exact ⟨by rw [HR.out]; rfl, HB1.out⟩
        · have HR := Lib.hid (show R = (10, 0) from by rw [← hR, if_neg (fun h => h8 h.2.1), if_neg (fun h => h16 h.2.1)])
          have q3 : ((s[1].toNat : Int) == 120) = false := by rw [show (120 : Int) = ((120 : Nat) : Int) from rfl, k3]; simpa using fun h => h16 (.inl h)
          have q4 : ((s[1].toNat : Int) == 88) = false := by rw [show (88 : Int) = ((88 : Nat) : Int) from rfl, k4]; simpa using fun h => h16 (.inr h)
          clear R8 R16 hR h16 h8 h0 k0 k1 k2 k3 k4
          go_enter Tryd.func25, Tryd.ntmps25
          go_wp2_with fail
          go_ret2
          exact ⟨by rw [HR.out]; rfl, Below.refl _ _⟩
    · have HR := Lib.hid (show R = (10, 0) from by rw [← hR, if_neg (fun h => h0 h.1), if_neg (fun h => h0 h.1)])
      have t1 : ((s[0].toNat : Int) == 48) = false := by rw [show (48 : Int) = ((48 : Nat) : Int) from rfl, k0]; simpa using h0
      have t2 : ((s[0].toNat : Int) != 48) = true := by rw [bne, t1]; rfl
      clear R8 R16 hR h0 k0 k1 k2 k3 k4
      go_enter Tryd.func25, Tryd.ntmps25
      go_wp2_with fail
      go_ret2
      exact ⟨by rw [HR.out]; rfl, Below.refl _ _⟩
end Go.Proofs.YthcogfceighbpaaDoor
