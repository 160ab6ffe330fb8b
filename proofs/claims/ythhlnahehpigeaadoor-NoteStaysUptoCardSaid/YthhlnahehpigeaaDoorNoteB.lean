/- DERIVED. The walk of note's Scan. -/
import Derived.Test.YthhlnahehpigeaaDoorNoteA
import Derived.Test.YthhlnahehpigeaaDoorNoteU
set_option linter.unusedSimpArgs false
set_option linter.unusedVariables false
namespace Go.Proofs.YthhlnahehpigeaaDoor
open Go.RowKit

theorem byteKN (x : UInt8) (c : Nat) (i : Int) (hi : i = c) (hc : c < 256) : (x = UInt8.ofNat c → ((x.toNat : Int) == i) = true) ∧ (¬ x = UInt8.ofNat c → ((x.toNat : Int) == i) = false) := by
  subst hi
  refine ⟨?_, fun h => ?_⟩
  · rintro rfl; rw [UInt8.toNat_ofNat']; simp; omega
  · rw [beq_eq_false_iff_ne]
    intro e; apply h; apply UInt8.toNat_inj.1; rw [UInt8.toNat_ofNat']; omega
def twoV (p : Int × Int) : Value := .tuple #[.int .i64 p.1, .int .i64 p.2]
theorem at_get (s : ByteArray) (i : Nat) (h : i < s.size) : s.data.toList[i]? = some s[i] := by
  rw [List.getElem?_eq_getElem (by rw [← Lib.size_eq]; exact h)]; rfl
set_option maxRecDepth 20000 in
set_option maxHeartbeats 4000000 in
theorem noteScan_any (s : ByteArray) (i : Int) (w : World) (hs : s.size ≤ 8796093022206) :
    Calls Tryd.prog 11 #[.string s, .int .i64 i] w fun e w' => e = .returned (twoV (scanN s.data.toList i)) ∧ Below w.heap.size w w' := by
  obtain ⟨R, hR⟩ : ∃ R, scanN s.data.toList i = R := ⟨_, rfl⟩
  rw [hR]
  unfold scanN at hR
  rw [← Lib.size_eq] at hR
  by_cases h0 : 0 ≤ i
  · obtain ⟨a, rfl⟩ := Int.eq_ofNat_of_zero_le h0
    have t0 : decide ((a : Int) < 0) = false := by simp
    rw [Int.toNat_natCast] at hR
    by_cases ha : a < s.size
    · have t1 : decide (s.size ≤ a) = false := by simp; omega
      rw [if_pos ⟨h0, by omega⟩] at hR
      have hcs := cut_size s a (by omega)
      have hcd := cut_data s a
      have C1 := fun w => preAt s a 123 45 w (by omega)
      have e2 : twoB s.data.toList a 123 45 = twoB (s.data.toList.drop a) 0 123 45 := (twoB_drop _ a 0 _ _).symm
      rw [e2] at C1
      have eg : (s.data.toList.drop a)[0]? = some s[a] := by rw [List.getElem?_drop, Nat.add_zero]; exact at_get s a ha
      rw [eg] at hR
      have b1 : (a : Int) ≤ s.size := by omega
      cases h2 : twoB (s.data.toList.drop a) 0 123 45 with
      | true =>
        rw [h2] at C1 hR
        rw [if_pos rfl] at hR
        have N1 := fun w => nested_any (s.extract a s.size) w (by omega) (by rw [hcd]; exact h2)
        rw [hcd] at N1
        have hl := fun n hn => nestI_last _ (s.data.toList.drop a) 2 1 n (Nat.le_refl _) hn
        rw [List.length_drop, ← Lib.size_eq] at hl
        have C1 := Lib.hid C1
        cases hn : nestI (s.data.toList.drop a) 2 1 with
        | none =>
          rw [hn] at N1 hR
          have N1 := Lib.hid N1
          have HR := Lib.hid hR
          clear hR hl hn h2 eg e2 hcs hcd
          go_enter Tryd.func11, Tryd.ntmps11
          go_wp2_with fail
          refine (C1.out _).mono ?_
          rintro e w1 ⟨rfl, rfl⟩
          go_wp2_with fail
          refine (N1.out _).mono ?_
          rintro e w1 ⟨rfl, rfl⟩
          unfold nestV
          go_wp2_with fail
          go_ret2
          exact ⟨by rw [← HR.out]; rfl, Below.refl _ _⟩
        | some n =>
          obtain ⟨h4, h5, _⟩ := hl n hn
          rw [hn] at N1 hR
          have N1 := Lib.hid N1
          have HR := Lib.hid hR
          have t3 : ((n : Int) == 0) = false := by simp; omega
          clear hR hl hn h2 eg e2 hcs hcd
          go_enter Tryd.func11, Tryd.ntmps11
          go_wp2_with fail
          refine (C1.out _).mono ?_
          rintro e w1 ⟨rfl, rfl⟩
          go_wp2_with fail
          refine (N1.out _).mono ?_
          rintro e w1 ⟨rfl, rfl⟩
          unfold nestV
          go_wp2_with fail
          go_ret2
          exact ⟨by rw [← HR.out]; rfl, Below.refl _ _⟩
      | false =>
        rw [h2] at C1 hR
        rw [if_neg (by simp)] at hR
        have C1 := Lib.hid C1
        obtain ⟨y45, n45⟩ := byteKN s[a] 45 45 rfl (by decide)
        by_cases h45 : s[a] = 45
        · have q := y45 h45
          rw [if_pos (by rw [h45])] at hR
          have W1 := fun w => row_any (s.extract a s.size) w (by omega)
          rw [hcd] at W1
          have hrl : rowN (s.data.toList.drop a) ≤ s.size := by
            by_cases h : rowN (s.data.toList.drop a) = 0
            · omega
            · have := (row_alone _ h).2.1; rw [List.length_drop, ← Lib.size_eq] at this; omega
          generalize rowN (s.data.toList.drop a) = n at *
          have W1 := Lib.hid W1
          by_cases hn : n = 0
          · subst hn
            rw [if_pos rfl] at hR
            have HR := Lib.hid hR
            clear hR h2 eg e2 hcs hcd h45 y45 n45
            go_enter Tryd.func11, Tryd.ntmps11
            go_wp2_with fail
            refine (C1.out _).mono ?_
            rintro e w1 ⟨rfl, rfl⟩
            go_wp2_with fail
            refine (W1.out _).mono ?_
            rintro e w1 ⟨rfl, hb1⟩
            have HB1 := Lib.hid hb1
            clear hb1
            go_wp2_with fail
            go_ret2
            exact ⟨by rw [← HR.out]; rfl, HB1.out⟩
          · rw [if_neg hn] at hR
            have HR := Lib.hid hR
            have t3 : ((n : Int) == 0) = false := by simp; omega
            clear hR h2 eg e2 hcs hcd h45 y45 n45 hn
            go_enter Tryd.func11, Tryd.ntmps11
            go_wp2_with fail
            refine (C1.out _).mono ?_
            rintro e w1 ⟨rfl, rfl⟩
            go_wp2_with fail
            refine (W1.out _).mono ?_
            rintro e w1 ⟨rfl, hb1⟩
            have HB1 := Lib.hid hb1
            clear hb1
            go_wp2_with fail
            go_ret2
            exact ⟨by rw [← HR.out]; rfl, HB1.out⟩
        · have q := n45 h45
          rw [if_neg (by simpa using h45)] at hR
          have HR := Lib.hid hR
          clear hR h2 eg e2 hcs hcd h45 y45 n45
          go_enter Tryd.func11, Tryd.ntmps11
          go_wp2_with fail
          refine (C1.out _).mono ?_
          rintro e w1 ⟨rfl, rfl⟩
          go_wp2_with fail
          go_ret2
          exact ⟨by rw [← HR.out]; rfl, Below.refl _ _⟩
    · have t1 : decide (s.size ≤ a) = true := by simp; omega
      rw [if_neg (by omega)] at hR
      have HR := Lib.hid hR
      clear hR
      go_enter Tryd.func11, Tryd.ntmps11
      go_wp2_with fail
      go_ret2
      exact ⟨by rw [← HR.out]; rfl, Below.refl _ _⟩
  · have t0 : decide (i < 0) = true := by simp; omega
    rw [if_neg (by omega)] at hR
    have HR := Lib.hid hR
    clear hR h0
    go_enter Tryd.func11, Tryd.ntmps11
    go_wp2_with fail
    go_ret2
    exact ⟨by rw [← HR.out]; rfl, Below.refl _ _⟩
end Go.Proofs.YthhlnahehpigeaaDoor
