/- DERIVED. The walk of the reference's name. -/
import Derived.Test.YthiljpnabgbabaaDoorRefWordB
set_option linter.unusedSimpArgs false
set_option linter.unusedVariables false
namespace Go.Proofs.YthiljpnabgbabaaDoor
open Go.RowKit

theorem quote_iff (l : List UInt8) : ((dec l).1 : Int) = 39 ↔ ((l.getD 0 0).toNat : Int) = 39 := by
  constructor
  · intro h
    have := (dec_small l (by omega)).1
    omega
  · intro h
    rw [dec_ascii l (by omega)]
    exact h

set_option maxHeartbeats 2000000 in
theorem refName_any (s : ByteArray) (i : Nat) (w : World) (hs : s.size ≤ 1152921504606846976) (hi : i ≤ s.size) :
    Calls Tryd.prog 23 #[.string s, .int .i64 i] w fun e w' => e = .returned (.int .i64 ((i + nameLen (s.data.toList.drop i) : Nat) : Int)) ∧ w = w' := by
  obtain ⟨R, hR⟩ : ∃ R : Nat, nameLen (s.data.toList.drop i) = R := ⟨_, rfl⟩
  rw [hR]
  have HR : Hid (span inName (s.data.toList.drop i) = R) := hR
  clear hR
  have hap : ((i + R : Nat) : Int) = (i : Int) + R := by omega
  rw [hap]
  clear hap
  go_enter Tryd.func23, Tryd.ntmps23
  go_wp2_with fail
  go_loop [1] (fun j => ∃ pos : Nat, j = .int .i64 ((i : Int) + pos) ∧ i + pos ≤ s.size ∧ Hid (Come inName (s.data.toList.drop i) pos)) (fun j => s.size - (intOf j).toNat)
  case atStart => exact ⟨0, by simp, by omega, Come.start _ _⟩
  case round =>
    obtain ⟨pos, rfl, hle, hC⟩ := hrel
    by_cases hp : i + pos < s.size
    · have hpl : pos < (s.data.toList.drop i).length := by rw [List.length_drop, ← Lib.size_eq]; omega
      have hdl := dec_len _ (drop_ne hpl)
      have hdd : (s.data.toList.drop i).drop pos = s.data.toList.drop (i + pos) := List.drop_drop
      have hlen : (s.data.toList.drop (i + pos)).length = s.size - (i + pos) := by rw [List.length_drop, ← Lib.size_eq]
      have hnx : Hid (classAt s.data.toList ((i : Int) + pos) = (cls (dec ((s.data.toList.drop i).drop pos)).1, ((dec ((s.data.toList.drop i).drop pos)).2 : Int))) := by
        show classAt s.data.toList ((i : Int) + pos) = _
        unfold classAt; rw [if_pos ⟨by omega, by rw [← Lib.size_eq]; omega⟩, show ((i : Int) + pos).toNat = i + pos from by omega, hdd]
      have hq := quote_iff ((s.data.toList.drop i).drop pos)
      have hbyte : ((s.data.toList.drop i).drop pos).getD 0 0 = s[i + pos] := by
        rw [hdd, getD_drop, Nat.add_zero, List.getD_eq_getElem?_getD, Lib.data_getElem? s (i + pos) hp]; rfl
      rw [hbyte] at hq
      rw [hdd, hlen] at hdl
      rw [← hdd] at hdl
      clear hlen hdd hbyte
      have hto : ((i : Int) + pos).toNat = i + pos := by omega
      by_cases hk : inName (dec ((s.data.toList.drop i).drop pos)).1 = true
      · have hC2 := Lib.hid (hC.out.next hpl hk)
        have hk' : cls (dec ((s.data.toList.drop i).drop pos)).1 = 2 ∨ cls (dec ((s.data.toList.drop i).drop pos)).1 = 3 ∨ cls (dec ((s.data.toList.drop i).drop pos)).1 = 4 ∨ (s[i + pos].toNat : Int) = 39 := by
          unfold inName at hk
          simp only [Bool.or_eq_true, beq_iff_eq] at hk
          rw [← hq]
          omega
        clear hk hq
        generalize hn : dec ((s.data.toList.drop i).drop pos) = d at *
        have HN := Lib.hid hn
        clear hn
        generalize cls d.1 = k at *
        rcases hk' with rfl | rfl | rfl | h
        case inr.inr.inr =>
          have hb : ((s[i + pos].toNat : Int) != 39) = false := by simpa using h
          clear h
          go_wp2_with (go_at_call 20; refine (refClassAt_any _ _ _ hs).mono ?_; rw [hnx.out]; rintro e w' ⟨rfl, rfl⟩)
          all_goals
            go_round
            case rel => exact ⟨pos + d.2, by go_num, by omega, hC2⟩
            case measure => simp [intOf]; omega
        all_goals
          go_wp2_with (go_at_call 20; refine (refClassAt_any _ _ _ hs).mono ?_; rw [hnx.out]; rintro e w' ⟨rfl, rfl⟩)
          go_round
          case rel => exact ⟨pos + d.2, by go_num, by omega, hC2⟩
          case measure => simp [intOf]; omega
      · have hE := hC.out.stop (by simpa using hk)
        rw [HR.out] at hE
        subst hE
        have hk' : ¬ (cls (dec ((s.data.toList.drop i).drop R)).1 = 2 ∨ cls (dec ((s.data.toList.drop i).drop R)).1 = 3 ∨ cls (dec ((s.data.toList.drop i).drop R)).1 = 4 ∨ (s[i + R].toNat : Int) = 39) := by
          unfold inName at hk
          simp only [Bool.or_eq_true, beq_iff_eq] at hk
          rw [← hq]
          omega
        clear hk hq
        generalize hn : dec ((s.data.toList.drop i).drop R) = d at *
        have HN := Lib.hid hn
        clear hn
        generalize cls d.1 = k at *
        have c2 : (k != 2) = true := bne_iff_ne.2 (by omega)
        have c3 : (k != 3) = true := bne_iff_ne.2 (by omega)
        have c4 : (k != 4) = true := bne_iff_ne.2 (by omega)
        have hb : ((s[i + R].toNat : Int) != 39) = true := bne_iff_ne.2 (by omega)
        clear hk'
        go_wp2_with (go_at_call 20; refine (refClassAt_any _ _ _ hs).mono ?_; rw [hnx.out]; rintro e w' ⟨rfl, rfl⟩)
        go_ret
        exact ⟨rfl, rfl⟩
    · have hpl : ¬ pos < (s.data.toList.drop i).length := by rw [List.length_drop, ← Lib.size_eq]; omega
      have hE := hC.out.end hpl
      rw [HR.out] at hE
      subst hE
      go_wp2_with fail
      go_ret
      exact ⟨rfl, rfl⟩
end Go.Proofs.YthiljpnabgbabaaDoor
