/- DERIVED. The walks of Check: glyph's and the reference's. -/
import Derived.Test.YtimcnmmkccdcdaaDoorRun
set_option linter.unusedSimpArgs false
set_option linter.unusedVariables false
namespace Go.Proofs.YtimcnmmkccdcdaaDoor
open Go.RowKit

set_option maxHeartbeats 1000000 in
theorem check_any (s : ByteArray) (w : World) (hs : s.size ≤ 1152921504606846976) (hT : Tabs w) :
    Calls Tryd.prog 16 #[.string s] w fun e w' => e = .returned (.tuple #[.int .i64 ((checkL s.data.toList).1 : Int), .int .i64 (checkL s.data.toList).2]) ∧ Below w.heap.size w w' := by
  obtain ⟨R, hR⟩ : ∃ R, checkL s.data.toList = R := ⟨_, rfl⟩
  rw [hR]
  have HR := Lib.hid hR
  clear hR
  have HT := Lib.hid hT
  clear hT
  go_enter Tryd.func16, Tryd.ntmps16
  go_wp2_with fail
  go_loopw [] (fun wr => ∃ pos : Nat, Iter w s pos wr ∧ CheckCome s.data.toList pos) (fun wr => s.size - wr.iterPos w.heap.size)
  case atStart => exact ⟨0, Iter.start _ _, CheckCome.start _⟩
  case round =>
    obtain ⟨pos, hI, hC⟩ := hrel
    have HP := Lib.hid (iterPos_at hI)
    by_cases hp : pos < s.size
    · have hpl : pos < s.data.toList.length := by rw [← Lib.size_eq]; exact hp
      have hnx : ∀ ty, (Instr.next (.pointer (some ⟨w.heap.size, 0, none⟩)) true ty).run Tryd.prog wr = _ := fun ty => Lib.run_next_any_at wr w.heap.size s pos ty hI.1 hp
      rw [decode_eq] at hnx
      have hdl := dec_len _ (drop_ne hpl)
      have hI2 := hI.next (pos + (dec (s.data.toList.drop pos)).2)
      have hq : okRune (s.data.toList.drop pos) = true → Hid (pos + (dec (s.data.toList.drop pos)).2 ≤ s.size) := fun h => by
        have := (hC.next hpl h).1; rw [← Lib.size_eq] at this; exact this
      have HG := Lib.hid (decodeGo_cut s pos hp)
      have HTr : Hid (Tabs (wr.iterAt w.heap.size s (pos + (dec (s.data.toList.drop pos)).2))) := HT.out.below hI2.2
      by_cases hk : (dec (s.data.toList.drop pos)).1 = 65533
      · have hkb : (((dec (s.data.toList.drop pos)).1 : Int) != 65533) = false := by simp; omega
        by_cases hn : (dec (s.data.toList.drop pos)).2 = 1
        · have hE := hC.stop hpl (by unfold okRune; simp [hk, hn])
          rw [HR.out] at hE
          subst hE
          have hnb : (((dec (s.data.toList.drop pos)).2 : Int) == 1) = true := by simp; omega
          have HK := Lib.hid hk; have HN := Lib.hid hn
          clear hk hn hq
          go_wp2_with (go_at_call 18; refine (Tryd.utf8_DecodeRuneInString _ _ HTr.out).mono ?_; rw [HG.out]; rintro e w1 ⟨rfl, hb1⟩)
          go_ret2
          exact ⟨rfl, hI2.2.trans (hb1.mono hI2.2.size)⟩
        · have hok : okRune (s.data.toList.drop pos) = true := by unfold okRune; simp [hn]
          have hC2 := hC.next hpl hok
          have hq := hq hok
          have hnb : (((dec (s.data.toList.drop pos)).2 : Int) == 1) = false := by simp; omega
          have HK := Lib.hid hk; have HN := Lib.hid hn
          clear hk hn
          go_wp2_with (go_at_call 18; refine (Tryd.utf8_DecodeRuneInString _ _ HTr.out).mono ?_; rw [HG.out]; rintro e w1 ⟨rfl, hb1⟩)
          go_roundw
          case rel => exact ⟨_, hI2.keep hb1, hC2⟩
          case measure =>
            rw [HP.out, iterPos_at (hI2.keep hb1)]
            have := hq.out
            omega
      · have hok : okRune (s.data.toList.drop pos) = true := by unfold okRune; simp [hk]
        have hC2 := hC.next hpl hok
        have hq := hq hok
        have hkb : (((dec (s.data.toList.drop pos)).1 : Int) != 65533) = true := by simp; omega
        clear hk
        go_wp2_with fail
        go_roundw
        case rel => exact ⟨_, hI2, hC2⟩
        case measure =>
          rw [HP.out, iterPos_at hI2]
          have := hq.out
          omega
    · have hpl : ¬ pos < s.data.toList.length := by rw [← Lib.size_eq]; exact hp
      have hnx : ∀ ty, (Instr.next (.pointer (some ⟨w.heap.size, 0, none⟩)) true ty).run Tryd.prog wr = _ := fun ty => Lib.run_next_end_at wr w.heap.size s pos ty hI.1 hp
      have hE := hC.end hpl
      rw [HR.out, ← Lib.size_eq] at hE
      subst hE
      go_wp2_with fail
      go_ret2
      exact ⟨rfl, hI.2⟩

set_option maxHeartbeats 1000000 in
theorem refCheck_any (s : ByteArray) (w : World) (hs : s.size ≤ 1152921504606846976) :
    Calls Tryd.prog 17 #[.string s] w fun e w' => e = .returned (.tuple #[.int .i64 ((checkL s.data.toList).1 : Int), .int .i64 (checkL s.data.toList).2]) ∧ w = w' := by
  obtain ⟨R, hR⟩ : ∃ R, checkL s.data.toList = R := ⟨_, rfl⟩
  rw [hR]
  have HR := Lib.hid hR
  clear hR
  go_enter Tryd.func17, Tryd.ntmps17
  go_wp2_with fail
  go_loop [4] (fun i => ∃ pos : Nat, i = .int .i64 pos ∧ CheckCome s.data.toList pos) (fun i => s.size - (intOf i).toNat)
  case atStart => exact ⟨0, rfl, CheckCome.start _⟩
  case round =>
    obtain ⟨pos, rfl, hC⟩ := hrel
    by_cases hp : pos < s.size
    · have hpl : pos < s.data.toList.length := by rw [← Lib.size_eq]; exact hp
      have hdl := dec_len _ (drop_ne hpl)
      have hnx : Hid (nextL s.data.toList pos = (((dec (s.data.toList.drop pos)).1 : Int), ((dec (s.data.toList.drop pos)).2 : Int))) := by
        show nextL s.data.toList pos = _
        unfold nextL; rw [if_pos ⟨by omega, by omega⟩, Int.toNat_natCast]
      have hq : okRune (s.data.toList.drop pos) = true → Hid (pos + (dec (s.data.toList.drop pos)).2 ≤ s.size) := fun h => by
        have := (hC.next hpl h).1; rw [← Lib.size_eq] at this; exact this
      by_cases hk : (dec (s.data.toList.drop pos)).1 = 65533
      · have hkb : (((dec (s.data.toList.drop pos)).1 : Int) == 65533) = true := by simp; omega
        by_cases hn : (dec (s.data.toList.drop pos)).2 = 1
        · have hE := hC.stop hpl (by unfold okRune; simp [hk, hn])
          rw [HR.out] at hE
          subst hE
          have hnb : (((dec (s.data.toList.drop pos)).2 : Int) == 1) = true := by simp; omega
          clear hk hn hq
          go_wp2_with (go_at_call 10; refine (refNext_any _ _ _ hs).mono ?_; rw [hnx.out]; rintro e w' ⟨rfl, rfl⟩)
          go_ret2
          exact ⟨rfl, rfl⟩
        · have hok : okRune (s.data.toList.drop pos) = true := by unfold okRune; simp [hn]
          have hC2 := hC.next hpl hok
          have hbd : pos + (dec (s.data.toList.drop pos)).2 ≤ s.size := (hq hok).out
          have hnb : (((dec (s.data.toList.drop pos)).2 : Int) == 1) = false := by simp; omega
          clear hk hn hq
          go_wp2_with (go_at_call 10; refine (refNext_any _ _ _ hs).mono ?_; rw [hnx.out]; rintro e w' ⟨rfl, rfl⟩)
          go_round
          case rel => exact ⟨_, by go_num, hC2⟩
          case measure => simp [intOf]; omega
      · have hok : okRune (s.data.toList.drop pos) = true := by unfold okRune; simp [hk]
        have hC2 := hC.next hpl hok
        have hbd : pos + (dec (s.data.toList.drop pos)).2 ≤ s.size := (hq hok).out
        have hkb : (((dec (s.data.toList.drop pos)).1 : Int) == 65533) = false := by simp; omega
        clear hk hq
        go_wp2_with (go_at_call 10; refine (refNext_any _ _ _ hs).mono ?_; rw [hnx.out]; rintro e w' ⟨rfl, rfl⟩)
        go_round
        case rel => exact ⟨_, by go_num, hC2⟩
        case measure => simp [intOf]; omega
    · have hpl : ¬ pos < s.data.toList.length := by rw [← Lib.size_eq]; exact hp
      have hE := hC.end hpl
      rw [HR.out, ← Lib.size_eq] at hE
      subst hE
      go_wp2_with fail
      go_ret2
      exact ⟨rfl, rfl⟩
end Go.Proofs.YtimcnmmkccdcdaaDoor
