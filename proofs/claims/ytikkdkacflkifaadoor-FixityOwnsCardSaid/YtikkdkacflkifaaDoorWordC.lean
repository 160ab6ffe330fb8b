/- DERIVED. The walks of plain and scan. DERIVED. The walk of scan. -/
import Derived.Test.YtikkdkacflkifaaDoorWord
set_option linter.unusedSimpArgs false
set_option linter.unusedVariables false
namespace Go.Proofs.YtikkdkacflkifaaDoor
open Go.RowKit

theorem ext_data (s : ByteArray) (n : Nat) : (s.extract 0 n).data.toList = s.data.toList.take n := by
  rw [Lib.extract_data]; simp
theorem ext_size (s : ByteArray) (n : Nat) (h : n ≤ s.size) : (s.extract 0 n).size = n := by simp; omega
theorem ext_nil (s : ByteArray) : s.extract 0 0 = ⟨#[]⟩ := by
  rw [Lib.extract_eq]; rfl
theorem run_zero (l : List UInt8) (k : Int) : runL l 0 k = (span (isCls k) l : Nat) := by
  unfold runL; rw [if_pos ⟨Int.le_refl _, by omega⟩]; simp

set_option maxHeartbeats 1000000 in
theorem plain_any (s : ByteArray) (w : World) (hs : s.size ≤ 1152921504606846976) (hT : Tabs w) :
    Calls Tryd.prog 61 #[.string s] w fun e w' => e = .returned (.tuple #[.int .i64 (plainW s.data.toList).1, .string (s.extract 0 (plainW s.data.toList).2)]) ∧ Below w.heap.size w w' := by
  have f1 := first_any s w hs hT
  have HT := Lib.hid hT
  clear hT
  by_cases h6 : firstC s.data.toList = 6
  · have hp : plainW s.data.toList = (15, 1) := by unfold plainW; rw [if_pos h6]
    rw [h6] at f1
    rw [hp]
    have hl : 1 ≤ s.size := by
      have := plainW_le s.data.toList; rw [hp, ← Lib.size_eq] at this; exact this
    have F1 := Lib.hid f1
    clear f1 hp h6
    go_enter Tryd.func61, Tryd.ntmps61
    go_wp2_with fail
    refine F1.out.mono ?_
    rintro e w1 ⟨rfl, hb⟩
    have HB := Lib.hid hb
    clear hb
    go_wp2_with fail
    go_quiet (fail)
    go_wp2_with fail
    go_ret2
    exact ⟨rfl, below_drewN HB.out _⟩
  by_cases h5 : firstC s.data.toList = 5
  · obtain ⟨n, hn⟩ : ∃ n, span (isCls 5) s.data.toList = n := ⟨_, rfl⟩
    have hp : plainW s.data.toList = (symK (s.data.toList.take n), n) := by unfold plainW; rw [if_neg h6, if_pos h5, hn]
    rw [h5] at f1
    rw [hp]
    have hl : n ≤ s.size := by
      have := plainW_le s.data.toList; rw [hp, ← Lib.size_eq] at this; exact this
    have r1 := fun w => run_any s 0 5 w hs
    rw [run_zero, hn] at r1
    have k1 := fun w => symbols_any (s.extract 0 n) w
    rw [ext_data] at k1
    have F1 := Lib.hid f1; have R1 := Lib.hid r1; have K1 := Lib.hid k1
    clear f1 r1 k1 hp h6 h5 hn
    go_enter Tryd.func61, Tryd.ntmps61
    go_wp2_with fail
    refine F1.out.mono ?_
    rintro e w1 ⟨rfl, hb⟩
    have HB := Lib.hid hb
    clear hb
    go_wp2_with fail
    refine (R1.out _).mono ?_
    rintro e w2 ⟨rfl, hb2⟩
    have HB2 := Lib.hid (Below.then HB.out hb2)
    clear hb2
    go_wp2_with fail
    refine (K1.out _).mono ?_
    rintro e w' ⟨rfl, rfl⟩
    go_wp2_with fail
    go_ret2
    exact ⟨rfl, HB2.out⟩
  by_cases h3 : firstC s.data.toList = 3
  · have hp : plainW s.data.toList = (2, nameLen s.data.toList) := by unfold plainW; rw [if_neg h6, if_neg h5, if_pos h3]
    rw [h3] at f1
    rw [hp]
    have n1 := fun w => name_any s w hs
    generalize nameLen s.data.toList = n at *
    have F1 := Lib.hid f1; have N1 := Lib.hid n1
    clear f1 n1 hp h6 h5 h3
    go_enter Tryd.func61, Tryd.ntmps61
    go_wp2_with fail
    refine F1.out.mono ?_
    rintro e w1 ⟨rfl, hb⟩
    have HB := Lib.hid hb
    clear hb
    go_wp2_with fail
    refine (N1.out _).mono ?_
    rintro e w2 ⟨rfl, hb2⟩
    have HB2 := Lib.hid (Below.then HB.out hb2)
    clear hb2
    go_wp2_with fail
    go_ret2
    exact ⟨rfl, HB2.out⟩
  by_cases h2 : firstC s.data.toList = 2
  · have hp : plainW s.data.toList = ((if resv (s.data.toList.take (nameLen s.data.toList)) then 9 else 1), nameLen s.data.toList) := by unfold plainW; rw [if_neg h6, if_neg h5, if_neg h3, if_pos h2]
    rw [h2] at f1
    rw [hp]
    have n1 := fun w => name_any s w hs
    have r1 := fun w => reserved_any (s.extract 0 (nameLen s.data.toList)) w
    rw [ext_data] at r1
    generalize nameLen s.data.toList = n at *
    generalize resv (s.data.toList.take n) = b at *
    have F1 := Lib.hid f1; have N1 := Lib.hid n1; have R1 := Lib.hid r1
    clear f1 n1 r1 hp h6 h5 h3 h2
    cases b
    all_goals
      go_enter Tryd.func61, Tryd.ntmps61
      go_wp2_with fail
      refine F1.out.mono ?_
      rintro e w1 ⟨rfl, hb⟩
      have HB := Lib.hid hb
      clear hb
      go_wp2_with fail
      refine (N1.out _).mono ?_
      rintro e w2 ⟨rfl, hb2⟩
      have HB2 := Lib.hid (Below.then HB.out hb2)
      clear hb2
      go_wp2_with fail
      refine (R1.out _).mono ?_
      rintro e w' ⟨rfl, rfl⟩
      go_wp2_with fail
      go_ret2
      exact ⟨rfl, HB2.out⟩
  have hp : plainW s.data.toList = (0, 0) := by unfold plainW; rw [if_neg h6, if_neg h5, if_neg h3, if_neg h2]
  rw [hp, ext_nil]
  generalize firstC s.data.toList = k at *
  have b6 : (k == 6) = false := beq_eq_false_iff_ne.2 h6
  have b5 : (k == 5) = false := beq_eq_false_iff_ne.2 h5
  have b3 : (k == 3) = false := beq_eq_false_iff_ne.2 h3
  have b2 : (k == 2) = false := beq_eq_false_iff_ne.2 h2
  have F1 := Lib.hid f1
  clear f1 hp h6 h5 h3 h2
  go_enter Tryd.func61, Tryd.ntmps61
  go_wp2_with fail
  refine F1.out.mono ?_
  rintro e w1 ⟨rfl, hb⟩
  have HB := Lib.hid hb
  clear hb
  go_wp2_with fail
  go_ret2
  exact ⟨rfl, HB.out⟩
end Go.Proofs.YtikkdkacflkifaaDoor

namespace Go.Proofs.YtikkdkacflkifaaDoor
open Go.RowKit

theorem point_prefix (l : List UInt8) (n : Nat) : Lib.hasPrefix (l.drop n) [46] = pointAt l n := by
  rw [hasPrefix_one, pointAt, getD_drop, Nat.add_zero, List.length_drop]
  congr 1
  rw [decide_eq_decide]
  omega

/-- How far the loop has come. -/
def ScanAt (l : List UInt8) (R : Int × Nat × Nat) (k : Int) (n a : Nat) : Prop := n ≤ l.length ∧ goOn l.length l k n a = R

set_option maxHeartbeats 2000000 in
theorem scanW_any (s : ByteArray) (w : World) (hs : s.size ≤ 1152921504606846976) (hT : Tabs w) :
    Calls Tryd.prog 48 #[.string s] w fun e w' => e = .returned (.tuple #[.int .i64 (scanW s.data.toList).1, .string (s.extract 0 (scanW s.data.toList).2.1), .int .i64 ((scanW s.data.toList).2.2 : Int)]) ∧ Below w.heap.size w w' := by
  obtain ⟨R, hR⟩ : ∃ R, scanW s.data.toList = R := ⟨_, rfl⟩
  have p1 := plain_any s w hs hT
  have hst : ScanAt s.data.toList R (plainW s.data.toList).1 (plainW s.data.toList).2 0 := ⟨plainW_le _, hR⟩
  rw [hR]
  generalize (plainW s.data.toList).1 = k0 at *
  generalize (plainW s.data.toList).2 = n0 at *
  have P1 := Lib.hid p1; have HT := Lib.hid hT; have HS := Lib.hid hst
  clear p1 hT hR hst
  go_enter Tryd.func48, Tryd.ntmps48
  go_wp2_with fail
  refine P1.out.mono ?_
  rintro e w1 ⟨rfl, hb1⟩
  have HB1 := Lib.hid hb1
  have HT1 := Lib.hid (HT.out.below hb1)
  clear hb1
  go_wp2_with fail
  go_loopw [2, 3, 4] (fun kv wv av wr => ∃ (k : Int) (n a : Nat), kv = .int .i64 k ∧ wv = .string (s.extract 0 n) ∧ av = .int .i64 a ∧ n ≤ s.size ∧ Hid (ScanAt s.data.toList R k n a) ∧ Hid (Tabs wr) ∧ Hid (Below w.heap.size w wr)) (fun _ wv _ _ => s.size - (match wv with | .string x => x.size | _ => 0))
  case atStart => exact ⟨k0, n0, 0, rfl, rfl, rfl, by have := HS.out.1; rw [← Lib.size_eq] at this; exact this, HS, HT1, HB1⟩
  case round =>
    obtain ⟨k, n, a, rfl, rfl, rfl, hn, hSc, hTr, hBr⟩ := hrel
    have hex : Hid ((s.extract 0 n).size = n) := ext_size s n hn
    by_cases hk : k = 2 ∨ k = 4
    · have hp := Tryd.strings_HasPrefix (s.extract n s.size) ⟨#[46]⟩
      have hpp : Lib.hasPrefix (s.extract n s.size).data.toList (⟨#[46]⟩ : ByteArray).data.toList = pointAt s.data.toList n := by
        rw [cut_data]; exact point_prefix _ _
      rw [hpp] at hp
      have HP := Lib.hid hp
      clear hp hpp
      cases hpt : pointAt s.data.toList n with
      | false =>
        rw [hpt] at HP
        have hE : R = (k, n, a) := by
          rw [← hSc.out.2]
          exact goOn_end _ _ _ _ _ (by rintro ⟨_, h, _⟩; rw [hpt] at h; cases h)
        subst hE
        clear hpt
        rcases hk with rfl | rfl
        all_goals
          go_wp2_with (go_at_call 62; refine (HP.out _).mono ?_; rintro e w' ⟨rfl, rfl⟩)
          go_ret3
          exact ⟨rfl, hBr.out⟩
      | true =>
        rw [hpt] at HP
        have hlt : n < s.size := by have := point_lt hpt; rw [← Lib.size_eq] at this; exact this
        have q1 := fun w hT => plain_any (s.extract (n + 1) s.size) w (by rw [ByteArray.size_extract]; omega) hT
        rw [cut_data] at q1
        have hpl := plainW_le (s.data.toList.drop (n + 1))
        rw [List.length_drop, ← Lib.size_eq] at hpl
        have hqk := fun w => qualified_any (plainW (s.data.toList.drop (n + 1))).1 w
        have hz2 : ((s.extract (n + 1) s.size).extract 0 (plainW (s.data.toList.drop (n + 1))).2).size = (plainW (s.data.toList.drop (n + 1))).2 := ext_size _ _ (by rw [ByteArray.size_extract]; omega)
        by_cases hq : qualK (plainW (s.data.toList.drop (n + 1))).1 = 0
        · have hE : R = (k, n, a) := by
            rw [← hSc.out.2]
            exact goOn_end _ _ _ _ _ (by rintro ⟨_, _, h⟩; exact h hq)
          subst hE
          rw [hq] at hqk
          generalize plainW (s.data.toList.drop (n + 1)) = pw at *
          have Q1 := Lib.hid q1; have QK := Lib.hid hqk; have HZ := Lib.hid hz2
          clear q1 hqk hz2 hq hpt
          rcases hk with rfl | rfl
          all_goals
            go_wp2_with (go_at_call 62; refine (HP.out _).mono ?_; rintro e w' ⟨rfl, rfl⟩)
            refine (Q1.out _ hTr.out).mono ?_
            rintro e w2 ⟨rfl, hb2⟩
            have HB2 := Lib.hid (hBr.out.trans (hb2.mono hBr.out.size))
            clear hb2
            go_wp2_with (go_at_call 63; refine (QK.out _).mono ?_; rintro e w' ⟨rfl, rfl⟩)
            go_ret3
            exact ⟨rfl, HB2.out⟩
        · have hN : ScanAt s.data.toList R (qualK (plainW (s.data.toList.drop (n + 1))).1) (n + 1 + (plainW (s.data.toList.drop (n + 1))).2) (n + 1) := by
            refine ⟨by rw [← Lib.size_eq]; omega, ?_⟩
            rw [← hSc.out.2]
            exact (goOn_step _ _ _ _ ⟨hk, hpt, hq⟩).symm
          generalize plainW (s.data.toList.drop (n + 1)) = pw at *
          have hqb : (qualK pw.1 == 0) = false := beq_eq_false_iff_ne.2 hq
          generalize qualK pw.1 = qk at *
          have Q1 := Lib.hid q1; have QK := Lib.hid hqk; have HZ := Lib.hid hz2; have HN := Lib.hid hN
          have hb5 : n + 1 + pw.2 ≤ s.size := by omega
          clear q1 hqk hz2 hq hpt hN
          have hex2 : Hid ((s.extract 0 (n + 1 + pw.2)).size = n + 1 + pw.2) := ext_size s _ hb5
          rcases hk with rfl | rfl
          all_goals
            go_wp2_with (go_at_call 62; refine (HP.out _).mono ?_; rintro e w' ⟨rfl, rfl⟩)
            refine (Q1.out _ hTr.out).mono ?_
            rintro e w2 ⟨rfl, hb2⟩
            have HT2 := Lib.hid (hTr.out.below hb2)
            have HB2 := Lib.hid (hBr.out.trans (hb2.mono hBr.out.size))
            clear hb2
            go_wp2_with (go_at_call 63; refine (QK.out _).mono ?_; rintro e w' ⟨rfl, rfl⟩)
            have g1 : IntKind.i64.wrap ((n : Int) + 1 + pw.2) = (n : Int) + 1 + pw.2 := IntWalk.i64_in _ (by omega)
            have g2 : (0 : Int) ≤ (n : Int) + 1 + pw.2 := by omega
            have g3 : ((n : Int) + 1 + pw.2).toNat = n + 1 + pw.2 := by omega
            have g4 : (n : Int) + 1 + pw.2 ≤ (s.size : Int) := by omega
            have hzz := HZ.out
            go_quiet (fail)
            clear g1 g2 g3 g4 hzz
            go_wp2_with fail
            go_roundw
            case rel => exact ⟨qk, _, n + 1, rfl, rfl, by go_num, hb5, HN, ⟨HT2.out.1, HT2.out.2⟩, below_drewN HB2.out _⟩
            case measure =>
              have e1 := hex.out
              have e2 := hex2.out
              simp only [e1, e2]
              omega
    · have hE : R = (k, n, a) := by
        rw [← hSc.out.2]
        exact goOn_end _ _ _ _ _ (fun h => hk h.1)
      subst hE
      have b2 : (k == 2) = false := beq_eq_false_iff_ne.2 fun e => hk (.inl e)
      have b4 : (k == 4) = false := beq_eq_false_iff_ne.2 fun e => hk (.inr e)
      clear hk
      go_wp2_with fail
      go_ret3
      exact ⟨rfl, hBr.out⟩

/-! ### what stands on scan -/

theorem ext_ne (s : ByteArray) (n m : Nat) (hm : m = s.size) (h : n ≠ m) (hle : n ≤ s.size) : ((s.extract 0 n).toList == s.toList) = false := by
  rw [beq_eq_false_iff_ne, Lib.toList_data, Lib.toList_data, ext_data]
  intro e
  have := congrArg List.length e
  rw [List.length_take, ← Lib.size_eq] at this
  omega

end Go.Proofs.YtikkdkacflkifaaDoor

