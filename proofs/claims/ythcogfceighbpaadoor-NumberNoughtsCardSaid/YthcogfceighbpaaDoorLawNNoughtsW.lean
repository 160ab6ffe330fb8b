/- DERIVED. The walk of the law NumberNoughts. -/
import Derived.Test.YthcogfceighbpaaDoorL04Awake
import Derived.Test.YthcogfceighbpaaDoorNumN
set_option linter.unusedSimpArgs false
set_option linter.unusedVariables false
namespace Go.Proofs.YthcogfceighbpaaDoor
open Go.RowKit

/-- The text with a point and noughts behind. -/
def noughtB (l : List UInt8) (j : Nat) : ByteArray := ⟨(l ++ 46 :: List.replicate j 48).toArray⟩
theorem noughtB_zero (s : ByteArray) : s ++ { data := #[46] } = noughtB s.data.toList 0 := by
  apply ByteArray.ext; apply Array.toList_inj.1; simp [noughtB]
theorem noughtB_succ (l : List UInt8) (j : Nat) : noughtB l j ++ { data := #[48] } = noughtB l (j + 1) := by
  apply ByteArray.ext; apply Array.toList_inj.1
  unfold noughtB
  rw [List.replicate_succ']; simp
theorem noughtB_list (l : List UInt8) (j : Nat) : (noughtB l j).data.toList = l ++ 46 :: List.replicate j 48 := rfl
theorem noughtB_size (l : List UInt8) (j : Nat) : (noughtB l j).size = l.length + j + 1 := by
  rw [Lib.size_eq, noughtB_list, List.length_append, List.length_cons, List.length_replicate]; omega
def NoughtAt (l : List UInt8) (m : Nat) (tv jv : Value) : Prop := ∃ j : Nat, jv = .int .i64 j ∧ j ≤ m + 1 ∧ tv = .string (noughtB l j)
theorem and31 (x : Int) : ∃ m : Nat, bits BinOp.and IntKind.i64 x 31 = m ∧ m ≤ 31 := by
  have h : (BitVec.ofInt 64 x &&& BitVec.ofInt 64 31).toNat ≤ 31 := by
    rw [BitVec.toNat_and]
    exact Nat.le_trans Nat.and_le_right (by decide)
  refine ⟨(BitVec.ofInt 64 x &&& BitVec.ofInt 64 31).toNat, ?_, h⟩
  show IntKind.i64.wrap ((BitVec.ofInt 64 x &&& BitVec.ofInt 64 31).toNat : Int) = _
  exact IntWalk.i64_in _ (by omega)
/-- A text that is too long is cut first. -/
theorem cut400 (s : ByteArray) (h : 400 < s.size) : (s.extract 0 400).size = 400 := by simp only [ByteArray.size_extract]; omega
set_option maxRecDepth 20000 in
set_option maxHeartbeats 4000000 in
theorem noughts_small (s : ByteArray) (more : Int) (w : World) (hs : s.size ≤ 400) (hT : Pow w) :
    Calls Tryd.prog 10 #[.string s, .int .i64 more] w fun e w' => e = .returned (.bool true) ∧ Below w.heap.size w w' := by
  have c1 := fun w => scanAt_any s 0 w (by omega)
  have c2 := fun w hT => same_any s s w (by omega) (by omega) hT
  generalize hR : scanI s.data.toList 0 = R at *
  obtain ⟨k, n⟩ := R
  generalize hQ : sameW (worthX s.data.toList) (worthX s.data.toList) = Q at *
  unfold pairV at c1
  simp only at c1
  have HT := Lib.hid hT; have C1 := Lib.hid c1; have C2 := Lib.hid c2
  have t0 : decide ((400 : Int) < s.size) = false := by simp; omega
  have HR := Lib.hid hR
  clear hT c1 c2 hR hQ
  by_cases h0 : k = 0
  · have t1 : (k == 0) = true := by simpa using h0
    clear h0
    go_enter Tryd.func10, Tryd.ntmps10
    go_wp2_with fail
    refine (awake_any _ HT.out).mono ?_
    rintro e w1 ⟨rfl, hb1⟩
    have HB1 := Lib.hid hb1
    have HT1 := Lib.hid (HT.out.below hb1)
    clear hb1
    go_wp2_with fail
    refine (C1.out _).mono ?_
    rintro e w2 ⟨rfl, hb2⟩
    have HB2 := Lib.hid (Below.then HB1.out hb2)
    clear hb2
    go_wp2_with fail
    go_ret
    exact ⟨rfl, HB2.out⟩
  · have t1 : (k == 0) = false := by simpa using h0
    by_cases hn : n = s.size
    · have t2 : ((n : Int) != s.size) = false := by simp; omega
      have HN := Lib.hid hn
      have H0 := Lib.hid h0
      clear hn h0
      cases Q with
      | false =>
        go_enter Tryd.func10, Tryd.ntmps10
        go_wp2_with fail
        refine (awake_any _ HT.out).mono ?_
        rintro e w1 ⟨rfl, hb1⟩
        have HB1 := Lib.hid hb1
        have HT1 := Lib.hid (HT.out.below hb1)
        clear hb1
        go_wp2_with fail
        refine (C1.out _).mono ?_
        rintro e w2 ⟨rfl, hb2⟩
        have HB2 := Lib.hid (Below.then HB1.out hb2)
        have HT2 := Lib.hid (HT1.out.below hb2)
        clear hb2
        go_wp2_with fail
        refine (C2.out _ HT2.out).mono ?_
        rintro e w3 ⟨rfl, hb3⟩
        have HB3 := Lib.hid (Below.then HB2.out hb3)
        clear hb3
        go_wp2_with fail
        go_ret
        exact ⟨rfl, HB3.out⟩
      | true =>
        go_enter Tryd.func10, Tryd.ntmps10
        go_wp2_with fail
        refine (awake_any _ HT.out).mono ?_
        rintro e w1 ⟨rfl, hb1⟩
        have HB1 := Lib.hid hb1
        have HT1 := Lib.hid (HT.out.below hb1)
        clear hb1
        go_wp2_with fail
        refine (C1.out _).mono ?_
        rintro e w2 ⟨rfl, hb2⟩
        have HB2 := Lib.hid (Below.then HB1.out hb2)
        have HT2 := Lib.hid (HT1.out.below hb2)
        clear hb2
        go_wp2_with fail
        refine (C2.out _ HT2.out).mono ?_
        rintro e w3 ⟨rfl, hb3⟩
        have HB3 := Lib.hid (Below.then HB2.out hb3)
        have HT3 := Lib.hid (HT2.out.below hb3)
        clear hb3
        go_wp2_with fail
        go_loop [8] (fun iv => ∃ i : Nat, iv = .int .i64 i ∧ i ≤ s.size ∧ Hid (∀ b ∈ s.data.toList.take i, 48 ≤ b.toNat ∧ b.toNat ≤ 57)) (fun iv => s.size - (intOf iv).toNat)
        case atStart => exact ⟨0, rfl, Nat.zero_le _, Lib.hid (by simp)⟩
        case round =>
          obtain ⟨i, rfl, hi, hA⟩ := hrel
          by_cases hin : i < s.size
          · have hg : s.data.toList[i]'(by rw [← Lib.size_eq]; exact hin) = s[i] := rfl
            have ht := List.take_succ_eq_append_getElem (show i < s.data.toList.length by rw [← Lib.size_eq]; exact hin)
            rw [hg] at ht
            by_cases h1 : s[i].toNat < 48
            · have t3 : decide ((s[i].toNat : Int) < 48) = true := by simp; omega
              clear hg ht
              go_wp2_with fail
              go_ret
              exact ⟨rfl, HB3.out⟩
            · have t3 : decide ((s[i].toNat : Int) < 48) = false := by simp; omega
              by_cases h2 : 57 < s[i].toNat
              · have t4 : decide ((57 : Int) < (s[i].toNat : Int)) = true := by simp; omega
                clear hg ht
                go_wp2_with fail
                go_ret
                exact ⟨rfl, HB3.out⟩
              · have t4 : decide ((57 : Int) < (s[i].toNat : Int)) = false := by simp; omega
                have hA2 : Hid (∀ b ∈ s.data.toList.take (i + 1), 48 ≤ b.toNat ∧ b.toNat ≤ 57) := Lib.hid (fun b hb => by
                  rw [ht, List.mem_append, List.mem_singleton] at hb
                  rcases hb with hb | rfl
                  · exact hA.out b hb
                  · omega)
                clear hg ht
                go_wp2_with fail
                go_round
                case rel => exact ⟨i + 1, by go_num, by omega, hA2⟩
                case measure => simp [intOf]; omega
          · have hA2 : Hid (allDig s.data.toList) := Lib.hid (fun b hb => hA.out b (by rw [List.take_of_length_le (by rw [← Lib.size_eq]; omega)]; exact hb))
            have t5 : decide (i < s.size) = false := by simp; omega
            clear hA
            go_wp2_with fail
            have hne : s.data.toList ≠ [] := by
              intro e
              have h := HR.out
              rw [e] at h
              unfold scanI at h
              rw [if_neg (by simp)] at h
              injection h with h _
              exact H0.out h.symm
            obtain ⟨m, hm, hm31⟩ := and31 more
            have HNE := Lib.hid hne
            clear hne
            go_loop [9, 10] (fun tv jv => NoughtAt s.data.toList m tv jv) (fun _ jv => 40 - (intOf jv).toNat)
            case atStart => exact ⟨0, rfl, by omega, by rw [noughtB_zero]⟩
            case round =>
              obtain ⟨j, rfl, hj, rfl⟩ := hrel
              by_cases hjm : j ≤ m
              · have t6 : decide (j ≤ m) = true := by simpa using hjm
                have HE := Lib.hid (noughtB_succ s.data.toList j)
                have hzs : (noughtB s.data.toList j).size ≤ 1000 := by rw [noughtB_size, ← Lib.size_eq]; omega
                clear hA2
                generalize noughtB s.data.toList j = z at *
                go_wp2_with fail
                go_round
                case rel => exact ⟨j + 1, by go_num, by omega, by rw [HE.out]⟩
                case measure => simp [intOf]; omega
              · have t6 : decide (j ≤ m) = false := by simpa using hjm
                obtain ⟨h1, h2, h3⟩ := noughts_plain s.data.toList j hA2.out HNE.out (by rw [← Lib.size_eq]; exact hs) (by omega) (by omega)
                have hzs : (noughtB s.data.toList j).size ≤ 1000 := by rw [noughtB_size, ← Lib.size_eq]; omega
                have n1 := fun w hT => same_any s ({ data := #[48] } ++ s) w (by omega) (by rw [ByteArray.size_append]; show 1 + s.size ≤ _; omega) hT
                have n2 := fun w hT => same_any s (noughtB s.data.toList j) w (by omega) (by omega) hT
                have n3 := fun w hT => same_any (noughtB s.data.toList j) (s ++ { data := #[101, 48] }) w (by omega) (by rw [ByteArray.size_append]; show s.size + 2 ≤ _; omega) hT
                rw [show (({ data := #[48] } : ByteArray) ++ s).data.toList = 48 :: s.data.toList from by simp, h1] at n1
                rw [noughtB_list, h2] at n2
                rw [noughtB_list] at n3
                rw [show (s ++ ({ data := #[101, 48] } : ByteArray)).data.toList = s.data.toList ++ [101, 48] from by simp, h3] at n3
                have N1 := Lib.hid n1
                have N2 := Lib.hid n2
                have N3 := Lib.hid n3
                clear n1 n2 n3 h1 h2 h3 hzs hA2
                generalize noughtB s.data.toList j = z at *
                go_wp2_with fail
                refine (N1.out _ HT3.out).mono ?_
                rintro e w4 ⟨rfl, hb4⟩
                have HB4 := Lib.hid (Below.then HB3.out hb4)
                have HT4 := Lib.hid (HT3.out.below hb4)
                clear hb4
                go_wp2_with fail
                refine (N2.out _ HT4.out).mono ?_
                rintro e w5 ⟨rfl, hb5⟩
                have HB5 := Lib.hid (Below.then HB4.out hb5)
                have HT5 := Lib.hid (HT4.out.below hb5)
                clear hb5
                go_wp2_with fail
                refine (N3.out _ HT5.out).mono ?_
                rintro e w6 ⟨rfl, hb6⟩
                have HB6 := Lib.hid (Below.then HB5.out hb6)
                clear hb6
                go_wp2_with fail
                go_ret
                exact ⟨rfl, HB6.out⟩
    · have t2 : ((n : Int) != s.size) = true := by simp; omega
      clear h0 hn
      go_enter Tryd.func10, Tryd.ntmps10
      go_wp2_with fail
      refine (awake_any _ HT.out).mono ?_
      rintro e w1 ⟨rfl, hb1⟩
      have HB1 := Lib.hid hb1
      have HT1 := Lib.hid (HT.out.below hb1)
      clear hb1
      go_wp2_with fail
      refine (C1.out _).mono ?_
      rintro e w2 ⟨rfl, hb2⟩
      have HB2 := Lib.hid (Below.then HB1.out hb2)
      clear hb2
      go_wp2_with fail
      go_ret
      exact ⟨rfl, HB2.out⟩
set_option maxRecDepth 20000 in
set_option maxHeartbeats 4000000 in
theorem noughts_long (s0 : ByteArray) (more : Int) (w : World) (hlong : 400 < s0.size) (hT : Pow w) :
    Calls Tryd.prog 10 #[.string s0, .int .i64 more] w fun e w' => e = .returned (.bool true) ∧ Below w.heap.size w w' := by
  have hs : (s0.extract 0 400).size ≤ 400 := by rw [cut400 s0 hlong]; exact Nat.le_refl _
  have t9 : (400 : Int) ≤ s0.size := by omega
  obtain ⟨s, hgen⟩ : ∃ s, s0.extract 0 400 = s := ⟨_, rfl⟩
  rw [hgen] at hs
  have c1 := fun w => scanAt_any s 0 w (by omega)
  have c2 := fun w hT => same_any s s w (by omega) (by omega) hT
  generalize hR : scanI s.data.toList 0 = R at *
  obtain ⟨k, n⟩ := R
  generalize hQ : sameW (worthX s.data.toList) (worthX s.data.toList) = Q at *
  unfold pairV at c1
  simp only at c1
  have HT := Lib.hid hT; have C1 := Lib.hid c1; have C2 := Lib.hid c2
  have t0 : decide ((400 : Int) < s0.size) = true := by simp; omega
  have HR := Lib.hid hR
  clear hT c1 c2 hR hQ
  by_cases h0 : k = 0
  · have t1 : (k == 0) = true := by simpa using h0
    clear h0
    go_enter Tryd.func10, Tryd.ntmps10
    go_wp2_with fail
    refine (awake_any _ HT.out).mono ?_
    rintro e w1 ⟨rfl, hb1⟩
    have HB1 := Lib.hid hb1
    have HT1 := Lib.hid (HT.out.below hb1)
    clear hb1
    go_wp2_with fail
    refine (C1.out _).mono ?_
    rintro e w2 ⟨rfl, hb2⟩
    have HB2 := Lib.hid (Below.then HB1.out hb2)
    clear hb2
    go_wp2_with fail
    go_ret
    exact ⟨rfl, HB2.out⟩
  · have t1 : (k == 0) = false := by simpa using h0
    by_cases hn : n = s.size
    · have t2 : ((n : Int) != s.size) = false := by simp; omega
      have HN := Lib.hid hn
      have H0 := Lib.hid h0
      clear hn h0
      cases Q with
      | false =>
        go_enter Tryd.func10, Tryd.ntmps10
        go_wp2_with fail
        refine (awake_any _ HT.out).mono ?_
        rintro e w1 ⟨rfl, hb1⟩
        have HB1 := Lib.hid hb1
        have HT1 := Lib.hid (HT.out.below hb1)
        clear hb1
        go_wp2_with fail
        refine (C1.out _).mono ?_
        rintro e w2 ⟨rfl, hb2⟩
        have HB2 := Lib.hid (Below.then HB1.out hb2)
        have HT2 := Lib.hid (HT1.out.below hb2)
        clear hb2
        go_wp2_with fail
        refine (C2.out _ HT2.out).mono ?_
        rintro e w3 ⟨rfl, hb3⟩
        have HB3 := Lib.hid (Below.then HB2.out hb3)
        clear hb3
        go_wp2_with fail
        go_ret
        exact ⟨rfl, HB3.out⟩
      | true =>
        go_enter Tryd.func10, Tryd.ntmps10
        go_wp2_with fail
        refine (awake_any _ HT.out).mono ?_
        rintro e w1 ⟨rfl, hb1⟩
        have HB1 := Lib.hid hb1
        have HT1 := Lib.hid (HT.out.below hb1)
        clear hb1
        go_wp2_with fail
        refine (C1.out _).mono ?_
        rintro e w2 ⟨rfl, hb2⟩
        have HB2 := Lib.hid (Below.then HB1.out hb2)
        have HT2 := Lib.hid (HT1.out.below hb2)
        clear hb2
        go_wp2_with fail
        refine (C2.out _ HT2.out).mono ?_
        rintro e w3 ⟨rfl, hb3⟩
        have HB3 := Lib.hid (Below.then HB2.out hb3)
        have HT3 := Lib.hid (HT2.out.below hb3)
        clear hb3
        go_wp2_with fail
        go_loop [8] (fun iv => ∃ i : Nat, iv = .int .i64 i ∧ i ≤ s.size ∧ Hid (∀ b ∈ s.data.toList.take i, 48 ≤ b.toNat ∧ b.toNat ≤ 57)) (fun iv => s.size - (intOf iv).toNat)
        case atStart => exact ⟨0, rfl, Nat.zero_le _, Lib.hid (by simp)⟩
        case round =>
          obtain ⟨i, rfl, hi, hA⟩ := hrel
          by_cases hin : i < s.size
          · have hg : s.data.toList[i]'(by rw [← Lib.size_eq]; exact hin) = s[i] := rfl
            have ht := List.take_succ_eq_append_getElem (show i < s.data.toList.length by rw [← Lib.size_eq]; exact hin)
            rw [hg] at ht
            by_cases h1 : s[i].toNat < 48
            · have t3 : decide ((s[i].toNat : Int) < 48) = true := by simp; omega
              clear hg ht
              go_wp2_with fail
              go_ret
              exact ⟨rfl, HB3.out⟩
            · have t3 : decide ((s[i].toNat : Int) < 48) = false := by simp; omega
              by_cases h2 : 57 < s[i].toNat
              · have t4 : decide ((57 : Int) < (s[i].toNat : Int)) = true := by simp; omega
                clear hg ht
                go_wp2_with fail
                go_ret
                exact ⟨rfl, HB3.out⟩
              · have t4 : decide ((57 : Int) < (s[i].toNat : Int)) = false := by simp; omega
                have hA2 : Hid (∀ b ∈ s.data.toList.take (i + 1), 48 ≤ b.toNat ∧ b.toNat ≤ 57) := Lib.hid (fun b hb => by
                  rw [ht, List.mem_append, List.mem_singleton] at hb
                  rcases hb with hb | rfl
                  · exact hA.out b hb
                  · omega)
                clear hg ht
                go_wp2_with fail
                go_round
                case rel => exact ⟨i + 1, by go_num, by omega, hA2⟩
                case measure => simp [intOf]; omega
          · have hA2 : Hid (allDig s.data.toList) := Lib.hid (fun b hb => hA.out b (by rw [List.take_of_length_le (by rw [← Lib.size_eq]; omega)]; exact hb))
            have t5 : decide (i < s.size) = false := by simp; omega
            clear hA
            go_wp2_with fail
            have hne : s.data.toList ≠ [] := by
              intro e
              have h := HR.out
              rw [e] at h
              unfold scanI at h
              rw [if_neg (by simp)] at h
              injection h with h _
              exact H0.out h.symm
            obtain ⟨m, hm, hm31⟩ := and31 more
            have HNE := Lib.hid hne
            clear hne
            go_loop [9, 10] (fun tv jv => NoughtAt s.data.toList m tv jv) (fun _ jv => 40 - (intOf jv).toNat)
            case atStart => exact ⟨0, rfl, by omega, by rw [noughtB_zero]⟩
            case round =>
              obtain ⟨j, rfl, hj, rfl⟩ := hrel
              by_cases hjm : j ≤ m
              · have t6 : decide (j ≤ m) = true := by simpa using hjm
                have HE := Lib.hid (noughtB_succ s.data.toList j)
                have hzs : (noughtB s.data.toList j).size ≤ 1000 := by rw [noughtB_size, ← Lib.size_eq]; omega
                clear hA2
                generalize noughtB s.data.toList j = z at *
                go_wp2_with fail
                go_round
                case rel => exact ⟨j + 1, by go_num, by omega, by rw [HE.out]⟩
                case measure => simp [intOf]; omega
              · have t6 : decide (j ≤ m) = false := by simpa using hjm
                obtain ⟨h1, h2, h3⟩ := noughts_plain s.data.toList j hA2.out HNE.out (by rw [← Lib.size_eq]; exact hs) (by omega) (by omega)
                have hzs : (noughtB s.data.toList j).size ≤ 1000 := by rw [noughtB_size, ← Lib.size_eq]; omega
                have n1 := fun w hT => same_any s ({ data := #[48] } ++ s) w (by omega) (by rw [ByteArray.size_append]; show 1 + s.size ≤ _; omega) hT
                have n2 := fun w hT => same_any s (noughtB s.data.toList j) w (by omega) (by omega) hT
                have n3 := fun w hT => same_any (noughtB s.data.toList j) (s ++ { data := #[101, 48] }) w (by omega) (by rw [ByteArray.size_append]; show s.size + 2 ≤ _; omega) hT
                rw [show (({ data := #[48] } : ByteArray) ++ s).data.toList = 48 :: s.data.toList from by simp, h1] at n1
                rw [noughtB_list, h2] at n2
                rw [noughtB_list] at n3
                rw [show (s ++ ({ data := #[101, 48] } : ByteArray)).data.toList = s.data.toList ++ [101, 48] from by simp, h3] at n3
                have N1 := Lib.hid n1
                have N2 := Lib.hid n2
                have N3 := Lib.hid n3
                clear n1 n2 n3 h1 h2 h3 hzs hA2
                generalize noughtB s.data.toList j = z at *
                go_wp2_with fail
                refine (N1.out _ HT3.out).mono ?_
                rintro e w4 ⟨rfl, hb4⟩
                have HB4 := Lib.hid (Below.then HB3.out hb4)
                have HT4 := Lib.hid (HT3.out.below hb4)
                clear hb4
                go_wp2_with fail
                refine (N2.out _ HT4.out).mono ?_
                rintro e w5 ⟨rfl, hb5⟩
                have HB5 := Lib.hid (Below.then HB4.out hb5)
                have HT5 := Lib.hid (HT4.out.below hb5)
                clear hb5
                go_wp2_with fail
                refine (N3.out _ HT5.out).mono ?_
                rintro e w6 ⟨rfl, hb6⟩
                have HB6 := Lib.hid (Below.then HB5.out hb6)
                clear hb6
                go_wp2_with fail
                go_ret
                exact ⟨rfl, HB6.out⟩
    · have t2 : ((n : Int) != s.size) = true := by simp; omega
      clear h0 hn
      go_enter Tryd.func10, Tryd.ntmps10
      go_wp2_with fail
      refine (awake_any _ HT.out).mono ?_
      rintro e w1 ⟨rfl, hb1⟩
      have HB1 := Lib.hid hb1
      have HT1 := Lib.hid (HT.out.below hb1)
      clear hb1
      go_wp2_with fail
      refine (C1.out _).mono ?_
      rintro e w2 ⟨rfl, hb2⟩
      have HB2 := Lib.hid (Below.then HB1.out hb2)
      clear hb2
      go_wp2_with fail
      go_ret
      exact ⟨rfl, HB2.out⟩
theorem noughts_any (s : ByteArray) (more : Int) (w : World) (hT : Pow w) :
    Calls Tryd.prog 10 #[.string s, .int .i64 more] w fun e w' => e = .returned (.bool true) ∧ Below w.heap.size w w' := by
  by_cases h : 400 < s.size
  · exact noughts_long s more w h hT
  · exact noughts_small s more w (by omega) hT
end Go.Proofs.YthcogfceighbpaaDoor
