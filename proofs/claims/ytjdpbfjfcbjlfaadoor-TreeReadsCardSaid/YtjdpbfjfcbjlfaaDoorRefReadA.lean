/- DERIVED. The walks of the reference's number and half. -/
import Derived.Test.YtjdpbfjfcbjlfaaDoorReadC
import Derived.Test.YtjdpbfjfcbjlfaaDoorRefShowB
set_option linter.unusedSimpArgs false
set_option linter.unusedVariables false
namespace Go.Proofs.YtjdpbfjfcbjlfaaDoor
open Go.RowKit

/-- The reference's number. -/
def numV (l : List UInt8) : Int := if (numGo 3 l 0).2 = 0 ∨ (1 < (numGo 3 l 0).2 ∧ l.getD 0 0 = 48) then -1 else (numGo 3 l 0).1
theorem numV_ok (l : List UInt8) (x : Int) (h : numOk l x = true) : numV l = (numGo 3 l 0).1 ∧ ((numGo 3 l 0).1 : Int) < x := by
  unfold numV
  unfold numOk at h
  simp only [Bool.and_eq_true, Bool.or_eq_true, decide_eq_true_eq, bne_iff_ne, ne_eq] at h
  obtain ⟨h1, h2, h3⟩ := h
  refine ⟨if_neg ?_, h3⟩
  rintro (h | ⟨h, h4⟩)
  · omega
  · rcases h2 with h2 | h2
    · omega
    · exact h2 h4
theorem numV_no (l : List UInt8) (x : Int) (h : numOk l x = false) : numV l < 0 ∨ x ≤ numV l := by
  unfold numV
  split
  · exact .inl (by omega)
  · rename_i hn
    refine .inr ?_
    false_or_by_contra
    rename_i h3
    have : numOk l x = true := by
      unfold numOk
      simp only [Bool.and_eq_true, Bool.or_eq_true, decide_eq_true_eq, bne_iff_ne, ne_eq]
      refine ⟨by omega, ?_, by omega⟩
      by_cases h1 : (numGo 3 l 0).2 = 1
      · exact .inl h1
      · exact .inr (fun h48 => hn (.inr ⟨by omega, h48⟩))
    rw [this] at h; cases h
theorem drop_get (s : ByteArray) (i : Nat) (h : i < s.size) : (s.data.toList.drop i)[0]? = some s[i] := by
  rw [List.getElem?_drop, Nat.add_zero, List.getElem?_eq_getElem (by rw [← Lib.size_eq]; exact h)]; rfl
theorem byte_eq {c : UInt8} {n : Nat} (h : c.toNat = n) : ((c.toNat : Int) == n) = true := by rw [beq_iff_eq]; omega

theorem ret_two {a b c d : Int} (h1 : a = c) (h2 : b = d) : Ending.returned (.tuple #[.int .i64 a, .int .i64 b]) = .returned (.tuple #[.int .i64 c, .int .i64 d]) := by rw [h1, h2]
set_option maxHeartbeats 4000000 in
theorem refNumber_any (s : ByteArray) (i : Nat) (x : Int) (hx : x = i) (w : World) (hs : s.size ≤ 1152921504606846000) (hi : i ≤ s.size) :
    Calls Tryd.prog 43 #[.string s, .int .i64 x] w fun e w' => e = .returned (.tuple #[.int .i64 (numV (s.data.toList.drop i)), .int .i64 ((i + (numGo 3 (s.data.toList.drop i) 0).2 : Nat) : Int)]) ∧ w = w' := by
  subst hx
  have hnb := numGo_bd 3 (s.data.toList.drop i) 0
  obtain ⟨Z, hZ⟩ : ∃ Z, numV (s.data.toList.drop i) = Z := ⟨_, rfl⟩
  rw [hZ]
  unfold numV at hZ
  obtain ⟨V, hV⟩ : ∃ V, (numGo 3 (s.data.toList.drop i) 0).1 = V := ⟨_, rfl⟩
  obtain ⟨N, hN⟩ : ∃ N, (numGo 3 (s.data.toList.drop i) 0).2 = N := ⟨_, rfl⟩
  rw [hV, hN] at hZ
  rw [hN] at hnb ⊢
  have HZ := Lib.hid hZ
  have HV := Lib.hid hV
  have HN := Lib.hid hN
  clear hZ hV hN
  go_enter Tryd.func43, Tryd.ntmps43
  go_wp2_with fail
  go_loop [1, 7] (fun a v => ∃ j vv : Nat, a = .int .i64 j ∧ v = .int .i64 vv ∧ i ≤ j ∧ j ≤ i + 3 ∧ ((j = i ∧ vv = 0) ∨ (j = i + 1 ∧ vv ≤ 9) ∨ (j = i + 2 ∧ vv ≤ 99) ∨ (j = i + 3 ∧ vv ≤ 999)) ∧ j ≤ s.size ∧ (numGo (i + 3 - j) (s.data.toList.drop j) vv).1 = V ∧ j + (numGo (i + 3 - j) (s.data.toList.drop j) vv).2 = i + N) (fun a _ => s.size - (intOf a).toNat)
  case atStart => exact ⟨i, 0, rfl, rfl, by omega, by omega, by omega, by omega, by rw [show i + 3 - i = 3 from by omega]; exact HV.out, by rw [show i + 3 - i = 3 from by omega, HN.out]⟩
  case round =>
    obtain ⟨j, vv, rfl, rfl, hij, hk3, hvv, hjs, hV, hN⟩ := hrel
    have HV2 := Lib.hid hV
    have HN2 := Lib.hid hN
    clear hV hN
    by_cases hgo : ∃ h : j < s.size, j < i + 3 ∧ 48 ≤ s[j].toNat ∧ s[j].toNat ≤ 57
    · obtain ⟨hin, hk, h1, h2⟩ := hgo
      have HL0 := Lib.hid (drop_get s j hin)
      have t1 : decide ((j : Int) < s.size) = true := by simp; exact hin
      have t2 : decide ((j : Int) < (i : Int) + 3) = true := by simp; omega
      have t3 : decide ((48 : Int) ≤ (s[j].toNat : Int)) = true := by simp; omega
      have t4 : decide ((s[j].toNat : Int) ≤ (57 : Int)) = true := by simp; omega
      have HON := Lib.hid (numGo_on (i + 3 - (j + 1)) _ vv s[j] HL0.out (isDig_iff.2 ⟨h1, h2⟩))
      go_wp2_with fail
      go_round
      case rel =>
        refine ⟨j + 1, vv * 10 + (s[j].toNat - 48), by go_num, by congr 1; omega, by omega, by omega, by omega, by omega, ?_, ?_⟩
        · have h := HV2.out
          rw [show i + 3 - j = i + 3 - (j + 1) + 1 from by omega, HON.out, List.drop_drop] at h
          exact h
        · have h := HN2.out
          rw [show i + 3 - j = i + 3 - (j + 1) + 1 from by omega, HON.out, List.drop_drop] at h
          simp only at h
          omega
      case measure => simp [intOf]; omega
    · have hz : numGo (i + 3 - j) (s.data.toList.drop j) vv = (vv, 0) := by
        by_cases h3 : j = i + 3
        · subst h3; rw [show i + 3 - (i + 3) = 0 from by omega]; rfl
        · refine numGo_off _ _ _ (fun c hc => ?_)
          by_cases hin : j < s.size
          · rw [drop_get s j hin] at hc
            have hc := Option.some.inj hc
            subst hc
            cases hd : isDig s[j] with
            | false => rfl
            | true =>
              rw [isDig_iff] at hd
              exact absurd ⟨hin, by omega, hd⟩ hgo
          · rw [List.drop_eq_nil_of_le (by rw [← Lib.size_eq]; omega)] at hc; simp at hc
      have hV := HV2.out
      have hN := HN2.out
      rw [hz] at hV hN
      simp only [Nat.add_zero] at hV hN
      clear hz
      have tests : (s.size ≤ j ∧ decide ((j : Int) < s.size) = false) ∨ (j < s.size ∧ decide ((j : Int) < s.size) = true ∧ decide ((j : Int) < (i : Int) + 3) = false) ∨ (∃ h : j < s.size, decide ((j : Int) < s.size) = true ∧ decide ((j : Int) < (i : Int) + 3) = true ∧ decide ((48 : Int) ≤ (s[j].toNat : Int)) = false) ∨
          (∃ h : j < s.size, decide ((j : Int) < s.size) = true ∧ decide ((j : Int) < (i : Int) + 3) = true ∧ decide ((48 : Int) ≤ (s[j].toNat : Int)) = true ∧ decide ((s[j].toNat : Int) ≤ (57 : Int)) = false) := by
        by_cases hin : j < s.size
        · by_cases h3 : j < i + 3
          · by_cases h4 : 48 ≤ s[j].toNat
            · refine .inr (.inr (.inr ⟨hin, by simp; omega, by simp; omega, by simp; omega, ?_⟩))
              simp only [decide_eq_false_iff_not]
              intro h5
              exact hgo ⟨hin, h3, h4, by omega⟩
            · exact .inr (.inr (.inl ⟨hin, by simp; omega, by simp; omega, by simp; omega⟩))
          · exact .inr (.inl ⟨hin, by simp; omega, by simp; omega⟩)
        · exact .inl ⟨by omega, by simp; omega⟩
      have hz2 := HZ.out
      rw [← hV, show N = j - i from by omega] at hz2
      have HJ := Lib.hid hN
      clear hgo hV hN
      by_cases hji : j = i
      · have hz3 : Z = -1 := by rw [← hz2, if_pos (.inl (by omega))]
        have HZ3 := Lib.hid hz3
        have HN0 := Lib.hid (show N = 0 by have := HJ.out; omega)
        have u1 : ((j : Int) == i) = true := by simp; omega
        clear hz2 hz3 hji
        rcases tests with ⟨_, t1⟩ | ⟨hin, t1, t2⟩ | ⟨hin, t1, t2, t3⟩ | ⟨hin, t1, t2, t3, t4⟩
        all_goals
          go_wp2_with fail
          go_ret2
          refine ⟨?_, rfl⟩
          exact ret_two (by first | exact HZ3.out.symm | (have := HZ3.out; omega)) (by have := HJ.out; have := HN0.out; omega)
      · have u1 : ((j : Int) == i) = false := by simp; omega
        have hii : i < s.size := by omega
        have hg0 : (s.data.toList.drop i).getD 0 0 = s[i] := by rw [List.getD_eq_getElem?_getD, drop_get s i hii]; rfl
        rw [hg0] at hz2
        by_cases h48 : s[i] = 48
        · have u2 : ((s[i].toNat : Int) == 48) = true := by rw [h48]; rfl
          by_cases hj1 : i + 1 < j
          · have u3 : decide ((i : Int) + 1 < j) = true := by simp; omega
            have HZ3 := Lib.hid (show Z = -1 by rw [← hz2, if_pos (.inr ⟨by omega, h48⟩)])
            clear hz2 hg0 h48 hji
            rcases tests with ⟨_, t1⟩ | ⟨hin, t1, t2⟩ | ⟨hin, t1, t2, t3⟩ | ⟨hin, t1, t2, t3, t4⟩
            all_goals
              go_wp2_with fail
              go_ret2
              refine ⟨?_, rfl⟩
              exact ret_two (by first | exact HZ3.out.symm | (have := HZ3.out; omega)) (by have := HJ.out; omega)
          · have u3 : decide ((i : Int) + 1 < j) = false := by simp; omega
            have HZ3 := Lib.hid (show Z = vv by rw [← hz2, if_neg (by omega)])
            clear hz2 hg0 h48 hji
            rcases tests with ⟨_, t1⟩ | ⟨hin, t1, t2⟩ | ⟨hin, t1, t2, t3⟩ | ⟨hin, t1, t2, t3, t4⟩
            all_goals
              go_wp2_with fail
              go_ret2
              refine ⟨?_, rfl⟩
              exact ret_two (by first | exact HZ3.out.symm | (have := HZ3.out; omega)) (by have := HJ.out; omega)
        · have u2 : ((s[i].toNat : Int) == 48) = false := by rw [beq_eq_false_iff_ne]; intro e; exact h48 (UInt8.toNat_inj.1 (by simpa using Int.ofNat_inj.1 e))
          have HZ3 := Lib.hid (show Z = vv by rw [← hz2, if_neg (by rintro (h | ⟨_, h⟩); omega; exact h48 h)])
          clear hz2 hg0 h48 hji
          rcases tests with ⟨_, t1⟩ | ⟨hin, t1, t2⟩ | ⟨hin, t1, t2, t3⟩ | ⟨hin, t1, t2, t3, t4⟩
          all_goals
            go_wp2_with fail
            go_ret2
            refine ⟨?_, rfl⟩
            exact ret_two (by first | exact HZ3.out.symm | (have := HZ3.out; omega)) (by have := HJ.out; omega)

theorem hexI_a : ∀ n : Fin 256, (48 ≤ n.val → n.val ≤ 57 → hexI (UInt8.ofNat n.val) = (n.val : Int) - 48) ∧ (97 ≤ n.val → n.val ≤ 102 → hexI (UInt8.ofNat n.val) = (n.val : Int) - 87) ∧ (n.val < 48 ∨ (57 < n.val ∧ n.val < 97) ∨ 102 < n.val → hexI (UInt8.ofNat n.val) = -1) := by decide +kernel
set_option maxHeartbeats 1000000 in
theorem half_any (c : UInt8) (w : World) : Calls Tryd.prog 48 #[.int .u8 c.toNat] w fun e w' => e = .returned (.int .i64 (hexI c)) ∧ w = w' := by
  have hb := c.toNat_lt
  obtain ⟨h1, h2, h3⟩ := hexI_a ⟨c.toNat, hb⟩
  simp only [UInt8.ofNat_toNat] at h1 h2 h3
  by_cases a : 48 ≤ c.toNat ∧ c.toNat ≤ 57
  · have HE := Lib.hid (h1 a.1 a.2)
    have t1 : decide ((48 : Int) ≤ (c.toNat : Int)) = true := by simp; omega
    have t2 : decide ((c.toNat : Int) ≤ (57 : Int)) = true := by simp; omega
    clear h1 h2 h3
    go_enter Tryd.func48, Tryd.ntmps48
    go_wp2_with fail
    go_ret
    exact ⟨by rw [HE.out]; rfl, rfl⟩
  · by_cases b : 97 ≤ c.toNat ∧ c.toNat ≤ 102
    · have HE := Lib.hid (h2 b.1 b.2)
      have t1 : decide ((48 : Int) ≤ (c.toNat : Int)) = true := by simp; omega
      have t2 : decide ((c.toNat : Int) ≤ (57 : Int)) = false := by simp; omega
      have t3 : decide ((97 : Int) ≤ (c.toNat : Int)) = true := by simp; omega
      have t4 : decide ((c.toNat : Int) ≤ (102 : Int)) = true := by simp; omega
      clear h1 h2 h3 a
      go_enter Tryd.func48, Tryd.ntmps48
      go_wp2_with fail
      go_ret
      exact ⟨by rw [HE.out]; rfl, rfl⟩
    · have HE := Lib.hid (h3 (by omega))
      have hq : (decide ((48 : Int) ≤ (c.toNat : Int)) = false ∧ decide ((97 : Int) ≤ (c.toNat : Int)) = false) ∨ (decide ((48 : Int) ≤ (c.toNat : Int)) = true ∧ decide ((c.toNat : Int) ≤ (57 : Int)) = false ∧ decide ((97 : Int) ≤ (c.toNat : Int)) = false) ∨
          (decide ((48 : Int) ≤ (c.toNat : Int)) = true ∧ decide ((c.toNat : Int) ≤ (57 : Int)) = false ∧ decide ((97 : Int) ≤ (c.toNat : Int)) = true ∧ decide ((c.toNat : Int) ≤ (102 : Int)) = false) := by
        simp only [decide_eq_true_eq, decide_eq_false_iff_not]; omega
      clear h1 h2 h3 a b
      go_enter Tryd.func48, Tryd.ntmps48
      rcases hq with ⟨t1, t3⟩ | ⟨t1, t2, t3⟩ | ⟨t1, t2, t3, t4⟩
      all_goals
        go_wp2_with fail
        go_ret
        exact ⟨by rw [HE.out]; rfl, rfl⟩
end Go.Proofs.YtjdpbfjfcbjlfaaDoor
