/- DERIVED. The walk of the document's Float. -/
import Derived.Test.YthcogfceighbpaaDoorNumU
import Derived.Test.YthcogfceighbpaaDoorRefNumV
set_option linter.unusedSimpArgs false
set_option linter.unusedVariables false
namespace Go.Proofs.YthcogfceighbpaaDoor
open Go.RowKit

theorem extract_mk (l : List UInt8) (n : Nat) : (⟨l.toArray⟩ : ByteArray).extract 0 n = ⟨(l.take n).toArray⟩ := by
  apply ByteArray.ext
  apply Array.toList_inj.1
  simp [Lib.extract_eq]
theorem mk_size (l : List UInt8) : (⟨l.toArray⟩ : ByteArray).size = l.length := by simp [ByteArray.size]
theorem bareL_len (l : List UInt8) (h : l ≠ []) : (bareL l).length ≤ l.length := by
  rw [bare_trim l h]
  split
  · cases l with
    | nil => exact absurd rfl h
    | cons a t => simp
  · exact trimL_le l 48
theorem refShort_at (l : List UInt8) (x : Int) (w : World) (h : l ≠ []) (hs : l.length ≤ 1000000) (hx : -4611686018427387904 ≤ x) (hx2 : x ≤ 4611686018427387904) :
    Calls Tryd.prog 37 #[.string ⟨(bareL l).toArray⟩, .int .i64 x] w fun e w' => e = .returned (shortV (shortX l x)) ∧ w = w' := by
  have hb := bareL_len l h
  refine (refShort_any ⟨(bareL l).toArray⟩ x w (by rw [mk_size]; omega) hx hx2).mono ?_
  rintro e w' ⟨he, hw⟩
  refine ⟨?_, hw⟩
  rw [he, ← short_doc l h x, extract_mk, mk_size]
  show Ending.returned (if bareL l = [48] then _ else _) = _
  by_cases h1 : bareL l = [48]
  · rw [if_pos h1, if_pos h1, h1]; rfl
  · rw [if_neg h1, if_neg h1]; rfl
theorem Parts.all_ne {l : List UInt8} {d g P : Nat} (p : Parts l d g P) : allX l d g ≠ [] ∧ (allX l d g).length ≤ l.length + l.length := by
  have h0 := p.d0
  have h1 := p.dl
  refine ⟨fun e => ?_, ?_⟩
  · have := congrArg List.length e
    unfold allX at this
    rw [List.length_append, List.length_take] at this
    simp only [List.length_nil] at this
    omega
  · unfold allX
    rw [List.length_append, List.length_take, List.length_take, List.length_drop]; omega
set_option maxRecDepth 40000 in
set_option maxHeartbeats 8000000 in
theorem refFloat_go (s : ByteArray) (w : World) (hI : isK 12 s.data.toList = true) (hl : s.size ≤ 1000) (d g P : Nat) (p : Parts s.data.toList d g P) :
    Calls Tryd.prog 19 #[.string s] w fun e w' => e = .returned (floatV (floatX s.data.toList)) ∧ w = w' := by
  have hls := Lib.size_eq s
  have I1 := fun w => whole_any s 12 w (by decide) (by omega)
  rw [hI] at I1
  have hd0 := p.d0
  have hdl := p.dl
  have hpl := p.pl
  rw [← hls] at hdl hpl
  have hbt := fun w => refBare_any ⟨(allX s.data.toList d g).toArray⟩ w (by rw [mk_size]; have := p.all_ne.2; omega)
  have hst := fun x w h1 h2 => refShort_at (allX s.data.toList d g) x w p.all_ne.1 (by have := p.all_ne.2; omega) h1 h2
  rw [show (⟨(allX s.data.toList d g).toArray⟩ : ByteArray).data.toList = allX s.data.toList d g from rfl] at hbt
  have hD0 : ∀ w, Calls Tryd.prog 23 #[.string s, .int .i64 0, .int .i64 10] w fun e w' => e = .returned (.int .i64 (d : Nat)) ∧ w = w' := fun w => by
    refine (digitsI s 0 0 10 w (by omega) rfl (by omega)).mono ?_
    rintro e w' ⟨he, hw⟩
    exact ⟨by rw [he, List.drop_zero, p.hd]; exact ret_int (by omega), hw⟩
  have hD1 : (s.data.toList[d]? = some 46) → ∀ w, Calls Tryd.prog 23 #[.string s, .int .i64 ((d : Int) + 1), .int .i64 10] w fun e w' => e = .returned (.int .i64 (P : Nat)) ∧ w = w' := fun h46 w => by
    refine (digitsI s ((d : Int) + 1) (d + 1) 10 w (by omega) (by omega) (by omega)).mono ?_
    rintro e w' ⟨he, hw⟩
    refine ⟨?_, hw⟩
    rw [he]
    rcases p.pt with ⟨_, h1, _, h2⟩ | ⟨h1, _⟩
    · rw [h1]; exact ret_int (by omega)
    · exact absurd h46 h1
  obtain ⟨y46, n46⟩ := byteK s[d] 46 46 rfl (by decide)
  have hgp : g ≤ P := by rcases p.pt with ⟨_, _, _, h⟩ | ⟨_, h, _⟩ <;> omega
  have hz : (s.data.toList[d]? = some 46 ∧ P = d + 1 + g ∧ s.extract 0 d ++ s.extract (d + 1) P = ⟨(allX s.data.toList d g).toArray⟩) ∨ (s.data.toList[d]? ≠ some 46 ∧ g = 0 ∧ P = d ∧ s.extract 0 d = ⟨(allX s.data.toList d g).toArray⟩) := by
    rcases p.pt with ⟨h1, h2, h3, h4⟩ | ⟨h1, h2, h3⟩
    · refine .inl ⟨h1, h4, ?_⟩
      apply ByteArray.ext
      apply Array.toList_inj.1
      unfold allX
      simp only [ByteArray.data_append, Array.toList_append, Lib.extract_eq]
      rw [show P - (d + 1) = g from by omega]
      simp
    · refine .inr ⟨h1, h2, h3, ?_⟩
      apply ByteArray.ext
      apply Array.toList_inj.1
      unfold allX
      subst h2
      simp [Lib.extract_eq]
  have HZ := Lib.hid hz
  have hF := p.float hI (by rw [← hls]; exact hl)
  have hex := p.ex
  rw [← hls] at hex
  generalize (⟨(allX s.data.toList d g).toArray⟩ : ByteArray) = z at *
  generalize (⟨(bareL (allX s.data.toList d g)).toArray⟩ : ByteArray) = y at *
  have HF := Lib.hid hF
  have HX := Lib.hid hex
  have I1 := Lib.hid I1
  have D0 := Lib.hid hD0
  have D1 := Lib.hid hD1
  have BT := Lib.hid hbt
  have ST := Lib.hid hst
  have t0 : decide ((1000 : Int) < s.size) = false := by simp; omega
  have HQ := Lib.hid hls
  clear hI hF hex hD0 hD1 hbt hst hz p hls
  go_enter Tryd.func19, Tryd.ntmps19
  go_upto_if 28 with (first | (go_at_call 27; refine (I1.out _).mono ?_; rintro e w' ⟨rfl, rfl⟩) | (go_at_call 23; refine (D0.out _).mono ?_; rintro e w' ⟨rfl, rfl⟩))
  go_cut [5, 6, 7] (fun ev av xv wx => ev = .int .i64 (P : Nat) ∧ av = .string z ∧ xv = .int .i64 (-(g : Int)) ∧ wx = w)
  case first =>
    rcases HZ.out with ⟨h1, h2, h3⟩ | ⟨h1, h2, h3, h4⟩
    · have q := (y46 (by rw [some_at hdl] at h1; exact h1)).1
      have D1 := Lib.hid (D1.out h1)
      have H3 := Lib.hid h3
      have b1 : (d : Int) + 1 ≤ P := by omega
      have b2 : (P : Int) ≤ s.size := by omega
      have HP := Lib.hid h2
      clear h1 h2 h3 y46 n46
      go_wp2_with (go_at_call 23; refine (D1.out _).mono ?_; rintro e w' ⟨rfl, rfl⟩)
      go_meet
      exact ⟨rfl, by rw [← H3.out], by have := HP.out; exact congrArg (Value.int .i64) (by omega), rfl⟩
    · have q := (n46 (by simp only [ne_eq, some_at hdl] at h1; exact h1)).1
      have H3 := Lib.hid h3
      have H4 := Lib.hid h4
      have H2 := Lib.hid h2
      clear h1 h2 h3 h4 y46 n46
      go_wp2_with fail
      go_meet
      exact ⟨by rw [H3.out], by rw [H4.out], by rw [H2.out]; rfl, rfl⟩
  case rest =>
    obtain ⟨rfl, rfl, rfl, rfl⟩ := hcut
    clear y46 n46
    rcases HX.out with hP | ⟨he, q, hq, hs, hdg⟩
    · have HE := Lib.hid (show expV s.data.toList P = some 0 from by unfold expV; rw [if_pos (by rw [hP]; exact HQ.out)])
      have t1 : decide (P < s.size) = false := by simp; omega
      clear hP
      go_wp2_with fail
      refine (BT.out _).mono ?_
      rintro e w2 ⟨rfl, rfl⟩
      go_wp2_with fail
      refine (ST.out _ _ (by omega) (by omega)).mono ?_
      rintro e w3 ⟨rfl, rfl⟩
      unfold shortV
      go_wp2_with fail
      go_ret3
      refine ⟨?_, rfl⟩
      have h := HF.out
      rw [HE.out] at h
      simp only [Int.zero_sub] at h
      rw [h]; rfl
    · have t1 : decide (P < s.size) = true := by simp; omega
      have hk : P + 1 < s.size := by
        rcases hs with ⟨h, _⟩ | ⟨h, _⟩ <;> omega
      have hsg := Parts.sign (by rw [← HQ.out]; exact hq) hs
      simp only [some_at hk, ne_eq] at hsg
      obtain ⟨y45, n45⟩ := byteK s[P + 1] 45 45 rfl (by decide)
      obtain ⟨y43, n43⟩ := byteK s[P + 1] 43 43 rfl (by decide)
      have hdd := digs_at s.data.toList (P + q) (s.size - (P + q)) (by rw [hdg, HQ.out]; exact Nat.le_refl _)
      obtain ⟨V, hV⟩ : ∃ V, expV s.data.toList P = V := ⟨_, rfl⟩
      rw [hV] at hsg
      have h := HF.out
      rw [hV] at h
      have HF2 := Lib.hid h
      have HDD := Lib.hid hdd
      have k1 : (P : Int) + 1 < s.size := by omega
      have k2 : (0 : Int) ≤ (P : Int) + 1 := by omega
      have k3 : ((P : Int) + 1).toNat = P + 1 := by omega
      clear he hs hdg hdd hV h
      rcases hsg with ⟨rfl, a, hE⟩ | ⟨rfl, a, hE⟩ | ⟨rfl, a, a2, hE⟩
      · have q1 := (y43 a).1
        have q2 := (n45 (by rw [a]; decide)).1
        have HE := Lib.hid hE.symm
        clear y43 n43 y45 n45 a hE
        go_wp2_with fail
        go_loop [10, 11] (fun kv vv => ∃ (k : Nat) (v : Int), kv = .int .i64 k ∧ vv = .int .i64 v ∧ P + 2 ≤ k ∧ k ≤ s.size ∧ 0 ≤ v ∧ v ≤ 1000000000 ∧ Hid (powL (s.data.toList.drop k) v 1 = V)) (fun kv _ => s.size - (intOf kv).toNat)
        case atStart => exact ⟨P + 2, 0, by first | rfl | go_num | exact congrArg (Value.int .i64) (by omega), rfl, Nat.le_refl _, by omega, by omega, by omega, HE⟩
        case round =>
          obtain ⟨k, v, rfl, rfl, hk0, hk1, hv0, hv1, hK⟩ := hrel
          by_cases hks : k < s.size
          · obtain ⟨c, hc, hc0, hc1⟩ := HDD.out k hk0 (by omega)
            have hd := drop_at s k hks
            have hcs : s[k] = c := by rw [at_list s k hks] at hc; injection hc
            rw [hcs] at hd
            have hK2 := hK.out
            rw [hd, powL_dig c _ v 1 ⟨hc0, hc1⟩] at hK2
            have hwr := wrap64_u8 s[k]
            have c0 : (48 : Int) ≤ (s[k].toNat : Int) := by rw [hcs]; omega
            have c1 : (s[k].toNat : Int) ≤ 57 := by rw [hcs]; omega
            rw [← hcs] at hK2
            have t5 : decide (k < s.size) = true := by simp; omega
            clear hc hd hcs hc0 hc1
            by_cases ho : 1000000000 < v * 10 + (s[k].toNat : Int) - 48
            · rw [if_pos ho] at hK2
              have h := HF2.out
              rw [← hK2] at h
              have HF3 := Lib.hid h
              clear h hK2 hK
              go_wp2_with fail
              go_ret3
              exact ⟨by rw [HF3.out]; rfl, rfl⟩
            · rw [if_neg ho] at hK2
              have HK2 := Lib.hid hK2
              have ho2 : v * 10 + (s[k].toNat : Int) - 48 ≤ 1000000000 := by omega
              have ho3 : 0 ≤ v * 10 + (s[k].toNat : Int) - 48 := by omega
              clear hK2 hK
              go_wp2_with fail
              go_round
              case rel => exact ⟨k + 1, v * 10 + (s[k].toNat : Int) - 48, by go_num, by first | rfl | go_num, by omega, by omega, by omega, by omega, HK2⟩
              case measure => simp [intOf]; omega
          · have hV2 : V = some (1 * v) := by
              have h := hK.out
              rw [List.drop_eq_nil_of_le (by rw [← HQ.out]; omega), powL] at h
              exact h.symm
            have h := HF2.out
            rw [hV2] at h
            simp only at h
            have HF3 := Lib.hid h
            have t5 : decide (k < s.size) = false := by simp; omega
            clear h hK hV2
            go_wp2_with fail
            refine (BT.out _).mono ?_
            rintro e w2 ⟨rfl, rfl⟩
            go_wp2_with fail
            refine (ST.out _ _ (by omega) (by omega)).mono ?_
            rintro e w3 ⟨rfl, rfl⟩
            unfold shortV
            go_wp2_with fail
            go_ret3
            refine ⟨?_, rfl⟩
            have h := HF3.out
            rw [show 1 * v - (g : Int) = -(g : Int) + v from by omega] at h
            rw [h]
            rfl
      · have q1 := (y45 a).1
        have HE := Lib.hid hE.symm
        clear y43 n43 y45 n45 a hE
        go_wp2_with fail
        go_loop [10, 11] (fun kv vv => ∃ (k : Nat) (v : Int), kv = .int .i64 k ∧ vv = .int .i64 v ∧ P + 2 ≤ k ∧ k ≤ s.size ∧ 0 ≤ v ∧ v ≤ 1000000000 ∧ Hid (powL (s.data.toList.drop k) v (-1) = V)) (fun kv _ => s.size - (intOf kv).toNat)
        case atStart => exact ⟨P + 2, 0, by first | rfl | go_num | exact congrArg (Value.int .i64) (by omega), rfl, Nat.le_refl _, by omega, by omega, by omega, HE⟩
        case round =>
          obtain ⟨k, v, rfl, rfl, hk0, hk1, hv0, hv1, hK⟩ := hrel
          by_cases hks : k < s.size
          · obtain ⟨c, hc, hc0, hc1⟩ := HDD.out k hk0 (by omega)
            have hd := drop_at s k hks
            have hcs : s[k] = c := by rw [at_list s k hks] at hc; injection hc
            rw [hcs] at hd
            have hK2 := hK.out
            rw [hd, powL_dig c _ v (-1) ⟨hc0, hc1⟩] at hK2
            have hwr := wrap64_u8 s[k]
            have c0 : (48 : Int) ≤ (s[k].toNat : Int) := by rw [hcs]; omega
            have c1 : (s[k].toNat : Int) ≤ 57 := by rw [hcs]; omega
            rw [← hcs] at hK2
            have t5 : decide (k < s.size) = true := by simp; omega
            clear hc hd hcs hc0 hc1
            by_cases ho : 1000000000 < v * 10 + (s[k].toNat : Int) - 48
            · rw [if_pos ho] at hK2
              have h := HF2.out
              rw [← hK2] at h
              have HF3 := Lib.hid h
              clear h hK2 hK
              go_wp2_with fail
              go_ret3
              exact ⟨by rw [HF3.out]; rfl, rfl⟩
            · rw [if_neg ho] at hK2
              have HK2 := Lib.hid hK2
              have ho2 : v * 10 + (s[k].toNat : Int) - 48 ≤ 1000000000 := by omega
              have ho3 : 0 ≤ v * 10 + (s[k].toNat : Int) - 48 := by omega
              clear hK2 hK
              go_wp2_with fail
              go_round
              case rel => exact ⟨k + 1, v * 10 + (s[k].toNat : Int) - 48, by go_num, by first | rfl | go_num, by omega, by omega, by omega, by omega, HK2⟩
              case measure => simp [intOf]; omega
          · have hV2 : V = some ((-1) * v) := by
              have h := hK.out
              rw [List.drop_eq_nil_of_le (by rw [← HQ.out]; omega), powL] at h
              exact h.symm
            have h := HF2.out
            rw [hV2] at h
            simp only at h
            have HF3 := Lib.hid h
            have t5 : decide (k < s.size) = false := by simp; omega
            clear h hK hV2
            go_wp2_with fail
            refine (BT.out _).mono ?_
            rintro e w2 ⟨rfl, rfl⟩
            go_wp2_with fail
            refine (ST.out _ _ (by omega) (by omega)).mono ?_
            rintro e w3 ⟨rfl, rfl⟩
            unfold shortV
            go_wp2_with fail
            go_ret3
            refine ⟨?_, rfl⟩
            have h := HF3.out
            rw [show (-1) * v - (g : Int) = -(g : Int) + -v from by omega] at h
            rw [h]
            rfl
      · have q1 := (n43 a).1
        have q2 := (n45 a2).1
        have HE := Lib.hid hE.symm
        clear y43 n43 y45 n45 a a2 hE
        go_wp2_with fail
        go_loop [10, 11] (fun kv vv => ∃ (k : Nat) (v : Int), kv = .int .i64 k ∧ vv = .int .i64 v ∧ P + 1 ≤ k ∧ k ≤ s.size ∧ 0 ≤ v ∧ v ≤ 1000000000 ∧ Hid (powL (s.data.toList.drop k) v 1 = V)) (fun kv _ => s.size - (intOf kv).toNat)
        case atStart => exact ⟨P + 1, 0, by first | rfl | go_num | exact congrArg (Value.int .i64) (by omega), rfl, Nat.le_refl _, by omega, by omega, by omega, HE⟩
        case round =>
          obtain ⟨k, v, rfl, rfl, hk0, hk1, hv0, hv1, hK⟩ := hrel
          by_cases hks : k < s.size
          · obtain ⟨c, hc, hc0, hc1⟩ := HDD.out k hk0 (by omega)
            have hd := drop_at s k hks
            have hcs : s[k] = c := by rw [at_list s k hks] at hc; injection hc
            rw [hcs] at hd
            have hK2 := hK.out
            rw [hd, powL_dig c _ v 1 ⟨hc0, hc1⟩] at hK2
            have hwr := wrap64_u8 s[k]
            have c0 : (48 : Int) ≤ (s[k].toNat : Int) := by rw [hcs]; omega
            have c1 : (s[k].toNat : Int) ≤ 57 := by rw [hcs]; omega
            rw [← hcs] at hK2
            have t5 : decide (k < s.size) = true := by simp; omega
            clear hc hd hcs hc0 hc1
            by_cases ho : 1000000000 < v * 10 + (s[k].toNat : Int) - 48
            · rw [if_pos ho] at hK2
              have h := HF2.out
              rw [← hK2] at h
              have HF3 := Lib.hid h
              clear h hK2 hK
              go_wp2_with fail
              go_ret3
              exact ⟨by rw [HF3.out]; rfl, rfl⟩
            · rw [if_neg ho] at hK2
              have HK2 := Lib.hid hK2
              have ho2 : v * 10 + (s[k].toNat : Int) - 48 ≤ 1000000000 := by omega
              have ho3 : 0 ≤ v * 10 + (s[k].toNat : Int) - 48 := by omega
              clear hK2 hK
              go_wp2_with fail
              go_round
              case rel => exact ⟨k + 1, v * 10 + (s[k].toNat : Int) - 48, by go_num, by first | rfl | go_num, by omega, by omega, by omega, by omega, HK2⟩
              case measure => simp [intOf]; omega
          · have hV2 : V = some (1 * v) := by
              have h := hK.out
              rw [List.drop_eq_nil_of_le (by rw [← HQ.out]; omega), powL] at h
              exact h.symm
            have h := HF2.out
            rw [hV2] at h
            simp only at h
            have HF3 := Lib.hid h
            have t5 : decide (k < s.size) = false := by simp; omega
            clear h hK hV2
            go_wp2_with fail
            refine (BT.out _).mono ?_
            rintro e w2 ⟨rfl, rfl⟩
            go_wp2_with fail
            refine (ST.out _ _ (by omega) (by omega)).mono ?_
            rintro e w3 ⟨rfl, rfl⟩
            unfold shortV
            go_wp2_with fail
            go_ret3
            refine ⟨?_, rfl⟩
            have h := HF3.out
            rw [show 1 * v - (g : Int) = -(g : Int) + v from by omega] at h
            rw [h]
            rfl
set_option maxHeartbeats 2000000 in
theorem refFloat_any (s : ByteArray) (w : World) (hs : s.size ≤ 1152921504606846976) :
    Calls Tryd.prog 19 #[.string s] w fun e w' => e = .returned (floatV (floatX s.data.toList)) ∧ w = w' := by
  have I1 := fun w => whole_any s 12 w (by decide) hs
  by_cases hI : isK 12 s.data.toList = true
  · by_cases hlong : 1000 < s.size
    · have HR := Lib.hid (show floatX s.data.toList = ([], 0, 3) from by unfold floatX; rw [if_pos hI, if_pos (by rw [← Lib.size_eq]; exact hlong)])
      have t0 : decide ((1000 : Int) < s.size) = true := by simp; omega
      rw [hI] at I1
      have I1 := Lib.hid I1
      clear hI hlong
      go_enter Tryd.func19, Tryd.ntmps19
      go_wp2_with fail
      refine (I1.out _).mono ?_
      rintro e w1 ⟨rfl, rfl⟩
      go_wp2_with fail
      go_ret3
      exact ⟨by rw [HR.out]; rfl, rfl⟩
    · obtain ⟨d, g, P, p⟩ := float_parts _ hI
      exact refFloat_go s w hI (by omega) d g P p
  · have HR := Lib.hid (show floatX s.data.toList = ([], 0, 40) from by unfold floatX; rw [if_neg hI])
    have hI : isK 12 s.data.toList = false := by simpa using hI
    rw [hI] at I1
    have I1 := Lib.hid I1
    clear hI
    go_enter Tryd.func19, Tryd.ntmps19
    go_wp2_with fail
    refine (I1.out _).mono ?_
    rintro e w1 ⟨rfl, rfl⟩
    go_wp2_with fail
    go_ret3
    exact ⟨by rw [HR.out]; rfl, rfl⟩
end Go.Proofs.YthcogfceighbpaaDoor
