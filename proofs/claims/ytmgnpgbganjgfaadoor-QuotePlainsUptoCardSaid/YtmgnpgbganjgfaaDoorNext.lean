/- DERIVED. The walks of Next: glyph's and the reference's. -/
import Derived.Test.YtmgnpgbganjgfaaDoorShelf
import Derived.Test.YtmgnpgbganjgfaaDoorDec
import Derived.Test.YtmgnpgbganjgfaaDoorBase
set_option linter.unusedSimpArgs false
set_option linter.unusedVariables false
namespace Go.Proofs.YtmgnpgbganjgfaaDoor
open Go.RowKit

/-- The two tables of unicode/utf8 hold what their text lays. -/
def Tabs (w : World) : Prop := Lib.Utf8Tabs 2 3 w
theorem Tabs.below {w w' : World} (h : Tabs w) (hb : Below w.heap.size w w') : Tabs w' :=
  ⟨fun c hc => by rw [hb.cell (p := ⟨2, c, none⟩) (lt_of_cell (h.1 c hc))]; exact h.1 c hc,
   fun i hi => ⟨by rw [hb.cell (p := ⟨3, 2 * i, none⟩) (lt_of_cell (h.2 i hi).1)]; exact (h.2 i hi).1,
     by rw [hb.cell (p := ⟨3, 2 * i + 1, none⟩) (lt_of_cell (h.2 i hi).2)]; exact (h.2 i hi).2⟩⟩
/-- What the library's decoder hands back, of a text that is cut at a byte. -/
theorem decodeGo_cut (s : ByteArray) (i : Nat) (h : i < s.size) : Lib.decodeGo (s.extract i s.size) = dec (s.data.toList.drop i) := by
  unfold Lib.decodeGo
  rw [if_neg (by simp; omega), decode_eq, Lib.extract_data, List.drop_zero, List.take_of_length_le (by rw [List.length_drop, ← Lib.size_eq]; exact Nat.le_refl _)]

set_option maxHeartbeats 400000 in
theorem next_any (s : ByteArray) (i : Int) (w : World) (hs : s.size ≤ 1152921504606846976) (hT : Tabs w) :
    Calls Tryd.prog 50 #[.string s, .int .i64 i] w fun e w' => e = .returned (.tuple #[.int .i32 (nextL s.data.toList i).1, .int .i64 (nextL s.data.toList i).2]) ∧ Below w.heap.size w w' := by

  by_cases h : 0 ≤ i ∧ i < s.size
  · obtain ⟨i, rfl⟩ := Int.eq_ofNat_of_zero_le h.1
    have hi : i < s.size := by omega
    have hn : nextL s.data.toList i = (((dec (s.data.toList.drop i)).1 : Int), ((dec (s.data.toList.drop i)).2 : Int)) := by
      unfold nextL; rw [if_pos ⟨h.1, by rw [← Lib.size_eq]; omega⟩, Int.toNat_natCast]
    rw [hn, ← decodeGo_cut s i hi]
    clear hn h
    go_enter Tryd.func50, Tryd.ntmps50
    go_wp2_with fail
    refine (Tryd.utf8_DecodeRuneInString _ _ hT).mono ?_
    rintro e w' ⟨rfl, hb⟩
    go_wp2_with fail
    go_ret2
    exact ⟨rfl, hb⟩
  · have hn : nextL s.data.toList i = (0, 0) := by
      unfold nextL; rw [if_neg (by rw [← Lib.size_eq]; exact h)]
    rw [hn]
    clear hn
    by_cases h0 : i < 0
    · clear h
      go_enter Tryd.func50, Tryd.ntmps50
      go_wp2_with fail
      go_ret2
      exact ⟨rfl, Below.refl _ _⟩
    · have h1 : (s.size : Int) ≤ i := by omega
      clear h
      go_enter Tryd.func50, Tryd.ntmps50
      go_wp2_with fail
      go_ret2
      exact ⟨rfl, Below.refl _ _⟩


theorem wrap64_u8 (x : UInt8) : wrap64 (x.toNat : Int) = x.toNat := by have := x.toNat_lt; unfold wrap64; omega

set_option maxHeartbeats 400000 in
theorem at_any (s : ByteArray) (i : Int) (w : World) (hs : s.size ≤ 1152921504606846976) :
    Calls Tryd.prog 52 #[.string s, .int .i64 i] w fun e w' => e = .returned (.int .i64 (byteAt s.data.toList i)) ∧ w = w' := by

  by_cases h : 0 ≤ i ∧ i < s.size
  · obtain ⟨i, rfl⟩ := Int.eq_ofNat_of_zero_le h.1
    have hi : i < s.size := by omega
    have hn : byteAt s.data.toList i = (s[i].toNat : Int) := by
      unfold byteAt
      rw [if_pos ⟨h.1, by rw [← Lib.size_eq]; omega⟩, Int.toNat_natCast, List.getD_eq_getElem?_getD, Lib.data_getElem? s i hi]; rfl
    rw [hn]
    clear hn h
    go_enter Tryd.func52, Tryd.ntmps52
    go_wp2_with fail
    go_ret
    exact ⟨ret_int (wrap64_u8 _), rfl⟩
  · have hn : byteAt s.data.toList i = -1 := by
      unfold byteAt; rw [if_neg (by rw [← Lib.size_eq]; exact h)]
    rw [hn]
    clear hn
    by_cases h0 : i < 0
    · clear h
      go_enter Tryd.func52, Tryd.ntmps52
      go_wp2_with fail
      go_ret
      exact ⟨rfl, rfl⟩
    · have h1 : (s.size : Int) ≤ i := by omega
      clear h
      go_enter Tryd.func52, Tryd.ntmps52
      go_wp2_with fail
      go_ret
      exact ⟨rfl, rfl⟩

/-- How far the loop over the bytes that go on has come. -/
def InRef (l : List UInt8) (i : Int) (n : Nat) (c0 : Int) (k : Nat) (c : Int) : Prop :=
  1 ≤ k ∧ k ≤ n ∧ 0 ≤ c ∧ ((k = 1 ∧ c ≤ 31) ∨ (k = 2 ∧ c ≤ 2047) ∨ (k = 3 ∧ c ≤ 131071) ∨ (k = 4 ∧ c ≤ 8388607)) ∧ conts l i (n - 1) 1 c0 = conts l i (n - k) k c

theorem conts_stop {l : List UInt8} {i : Int} {n k : Nat} {c0 c : Int} (h : InRef l i n c0 k c) (hk : k < n) (hd : byteAt l (i + k) < 128 ∨ byteAt l (i + k) > 191) : conts l i (n - 1) 1 c0 = none := by
  obtain ⟨_, _, _, _, h⟩ := h
  rw [h, show n - k = (n - k - 1) + 1 from by omega]
  simp only [conts]
  rw [if_pos hd]
theorem conts_on {l : List UInt8} {i : Int} {n k : Nat} {c0 c : Int} (h : InRef l i n c0 k c) (hn : n ≤ 4) (hk : k < n) (h1 : 128 ≤ byteAt l (i + k)) (h2 : byteAt l (i + k) ≤ 191) : InRef l i n c0 (k + 1) (c * 64 + byteAt l (i + k) - 128) := by
  obtain ⟨a1, a2, a3, a4, h⟩ := h
  refine ⟨by omega, by omega, by omega, by omega, ?_⟩
  rw [h, show n - k = (n - (k + 1)) + 1 from by omega]
  simp only [conts]
  rw [if_neg (by omega)]
theorem conts_done {l : List UInt8} {i : Int} {n k : Nat} {c0 c : Int} (h : InRef l i n c0 k c) (hk : ¬ k < n) : conts l i (n - 1) 1 c0 = some c := by
  obtain ⟨_, a2, _, _, h⟩ := h
  rw [h, show n - k = 0 from by omega]
  rfl

set_option maxHeartbeats 1000000 in
theorem refNext_2 (s : ByteArray) (i : Int) (w : World) (hs : s.size ≤ 1152921504606846976) (h1 : 194 ≤ byteAt s.data.toList i) (h2 : byteAt s.data.toList i ≤ 223) :
    Calls Tryd.prog 43 #[.string s, .int .i64 i] w fun e w' => e = .returned (.tuple #[.int .i64 (fin 2 128 (conts s.data.toList i (2 - 1) 1 (byteAt s.data.toList i - 192))).1, .int .i64 (fin 2 128 (conts s.data.toList i (2 - 1) 1 (byteAt s.data.toList i - 192))).2]) ∧ w = w' := by
  have hi : 0 ≤ i ∧ i < s.size := by
    false_or_by_contra
    rename_i hn
    unfold byteAt at h1
    rw [← Lib.size_eq, if_neg hn] at h1
    omega
  obtain ⟨i, rfl⟩ := Int.eq_ofNat_of_zero_le hi.1
  have hsz : i < s.size := by omega
  clear hi
  have t223 : decide (byteAt s.data.toList i ≤ 223) = true := by simp; omega
  have u194 : decide (194 ≤ byteAt s.data.toList i) = true := by simp; omega
  have t0 : decide (byteAt s.data.toList i < 0) = false := by simp; omega
  have t8 : decide (byteAt s.data.toList i < 128) = false := by simp; omega
  go_enter Tryd.func43, Tryd.ntmps43
  go_wp2_with (go_at_call 52; refine (at_any _ _ _ hs).mono ?_; rintro e w' ⟨rfl, rfl⟩)
  go_loop [9, 10] (fun c k => ∃ (kk : Nat) (cc : Int), InRef s.data.toList i 2 (byteAt s.data.toList i - 192) kk cc ∧ k = .int .i64 kk ∧ c = .int .i64 cc) (fun _ k => 2 - (intOf k).toNat)
  case atStart => exact ⟨1, _, ⟨by omega, by omega, by omega, by omega, rfl⟩, rfl, rfl⟩
  case round =>
    obtain ⟨k, c, hR, rfl, rfl⟩ := hrel
    have HR := Lib.hid hR
    obtain ⟨a1, a2, a3, a4, a5⟩ := hR
    clear a5
    have hb := byteAt_bd s.data.toList (i + k)
    by_cases hk : k < 2
    · by_cases hd : byteAt s.data.toList (i + k) < 128 ∨ byteAt s.data.toList (i + k) > 191
      · have hE := Lib.hid (conts_stop HR.out hk hd)
        rcases hd with hd | hd
        all_goals
          go_wp2_with (go_at_call 52; refine (at_any _ _ _ hs).mono ?_; rintro e w' ⟨rfl, rfl⟩)
          go_ret2
          rw [hE.out]
          exact ⟨rfl, rfl⟩
      · have hd1 : 128 ≤ byteAt s.data.toList (i + k) := by omega
        have hd2 : byteAt s.data.toList (i + k) ≤ 191 := by omega
        have hE := Lib.hid (conts_on HR.out (by omega) hk hd1 hd2)
        clear hd
        go_wp2_with (go_at_call 52; refine (at_any _ _ _ hs).mono ?_; rintro e w' ⟨rfl, rfl⟩)
        go_round
        case rel => exact ⟨k + 1, _, hE.out, by go_num, by go_num⟩
        case measure => simp [intOf]; omega
    · have hE := Lib.hid (conts_done HR.out hk)
      by_cases hc : c < 128 ∨ c > 1114111 ∨ (55296 ≤ c ∧ c ≤ 57343)
      · have hF : Hid (fin 2 128 (conts s.data.toList i (2 - 1) 1 (byteAt s.data.toList i - 192)) = (65533, 1)) := by rw [hE.out]; simp only [fin]; rw [if_pos hc]; exact rfl
        clear hE
        rcases hc with hc | hc | hc
        all_goals
          go_wp2_with fail
          all_goals (go_ret2; exact ⟨by first | (rw [hF.out]; done) | (rw [hF.out]; rfl), rfl⟩)
      · have hF : Hid (fin 2 128 (conts s.data.toList i (2 - 1) 1 (byteAt s.data.toList i - 192)) = (c, 2)) := by rw [hE.out]; simp only [fin]; rw [if_neg hc]; exact rfl
        clear hE
        have c1 : 128 ≤ c := by omega
        have c2 : c ≤ 1114111 := by omega
        by_cases c3 : 55296 ≤ c
        · have c4 : 57343 < c := by omega
          clear hc
          go_wp2_with fail
          all_goals (go_ret2; exact ⟨by first | (rw [hF.out]; done) | (rw [hF.out]; rfl), rfl⟩)
        · clear hc
          go_wp2_with fail
          all_goals (go_ret2; exact ⟨by first | (rw [hF.out]; done) | (rw [hF.out]; rfl), rfl⟩)

set_option maxHeartbeats 1000000 in
theorem refNext_3 (s : ByteArray) (i : Int) (w : World) (hs : s.size ≤ 1152921504606846976) (h1 : 224 ≤ byteAt s.data.toList i) (h2 : byteAt s.data.toList i ≤ 239) :
    Calls Tryd.prog 43 #[.string s, .int .i64 i] w fun e w' => e = .returned (.tuple #[.int .i64 (fin 3 2048 (conts s.data.toList i (3 - 1) 1 (byteAt s.data.toList i - 224))).1, .int .i64 (fin 3 2048 (conts s.data.toList i (3 - 1) 1 (byteAt s.data.toList i - 224))).2]) ∧ w = w' := by
  have hi : 0 ≤ i ∧ i < s.size := by
    false_or_by_contra
    rename_i hn
    unfold byteAt at h1
    rw [← Lib.size_eq, if_neg hn] at h1
    omega
  obtain ⟨i, rfl⟩ := Int.eq_ofNat_of_zero_le hi.1
  have hsz : i < s.size := by omega
  clear hi
  have t223 : decide (byteAt s.data.toList i ≤ 223) = false := by simp; omega
  have t239 : decide (byteAt s.data.toList i ≤ 239) = true := by simp; omega
  have u194 : decide (194 ≤ byteAt s.data.toList i) = true := by simp; omega
  have u224 : decide (224 ≤ byteAt s.data.toList i) = true := by simp; omega
  have t0 : decide (byteAt s.data.toList i < 0) = false := by simp; omega
  have t8 : decide (byteAt s.data.toList i < 128) = false := by simp; omega
  go_enter Tryd.func43, Tryd.ntmps43
  go_wp2_with (go_at_call 52; refine (at_any _ _ _ hs).mono ?_; rintro e w' ⟨rfl, rfl⟩)
  go_loop [9, 10] (fun c k => ∃ (kk : Nat) (cc : Int), InRef s.data.toList i 3 (byteAt s.data.toList i - 224) kk cc ∧ k = .int .i64 kk ∧ c = .int .i64 cc) (fun _ k => 3 - (intOf k).toNat)
  case atStart => exact ⟨1, _, ⟨by omega, by omega, by omega, by omega, rfl⟩, rfl, rfl⟩
  case round =>
    obtain ⟨k, c, hR, rfl, rfl⟩ := hrel
    have HR := Lib.hid hR
    obtain ⟨a1, a2, a3, a4, a5⟩ := hR
    clear a5
    have hb := byteAt_bd s.data.toList (i + k)
    by_cases hk : k < 3
    · by_cases hd : byteAt s.data.toList (i + k) < 128 ∨ byteAt s.data.toList (i + k) > 191
      · have hE := Lib.hid (conts_stop HR.out hk hd)
        rcases hd with hd | hd
        all_goals
          go_wp2_with (go_at_call 52; refine (at_any _ _ _ hs).mono ?_; rintro e w' ⟨rfl, rfl⟩)
          go_ret2
          rw [hE.out]
          exact ⟨rfl, rfl⟩
      · have hd1 : 128 ≤ byteAt s.data.toList (i + k) := by omega
        have hd2 : byteAt s.data.toList (i + k) ≤ 191 := by omega
        have hE := Lib.hid (conts_on HR.out (by omega) hk hd1 hd2)
        clear hd
        go_wp2_with (go_at_call 52; refine (at_any _ _ _ hs).mono ?_; rintro e w' ⟨rfl, rfl⟩)
        go_round
        case rel => exact ⟨k + 1, _, hE.out, by go_num, by go_num⟩
        case measure => simp [intOf]; omega
    · have hE := Lib.hid (conts_done HR.out hk)
      by_cases hc : c < 2048 ∨ c > 1114111 ∨ (55296 ≤ c ∧ c ≤ 57343)
      · have hF : Hid (fin 3 2048 (conts s.data.toList i (3 - 1) 1 (byteAt s.data.toList i - 224)) = (65533, 1)) := by rw [hE.out]; simp only [fin]; rw [if_pos hc]; exact rfl
        clear hE
        rcases hc with hc | hc | hc
        all_goals
          go_wp2_with fail
          all_goals (go_ret2; exact ⟨by first | (rw [hF.out]; done) | (rw [hF.out]; rfl), rfl⟩)
      · have hF : Hid (fin 3 2048 (conts s.data.toList i (3 - 1) 1 (byteAt s.data.toList i - 224)) = (c, 3)) := by rw [hE.out]; simp only [fin]; rw [if_neg hc]; exact rfl
        clear hE
        have c1 : 2048 ≤ c := by omega
        have c2 : c ≤ 1114111 := by omega
        by_cases c3 : 55296 ≤ c
        · have c4 : 57343 < c := by omega
          clear hc
          go_wp2_with fail
          all_goals (go_ret2; exact ⟨by first | (rw [hF.out]; done) | (rw [hF.out]; rfl), rfl⟩)
        · clear hc
          go_wp2_with fail
          all_goals (go_ret2; exact ⟨by first | (rw [hF.out]; done) | (rw [hF.out]; rfl), rfl⟩)

set_option maxHeartbeats 1000000 in
theorem refNext_4 (s : ByteArray) (i : Int) (w : World) (hs : s.size ≤ 1152921504606846976) (h1 : 240 ≤ byteAt s.data.toList i) (h2 : byteAt s.data.toList i ≤ 244) :
    Calls Tryd.prog 43 #[.string s, .int .i64 i] w fun e w' => e = .returned (.tuple #[.int .i64 (fin 4 65536 (conts s.data.toList i (4 - 1) 1 (byteAt s.data.toList i - 240))).1, .int .i64 (fin 4 65536 (conts s.data.toList i (4 - 1) 1 (byteAt s.data.toList i - 240))).2]) ∧ w = w' := by
  have hi : 0 ≤ i ∧ i < s.size := by
    false_or_by_contra
    rename_i hn
    unfold byteAt at h1
    rw [← Lib.size_eq, if_neg hn] at h1
    omega
  obtain ⟨i, rfl⟩ := Int.eq_ofNat_of_zero_le hi.1
  have hsz : i < s.size := by omega
  clear hi
  have t223 : decide (byteAt s.data.toList i ≤ 223) = false := by simp; omega
  have t239 : decide (byteAt s.data.toList i ≤ 239) = false := by simp; omega
  have t244 : decide (byteAt s.data.toList i ≤ 244) = true := by simp; omega
  have u194 : decide (194 ≤ byteAt s.data.toList i) = true := by simp; omega
  have u224 : decide (224 ≤ byteAt s.data.toList i) = true := by simp; omega
  have u240 : decide (240 ≤ byteAt s.data.toList i) = true := by simp; omega
  have t0 : decide (byteAt s.data.toList i < 0) = false := by simp; omega
  have t8 : decide (byteAt s.data.toList i < 128) = false := by simp; omega
  go_enter Tryd.func43, Tryd.ntmps43
  go_wp2_with (go_at_call 52; refine (at_any _ _ _ hs).mono ?_; rintro e w' ⟨rfl, rfl⟩)
  go_loop [9, 10] (fun c k => ∃ (kk : Nat) (cc : Int), InRef s.data.toList i 4 (byteAt s.data.toList i - 240) kk cc ∧ k = .int .i64 kk ∧ c = .int .i64 cc) (fun _ k => 4 - (intOf k).toNat)
  case atStart => exact ⟨1, _, ⟨by omega, by omega, by omega, by omega, rfl⟩, rfl, rfl⟩
  case round =>
    obtain ⟨k, c, hR, rfl, rfl⟩ := hrel
    have HR := Lib.hid hR
    obtain ⟨a1, a2, a3, a4, a5⟩ := hR
    clear a5
    have hb := byteAt_bd s.data.toList (i + k)
    by_cases hk : k < 4
    · by_cases hd : byteAt s.data.toList (i + k) < 128 ∨ byteAt s.data.toList (i + k) > 191
      · have hE := Lib.hid (conts_stop HR.out hk hd)
        rcases hd with hd | hd
        all_goals
          go_wp2_with (go_at_call 52; refine (at_any _ _ _ hs).mono ?_; rintro e w' ⟨rfl, rfl⟩)
          go_ret2
          rw [hE.out]
          exact ⟨rfl, rfl⟩
      · have hd1 : 128 ≤ byteAt s.data.toList (i + k) := by omega
        have hd2 : byteAt s.data.toList (i + k) ≤ 191 := by omega
        have hE := Lib.hid (conts_on HR.out (by omega) hk hd1 hd2)
        clear hd
        go_wp2_with (go_at_call 52; refine (at_any _ _ _ hs).mono ?_; rintro e w' ⟨rfl, rfl⟩)
        go_round
        case rel => exact ⟨k + 1, _, hE.out, by go_num, by go_num⟩
        case measure => simp [intOf]; omega
    · have hE := Lib.hid (conts_done HR.out hk)
      by_cases hc : c < 65536 ∨ c > 1114111 ∨ (55296 ≤ c ∧ c ≤ 57343)
      · have hF : Hid (fin 4 65536 (conts s.data.toList i (4 - 1) 1 (byteAt s.data.toList i - 240)) = (65533, 1)) := by rw [hE.out]; simp only [fin]; rw [if_pos hc]; exact rfl
        clear hE
        rcases hc with hc | hc | hc
        all_goals
          go_wp2_with fail
          all_goals (go_ret2; exact ⟨by first | (rw [hF.out]; done) | (rw [hF.out]; rfl), rfl⟩)
      · have hF : Hid (fin 4 65536 (conts s.data.toList i (4 - 1) 1 (byteAt s.data.toList i - 240)) = (c, 4)) := by rw [hE.out]; simp only [fin]; rw [if_neg hc]; exact rfl
        clear hE
        have c1 : 65536 ≤ c := by omega
        have c2 : c ≤ 1114111 := by omega
        by_cases c3 : 55296 ≤ c
        · have c4 : 57343 < c := by omega
          clear hc
          go_wp2_with fail
          all_goals (go_ret2; exact ⟨by first | (rw [hF.out]; done) | (rw [hF.out]; rfl), rfl⟩)
        · clear hc
          go_wp2_with fail
          all_goals (go_ret2; exact ⟨by first | (rw [hF.out]; done) | (rw [hF.out]; rfl), rfl⟩)

set_option maxHeartbeats 1000000 in
theorem refNext_any (s : ByteArray) (i : Int) (w : World) (hs : s.size ≤ 1152921504606846976) :
    Calls Tryd.prog 43 #[.string s, .int .i64 i] w fun e w' => e = .returned (.tuple #[.int .i64 (nextL s.data.toList i).1, .int .i64 (nextL s.data.toList i).2]) ∧ w = w' := by
  rw [← refNext_eq]
  have hbd := byteAt_bd s.data.toList i
  by_cases b0 : byteAt s.data.toList i < 0
  · have hF : refNext s.data.toList i = (0, 0) := by unfold refNext; rw [if_pos b0]
    rw [hF]; clear hF
    go_enter Tryd.func43, Tryd.ntmps43
    go_wp2_with (go_at_call 52; refine (at_any _ _ _ hs).mono ?_; rintro e w' ⟨rfl, rfl⟩)
    go_ret2
    exact ⟨rfl, rfl⟩
  by_cases b1 : byteAt s.data.toList i < 128
  · have hF : refNext s.data.toList i = (byteAt s.data.toList i, 1) := by unfold refNext; rw [if_neg b0, if_pos b1]
    rw [hF]; clear hF
    go_enter Tryd.func43, Tryd.ntmps43
    go_wp2_with (go_at_call 52; refine (at_any _ _ _ hs).mono ?_; rintro e w' ⟨rfl, rfl⟩)
    go_ret2
    exact ⟨rfl, rfl⟩
  by_cases b2 : 194 ≤ byteAt s.data.toList i ∧ byteAt s.data.toList i ≤ 223
  · have hF : refNext s.data.toList i = fin 2 128 (conts s.data.toList i (2 - 1) 1 (byteAt s.data.toList i - 192)) := by unfold refNext; rw [if_neg b0, if_neg b1, if_pos b2]
    rw [hF]
    exact refNext_2 s i w hs b2.1 b2.2
  by_cases b3 : 224 ≤ byteAt s.data.toList i ∧ byteAt s.data.toList i ≤ 239
  · have hF : refNext s.data.toList i = fin 3 2048 (conts s.data.toList i (3 - 1) 1 (byteAt s.data.toList i - 224)) := by unfold refNext; rw [if_neg b0, if_neg b1, if_neg b2, if_pos b3]
    rw [hF]
    exact refNext_3 s i w hs b3.1 b3.2
  by_cases b4 : 240 ≤ byteAt s.data.toList i ∧ byteAt s.data.toList i ≤ 244
  · have hF : refNext s.data.toList i = fin 4 65536 (conts s.data.toList i (4 - 1) 1 (byteAt s.data.toList i - 240)) := by unfold refNext; rw [if_neg b0, if_neg b1, if_neg b2, if_neg b3, if_pos b4]
    rw [hF]
    exact refNext_4 s i w hs b4.1 b4.2
  have hF : refNext s.data.toList i = (65533, 1) := by unfold refNext; rw [if_neg b0, if_neg b1, if_neg b2, if_neg b3, if_neg b4]
  rw [hF]; clear hF
  have b5 : byteAt s.data.toList i < 194 ∨ 244 < byteAt s.data.toList i := by omega
  clear b2 b3 b4
  rcases b5 with b5 | b5
  all_goals
    go_enter Tryd.func43, Tryd.ntmps43
    go_wp2_with (go_at_call 52; refine (at_any _ _ _ hs).mono ?_; rintro e w' ⟨rfl, rfl⟩)
    go_ret2
    exact ⟨rfl, rfl⟩
end Go.Proofs.YtmgnpgbganjgfaaDoor
