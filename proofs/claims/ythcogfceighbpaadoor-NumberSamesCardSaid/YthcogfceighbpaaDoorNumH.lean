/- DERIVED. The walk of number's Float: what is refused, and the pieces. -/
import Derived.Test.YthcogfceighbpaaDoorNumG
set_option linter.unusedSimpArgs false
set_option linter.unusedVariables false
namespace Go.Proofs.YthcogfceighbpaaDoor
open Go.RowKit

set_option maxHeartbeats 1000000 in
theorem power_nil (z : ByteArray) (hz : z = ByteArray.empty) (w : World) :
    Calls Tryd.prog 34 #[.string z] w fun e w' => e = .returned (.tuple #[.int .i64 0, .bool true]) ∧ w' = w := by
  subst hz
  go_enter Tryd.func34, Tryd.ntmps34
  go_wp2_with fail
  go_ret2
  exact ⟨rfl, rfl⟩

set_option maxRecDepth 20000 in
set_option maxHeartbeats 2000000 in
theorem float_none (s : ByteArray) (w : World) (hs : s.size ≤ 1152921504606846976) (hI : isK 12 s.data.toList = false) :
    Calls Tryd.prog 18 #[.string s] w fun e w' => e = .returned (floatV (floatX s.data.toList)) ∧ Below w.heap.size w w' := by
  have hR : floatX s.data.toList = ([], 0, 40) := by unfold floatX; rw [hI]; rfl
  rw [hR]
  have I1 := fun w => is_any s 12 w hs
  rw [hI] at I1
  have I1 := Lib.hid I1
  clear hI hR
  go_enter Tryd.func18, Tryd.ntmps18
  go_wp2_with fail
  refine (I1.out _).mono ?_
  rintro e w1 ⟨rfl, hb1⟩
  have HB1 := Lib.hid hb1
  clear hb1
  go_wp2_with fail
  go_ret3
  exact ⟨rfl, HB1.out⟩

set_option maxRecDepth 20000 in
set_option maxHeartbeats 2000000 in
theorem float_long (s : ByteArray) (w : World) (hs : s.size ≤ 1152921504606846976) (hI : isK 12 s.data.toList = true) (hl : 1000 < s.size) :
    Calls Tryd.prog 18 #[.string s] w fun e w' => e = .returned (floatV (floatX s.data.toList)) ∧ Below w.heap.size w w' := by
  have hR : floatX s.data.toList = ([], 0, 3) := by unfold floatX; rw [if_pos hI, if_pos (by rw [← Lib.size_eq]; exact hl)]
  rw [hR]
  have I1 := fun w => is_any s 12 w hs
  rw [hI] at I1
  have I1 := Lib.hid I1
  have hl2 : (1000 : Int) < s.size := by omega
  clear hI hR
  go_enter Tryd.func18, Tryd.ntmps18
  go_wp2_with fail
  refine (I1.out _).mono ?_
  rintro e w1 ⟨rfl, hb1⟩
  have HB1 := Lib.hid hb1
  clear hb1
  go_wp2_with fail
  go_ret3
  exact ⟨rfl, HB1.out⟩

theorem cut_parts (z : ByteArray) : ∃ (h t : ByteArray) (b : Bool), cutV z (Lib.indexByte z.data.toList 46) = .tuple #[.string h, .string t, .bool b] ∧ cutX z.data.toList = (h.data.toList, t.data.toList) ∧ h.size ≤ z.size ∧ t.size ≤ z.size := by
  have hb := ix_bd z.data.toList 46
  rw [← Lib.size_eq] at hb
  unfold cutV cutX
  generalize Lib.indexByte z.data.toList 46 = j at *
  by_cases h0 : 0 ≤ j
  · rw [if_pos h0, if_pos h0]
    refine ⟨z.extract 0 j.toNat, z.extract (j.toNat + 1) z.size, true, rfl, ?_, ?_, ?_⟩
    · rw [cut_data z (j.toNat + 1)]
      have : (z.extract 0 j.toNat).data.toList = z.data.toList.take j.toNat := by simp [Lib.extract_eq]
      rw [this]
    · simp only [ByteArray.size_extract]; omega
    · simp only [ByteArray.size_extract]; omega
  · rw [if_neg h0, if_neg h0]
    exact ⟨z, ⟨#[]⟩, false, rfl, rfl, Nat.le_refl _, Nat.zero_le _⟩
theorem short_at (h t : ByteArray) (p : Int) (w : World) (hs : h.size ≤ 1000) (ht : t.size ≤ 1000) (hp : -1000000000 ≤ p) (hp2 : p ≤ 1000000000) :
    Calls Tryd.prog 36 #[.string (h ++ t), .int .i64 (p - t.size)] w fun e w' => e = .returned (shortV (shortX (h.data.toList ++ t.data.toList) (p - t.data.toList.length))) ∧ w' = w := by
  have H := shortened_any (h ++ t) (p - t.size) w (by rw [ByteArray.size_append]; omega) (by omega) (by omega)
  rw [show (h ++ t).data.toList = h.data.toList ++ t.data.toList from by simp, Lib.size_eq t] at H
  rw [Lib.size_eq t]
  exact H

set_option maxRecDepth 20000 in
set_option maxHeartbeats 4000000 in
theorem float_plain (s : ByteArray) (w : World) (hI : isK 12 s.data.toList = true) (hl : s.size ≤ 1000) (hE : expE s.data.toList = s.data.toList.length) (hx : Lib.indexAny s.data.toList [101, 69] = -1) (h8 : ∀ b ∈ s.data.toList, b.toNat < 128) :
    Calls Tryd.prog 18 #[.string s] w fun e w' => e = .returned (floatV (floatX s.data.toList)) ∧ Below w.heap.size w w' := by
  have X1 := fun w => Tryd.strings_IndexAny_laid s ⟨#[101, 69]⟩ w (by omega) (by decide) (fun j b hj => h8 b (List.mem_of_getElem? hj)) (fun j b hj => by
    have : b ∈ ([101, 69] : List UInt8) := List.mem_of_getElem? hj
    revert this; simp; rintro (rfl | rfl) <;> decide)
  rw [show (⟨#[101, 69]⟩ : ByteArray).data.toList = [101, 69] from rfl, hx] at X1
  have I1 := fun w => is_any s 12 w (by omega)
  rw [hI] at I1
  have hR : floatX s.data.toList = ((shortX ((cutX s.data.toList).1 ++ (cutX s.data.toList).2) (0 - (cutX s.data.toList).2.length)).1, (shortX ((cutX s.data.toList).1 ++ (cutX s.data.toList).2) (0 - (cutX s.data.toList).2.length)).2, 0) := by
    unfold floatX
    rw [if_pos hI, if_neg (by rw [← Lib.size_eq]; omega)]
    simp only [show expP s.data.toList = some 0 from by unfold expP; rw [if_pos hE]]
    rw [hE, List.take_length]
  rw [hR]
  clear hR
  have I1 := Lib.hid I1
  have X1 := Lib.hid X1
  have c1 := fun w => cut_any s w (by omega)
  obtain ⟨h, t, fnd, hc, hcx, hh, ht⟩ := cut_parts s
  rw [hc] at c1
  rw [hcx]
  have C1 := Lib.hid c1
  have s1 := fun w => short_at h t 0 w (by omega) (by omega) (by omega) (by omega)
  simp only [Int.zero_sub] at s1 ⊢
  generalize hX : shortX (h.data.toList ++ t.data.toList) (-(t.data.toList.length : Int)) = X at *
  have S1 := Lib.hid s1
  clear s1 c1 hc hcx hX
  have hl2 : (s.size : Int) ≤ 1000 := by omega
  clear hI hE hx h8
  go_enter Tryd.func18, Tryd.ntmps18
  go_wp2_with fail
  refine (I1.out _).mono ?_
  rintro e w1 ⟨rfl, hb1⟩
  have HB1 := Lib.hid hb1
  clear hb1
  go_wp2_with fail
  refine (X1.out _).mono ?_
  rintro e w2 ⟨rfl, hb2⟩
  have HB2 := Lib.hid (Below.then HB1.out hb2)
  clear hb2
  go_wp2_with fail
  refine (power_nil _ (by simp) _).mono ?_
  rintro e w3 ⟨rfl, rfl⟩
  go_wp2_with fail
  refine (C1.out _).mono ?_
  rintro e w4 ⟨rfl, hb4⟩
  have HB4 := Lib.hid (Below.then HB2.out hb4)
  clear hb4
  go_wp2_with fail
  refine (S1.out _).mono ?_
  rintro e w5 ⟨rfl, rfl⟩
  unfold shortV
  go_wp2_with fail
  go_ret3
  exact ⟨rfl, HB4.out⟩
end Go.Proofs.YthcogfceighbpaaDoor
