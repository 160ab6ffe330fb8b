/- DERIVED. The walk of number's Float, with an exponent; then worth and Same. -/
import Derived.Test.YthcogfceighbpaaDoorNumH
set_option linter.unusedSimpArgs false
set_option linter.unusedVariables false
namespace Go.Proofs.YthcogfceighbpaaDoor
open Go.RowKit

set_option maxRecDepth 20000 in
set_option maxHeartbeats 4000000 in
theorem float_tens (s : ByteArray) (w : World) (hI : isK 12 s.data.toList = true) (hl : s.size ≤ 1000) (hE : expE s.data.toList < s.data.toList.length) (hx : Lib.indexAny s.data.toList [101, 69] = expE s.data.toList) (h8 : ∀ b ∈ s.data.toList, b.toNat < 128) (hb : ∀ b ∈ s.data.toList.drop (expE s.data.toList + 1), expByte b) :
    Calls Tryd.prog 18 #[.string s] w fun e w' => e = .returned (floatV (floatX s.data.toList)) ∧ Below w.heap.size w w' := by
  have X1 := fun w => Tryd.strings_IndexAny_laid s ⟨#[101, 69]⟩ w (by omega) (by decide) (fun j b hj => h8 b (List.mem_of_getElem? hj)) (fun j b hj => by
    have : b ∈ ([101, 69] : List UInt8) := List.mem_of_getElem? hj
    revert this; simp; rintro (rfl | rfl) <;> decide)
  rw [show (⟨#[101, 69]⟩ : ByteArray).data.toList = [101, 69] from rfl, hx] at X1
  have I1 := fun w => is_any s 12 w (by omega)
  rw [hI] at I1
  obtain ⟨R, hR⟩ : ∃ R, floatX s.data.toList = R := ⟨_, rfl⟩
  rw [hR]
  unfold floatX at hR
  rw [if_pos hI, if_neg (by rw [← Lib.size_eq]; omega)] at hR
  have hP : expP s.data.toList = powL (s.data.toList.drop (expE s.data.toList + 1)) 0 1 := by unfold expP; rw [if_neg (by omega)]
  rw [hP] at hR
  rw [← Lib.size_eq] at hE
  generalize expE s.data.toList = E at *
  have hsz : (s.extract E s.size).size = s.size - E := cut_size s E (by omega)
  have hd1 : (s.extract E s.size).data.toList.drop 1 = s.data.toList.drop (E + 1) := by rw [cut_data s E, List.drop_drop]
  have p1 := fun w => power_any (s.extract E s.size) w (by omega) (by omega) (by rw [hd1]; exact hb)
  rw [hd1] at p1
  have hbd := fun p => powL_bd (s.data.toList.drop (E + 1)) 0 1 p (by omega) (by omega) (.inl rfl) hb
  have htk : (s.extract 0 E).data.toList = s.data.toList.take E := by simp [Lib.extract_eq]
  have hts : (s.extract 0 E).size = E := by simp only [ByteArray.size_extract]; omega
  have c1 := fun w => cut_any (s.extract 0 E) w (by omega)
  obtain ⟨h, t, fnd, hc, hcx, hh, ht⟩ := cut_parts (s.extract 0 E)
  rw [hc] at c1
  rw [htk] at hcx
  rw [hcx] at hR
  simp only at hR
  generalize hV : powL (s.data.toList.drop (E + 1)) 0 1 = V at *
  have I1 := Lib.hid I1
  have X1 := Lib.hid X1
  have C1 := Lib.hid c1
  have P1 := Lib.hid p1
  have hl2 : (s.size : Int) ≤ 1000 := by omega
  have he0 : (0 : Int) ≤ (E : Int) := by omega
  have he1 : ¬ ((E : Int) < 0) := by omega
  have he2 : (E : Int) ≤ s.size := by omega
  clear hI hx h8 hb hP hd1 p1 c1 hc hcx htk hV
  cases V with
  | none =>
    simp only at hR
    subst hR
    go_enter Tryd.func18, Tryd.ntmps18
    go_wp2_with fail
    refine (I1.out _).mono ?_
    rintro e w1 ⟨rfl, hb1⟩
    have HB1 := Lib.hid hb1
    clear hb1
    go_wp2_with fail
    refine (X1.out _).mono ?_
    rintro e w2 ⟨rfl, hb2⟩
    have HB2 := Lib.hid (Below.then HB1.out hb2)
    clear hb2
    go_wp2_with fail
    refine (P1.out _).mono ?_
    rintro e w3 ⟨rfl, hb3⟩
    have HB3 := Lib.hid (Below.then HB2.out hb3)
    clear hb3
    unfold powV
    go_wp2_with fail
    go_ret3
    exact ⟨rfl, HB3.out⟩
  | some p =>
    obtain ⟨hp1, hp2⟩ := hbd p rfl
    simp only at hR
    have s1 := fun w => short_at h t p w (by omega) (by omega) hp1 hp2
    generalize hX : shortX (h.data.toList ++ t.data.toList) (p - (t.data.toList.length : Int)) = X at *
    have S1 := Lib.hid s1
    clear s1 hX hbd
    subst hR
    have ht2 : (t.size : Int) ≤ 1000 := by omega
    go_enter Tryd.func18, Tryd.ntmps18
    go_wp2_with fail
    refine (I1.out _).mono ?_
    rintro e w1 ⟨rfl, hb1⟩
    have HB1 := Lib.hid hb1
    clear hb1
    go_wp2_with fail
    refine (X1.out _).mono ?_
    rintro e w2 ⟨rfl, hb2⟩
    have HB2 := Lib.hid (Below.then HB1.out hb2)
    clear hb2
    go_wp2_with fail
    refine (P1.out _).mono ?_
    rintro e w3 ⟨rfl, hb3⟩
    have HB3 := Lib.hid (Below.then HB2.out hb3)
    clear hb3
    unfold powV
    go_wp2_with fail
    refine (C1.out _).mono ?_
    rintro e w4 ⟨rfl, hb4⟩
    have HB4 := Lib.hid (Below.then HB3.out hb4)
    clear hb4
    go_wp2_with fail
    refine (S1.out _).mono ?_
    rintro e w5 ⟨rfl, rfl⟩
    unfold shortV
    go_wp2_with fail
    go_ret3
    exact ⟨rfl, HB4.out⟩

theorem float_any (s : ByteArray) (w : World) (hs : s.size ≤ 1152921504606846976) :
    Calls Tryd.prog 18 #[.string s] w fun e w' => e = .returned (floatV (floatX s.data.toList)) ∧ Below w.heap.size w w' := by
  cases hI : isK 12 s.data.toList with
  | false => exact float_none s w hs hI
  | true =>
    by_cases hl : 1000 < s.size
    · exact float_long s w hs hI hl
    · obtain ⟨hle, h8, ho⟩ := float_exp _ hI
      rcases ho with ⟨hE, hx⟩ | ⟨hE, hx, hb⟩
      · exact float_plain s w hI (by omega) hE hx h8
      · exact float_tens s w hI (by omega) hE hx h8 hb
end Go.Proofs.YthcogfceighbpaaDoor
