/- DERIVED. The walk of note's Same. -/
import Derived.Test.YthhlnahehpigeaaDoorNoteF
set_option linter.unusedSimpArgs false
set_option linter.unusedVariables false
namespace Go.Proofs.YthhlnahehpigeaaDoor
open Go.RowKit

theorem linesN_none (l : List UInt8) (ls : List (List UInt8)) (h : linesN l = some ls) : ls ≠ [] ∧ ∀ x ∈ ls, ∀ b ∈ x, isNL b = false := by
  unfold linesN at h
  split at h
  · cases h
  · injection h with h
    subst h
    refine ⟨?_, ?_⟩
    · obtain ⟨r, hr⟩ := first_line l
      rw [hr]; simp
    · intro x hx
      rw [List.mem_map] at hx
      obtain ⟨y, hy, rfl⟩ := hx
      exact noNL_of _ (tidied y (linesL_no l.length l [] (Nat.le_refl _) (by simp) y hy)).1
theorem join_same (l m : List (List UInt8)) (h1 : l ≠ [] ∧ ∀ x ∈ l, ∀ b ∈ x, isNL b = false) (h2 : m ≠ [] ∧ ∀ x ∈ m, ∀ b ∈ x, isNL b = false) : decide (Lib.join l [10] = Lib.join m [10]) = decide (l = m) := by
  rw [Bool.eq_iff_iff]
  simp only [decide_eq_true_eq]
  constructor
  · intro h
    rw [← lines_join l h1.1 h1.2, ← lines_join m h2.1 h2.2, h]
  · rintro rfl; rfl
set_option maxRecDepth 20000 in
set_option maxHeartbeats 4000000 in
theorem noteSame_any (s t : ByteArray) (w : World) (hs : s.size ≤ 8796093022206) (ht : t.size ≤ 8796093022206) (hl : ∀ x ∈ linesL [] s.data.toList, x.length ≤ 4294967280) (hm : ∀ x ∈ linesL [] t.data.toList, x.length ≤ 4294967280)
    (hj : ∀ ls, linesN s.data.toList = some ls → (Lib.join ls [10]).length ≤ 140737488355327) (hk : ∀ ls, linesN t.data.toList = some ls → (Lib.join ls [10]).length ≤ 140737488355327) (h0 : Len0 w) :
    Calls Tryd.prog 21 #[.string s, .string t] w fun e w' => e = .returned (.bool (sameN s.data.toList t.data.toList)) ∧ Below w.heap.size w w' := by
  have L1 := noteLines_any s w hs hl h0
  have M1 := Lib.hid fun (w1 : World) (h1 : Len0 w1) => noteLines_any t w1 ht hm h1
  have HS := Lib.hid h0
  obtain ⟨R, hR⟩ : ∃ R, sameN s.data.toList t.data.toList = R := ⟨_, rfl⟩
  rw [hR]
  unfold sameN at hR
  clear hl hm
  cases hln : linesN s.data.toList with
  | none =>
    rw [hln] at L1 hR
    simp only at hR
    subst hR
    have L1 := Lib.hid L1
    clear hln hj hk
    cases hmn : linesN t.data.toList with
    | none =>
      rw [hmn] at M1
      clear hmn
      go_enter Tryd.func21, Tryd.ntmps21
      go_wp2_with fail
      refine L1.out.mono ?_
      rintro e w1 ⟨v, rfl, rfl, hb1⟩
      have HB1 := Lib.hid hb1
      clear hb1
      go_wp2_with fail
      refine (M1.out _ (HS.out.below HS.out.pos HB1.out)).mono ?_
      rintro e w2 ⟨v, rfl, rfl, hb2⟩
      have HB2 := Lib.hid (Below.then HB1.out hb2)
      clear hb2
      go_wp2_with fail
      go_ret
      exact ⟨rfl, HB2.out⟩
    | some ms =>
      rw [hmn] at M1
      clear hmn
      go_enter Tryd.func21, Tryd.ntmps21
      go_wp2_with fail
      refine L1.out.mono ?_
      rintro e w1 ⟨v, rfl, rfl, hb1⟩
      have HB1 := Lib.hid hb1
      clear hb1
      go_wp2_with fail
      refine (M1.out _ (HS.out.below HS.out.pos HB1.out)).mono ?_
      rintro e w2 ⟨v, rfl, v2, rfl, hO2, hb2⟩
      have HB2 := Lib.hid (Below.then HB1.out hb2)
      obtain ⟨a, cap, rfl⟩ := hO2.shape
      clear hb2 hO2
      go_wp2_with fail
      go_ret
      exact ⟨rfl, HB2.out⟩
  | some ls =>
    rw [hln] at L1 hR
    have L1 := Lib.hid L1
    cases hmn : linesN t.data.toList with
    | none =>
      rw [hmn] at M1 hR
      simp only at hR
      subst hR
      clear hmn hln hj hk
      go_enter Tryd.func21, Tryd.ntmps21
      go_wp2_with fail
      refine L1.out.mono ?_
      rintro e w1 ⟨v, rfl, v1, rfl, hO1, hb1⟩
      have HB1 := Lib.hid hb1
      obtain ⟨a, cap, rfl⟩ := hO1.shape
      clear hb1 hO1
      go_wp2_with fail
      refine (M1.out _ (HS.out.below HS.out.pos HB1.out)).mono ?_
      rintro e w2 ⟨v, rfl, rfl, hb2⟩
      have HB2 := Lib.hid (Below.then HB1.out hb2)
      clear hb2
      go_wp2_with fail
      go_ret
      exact ⟨rfl, HB2.out⟩
    | some ms =>
      have hjs := join_same ls ms (linesN_none _ _ hln) (linesN_none _ _ hmn)
      have J1 := Lib.hid fun (w1 : World) (v : Value) (B : Nat) (hO : OwnsT w1 B v ls) => joined v _ B w1 hO (hj _ hln)
      have J2 := Lib.hid fun (w1 : World) (v : Value) (B : Nat) (hO : OwnsT w1 B v ms) => joined v _ B w1 hO (hk _ hmn)
      rw [hmn] at M1 hR
      simp only at hR
      rw [← hjs] at hR
      clear hmn hln hj hk hjs
      generalize Lib.join ls [10] = x at *
      generalize Lib.join ms [10] = y at *
      subst hR
      unfold strV at J1 J2
      have q0 : ((⟨x.toArray⟩ : ByteArray).toList == (⟨y.toArray⟩ : ByteArray).toList) = decide (x = y) := by rw [Lib.toList_data, Lib.toList_data]; rw [Bool.eq_iff_iff]; simp
      generalize (⟨x.toArray⟩ : ByteArray) = x2 at *
      generalize (⟨y.toArray⟩ : ByteArray) = y2 at *
      generalize decide (x = y) = z at *
      go_enter Tryd.func21, Tryd.ntmps21
      go_wp2_with fail
      refine L1.out.mono ?_
      rintro e w1 ⟨v, rfl, v1, rfl, hO1, hb1⟩
      have HB1 := Lib.hid hb1
      have HO1 := Lib.hid hO1
      obtain ⟨a, cap, rfl⟩ := hO1.shape
      clear hb1 hO1
      go_wp2_with fail
      refine (M1.out _ (HS.out.below HS.out.pos HB1.out)).mono ?_
      rintro e w2 ⟨v, rfl, v2, rfl, hO2, hb2⟩
      have HB2 := Lib.hid (Below.then HB1.out hb2)
      have HO2 := Lib.hid hO2
      have HO3 := Lib.hid (HO1.out.below hb2)
      obtain ⟨a2, cap2, rfl⟩ := hO2.shape
      clear hb2 hO2
      go_wp2_with fail
      refine (J1.out _ _ _ HO3.out).mono ?_
      rintro e w3 ⟨rfl, hb3⟩
      have HB3 := Lib.hid (Below.then HB2.out hb3)
      have HO4 := Lib.hid (HO2.out.below hb3)
      clear hb3
      go_wp2_with fail
      refine (J2.out _ _ _ HO4.out).mono ?_
      rintro e w4 ⟨rfl, hb4⟩
      have HB4 := Lib.hid (Below.then HB3.out hb4)
      clear hb4
      go_wp2_with fail
      go_ret
      exact ⟨rfl, HB4.out⟩
end Go.Proofs.YthhlnahehpigeaaDoor
