/- DERIVED. The walks of place's inner functions: newline, stop, next; the reference's End. -/
import Derived.Test.YthhlnahehpigeaaDoorPlace
import Derived.Test.YthhlnahehpigeaaDoorNext
set_option linter.unusedSimpArgs false
set_option linter.unusedVariables false
namespace Go.Proofs.YthhlnahehpigeaaDoor
open Go.RowKit

theorem dropB_ne (s : ByteArray) (i : Nat) (hi : i < s.size) : s.data.toList.drop i ≠ [] := by
  intro e; have := congrArg List.length e; rw [List.length_drop, ← Lib.size_eq] at this; simp at this; omega

theorem alloc_size (w : World) (o : Obj) : (w.alloc o).heap.size = w.heap.size + 1 := by show (w.heap.push o).size = _; simp


theorem byte_at (s : ByteArray) (i : Nat) (hi : i < s.size) : s[i] = s.data.toList.getD i 0 := by
  rw [List.getD_eq_getElem?_getD, Lib.data_getElem? s i hi]; rfl

theorem nl_at (s : ByteArray) (i : Nat) (hi : i < s.size) : nl (s.data.toList.drop i) = if s.data.toList.getD i 0 = 13 ∧ i + 1 < s.size ∧ s.data.toList.getD (i + 1) 0 = 10 then 2 else if s.data.toList.getD i 0 = 13 ∨ s.data.toList.getD i 0 = 10 ∨ s.data.toList.getD i 0 = 12 then 1 else 0 := by
  unfold nl
  have hl : (s.data.toList.drop i).length = s.size - i := by rw [List.length_drop, ← Lib.size_eq]
  rw [if_neg (by intro e; rw [e] at hl; simp at hl; omega), getD_drop, getD_drop, hl, Nat.add_zero]
  congr 1
  simp only [eq_iff_iff]
  constructor
  · rintro ⟨a, b, c⟩; exact ⟨a, by omega, c⟩
  · rintro ⟨a, b, c⟩; exact ⟨a, by omega, c⟩

theorem toNat_beq (a b : UInt8) : ((a.toNat : Int) == (b.toNat : Int)) = (a == b) := by
  rw [Bool.eq_iff_iff, beq_iff_eq, beq_iff_eq]
  constructor
  · intro h; exact UInt8.toNat_inj.1 (by omega)
  · rintro rfl; rfl

set_option maxHeartbeats 1000000 in
theorem newline_any (s : ByteArray) (i : Nat) (w : World) (hi : i < s.size) (hs : s.size ≤ 1152921504606846976) :
    Calls Tryd.prog 42 #[.string s, .int .i64 i] w fun e w' => e = .returned (.int .i64 (nl (s.data.toList.drop i) : Nat)) ∧ w = w' := by
  have h0 := nl_at s i hi
  rw [← byte_at s i hi] at h0
  generalize nl (s.data.toList.drop i) = R at *
  have c13 : ((s[i].toNat : Int) == 13) = (s[i] == 13) := toNat_beq _ 13
  have c10 : ((s[i].toNat : Int) == 10) = (s[i] == 10) := toNat_beq _ 10
  have c12 : ((s[i].toNat : Int) == 12) = (s[i] == 12) := toNat_beq _ 12
  by_cases h13 : s[i] = 13
  · rw [beq_iff_eq.2 h13] at c13
    have e13 : (s[i].toNat : Int) = 13 := beq_iff_eq.1 c13
    clear c10 c12
    by_cases h1 : i + 1 < s.size
    · have t1 : decide ((i : Int) + 1 < s.size) = true := by simp; omega
      have d10 : ((s[i + 1].toNat : Int) == 10) = (s[i + 1] == 10) := toNat_beq _ 10
      rw [← byte_at s (i + 1) h1] at h0
      by_cases h10 : s[i + 1] = 10
      · rw [beq_iff_eq.2 h10] at d10
        rw [if_pos ⟨h13, h1, h10⟩] at h0
        subst h0
        clear h13 h10
        go_enter Tryd.func42, Tryd.ntmps42
        go_wp2_with fail
        go_ret
        exact ⟨rfl, rfl⟩
      · rw [beq_eq_false_iff_ne.2 h10] at d10
        rw [if_neg (fun h => h10 h.2.2), if_pos (.inl h13)] at h0
        subst h0
        clear h13 h10
        go_enter Tryd.func42, Tryd.ntmps42
        go_wp2_with fail
        go_ret
        exact ⟨rfl, rfl⟩
    · have t1 : decide ((i : Int) + 1 < s.size) = false := by simp; omega
      rw [if_neg (fun h => h1 h.2.1), if_pos (.inl h13)] at h0
      subst h0
      clear h13
      go_enter Tryd.func42, Tryd.ntmps42
      go_wp2_with fail
      go_ret
      exact ⟨rfl, rfl⟩
  · rw [beq_eq_false_iff_ne.2 h13] at c13
    rw [if_neg (fun h => h13 h.1)] at h0
    by_cases h10 : s[i] = 10
    · rw [beq_iff_eq.2 h10] at c10
      rw [if_pos (.inr (.inl h10))] at h0
      subst h0
      clear h13 h10 c12
      go_enter Tryd.func42, Tryd.ntmps42
      go_wp2_with fail
      go_ret
      exact ⟨rfl, rfl⟩
    · rw [beq_eq_false_iff_ne.2 h10] at c10
      by_cases h12 : s[i] = 12
      · rw [beq_iff_eq.2 h12] at c12
        rw [if_pos (.inr (.inr h12))] at h0
        subst h0
        clear h13 h10 h12
        go_enter Tryd.func42, Tryd.ntmps42
        go_wp2_with fail
        go_ret
        exact ⟨rfl, rfl⟩
      · rw [beq_eq_false_iff_ne.2 h12] at c12
        rw [if_neg (fun h => h.elim h13 (fun h => h.elim h10 h12))] at h0
        subst h0
        clear h13 h10 h12
        go_enter Tryd.func42, Tryd.ntmps42
        go_wp2_with fail
        go_ret
        exact ⟨rfl, rfl⟩

set_option maxHeartbeats 1000000 in
theorem end_any (s : ByteArray) (i : Nat) (w : World) (hi : i < s.size) (hs : s.size ≤ 1152921504606846976) :
    Calls Tryd.prog 28 #[.string s, .int .i64 i] w fun e w' => e = .returned (.int .i64 (nl (s.data.toList.drop i) : Nat)) ∧ w = w' := by
  have h0 := nl_at s i hi
  have g0 : ((i : Int) < 0) = False := by simp
  have g1 : (i : Int) < s.size := by omega
  rw [← byte_at s i hi] at h0
  generalize nl (s.data.toList.drop i) = R at *
  have c13 : ((s[i].toNat : Int) == 13) = (s[i] == 13) := toNat_beq _ 13
  have c10 : ((s[i].toNat : Int) == 10) = (s[i] == 10) := toNat_beq _ 10
  have c12 : ((s[i].toNat : Int) == 12) = (s[i] == 12) := toNat_beq _ 12
  by_cases h13 : s[i] = 13
  · rw [beq_iff_eq.2 h13] at c13
    have e13 : (s[i].toNat : Int) = 13 := beq_iff_eq.1 c13
    clear c10 c12
    by_cases h1 : i + 1 < s.size
    · have t1 : decide ((i : Int) + 1 < s.size) = true := by simp; omega
      have d10 : ((s[i + 1].toNat : Int) == 10) = (s[i + 1] == 10) := toNat_beq _ 10
      rw [← byte_at s (i + 1) h1] at h0
      by_cases h10 : s[i + 1] = 10
      · rw [beq_iff_eq.2 h10] at d10
        rw [if_pos ⟨h13, h1, h10⟩] at h0
        subst h0
        clear h13 h10
        go_enter Tryd.func28, Tryd.ntmps28
        go_wp2_with fail
        go_ret
        exact ⟨rfl, rfl⟩
      · rw [beq_eq_false_iff_ne.2 h10] at d10
        rw [if_neg (fun h => h10 h.2.2), if_pos (.inl h13)] at h0
        subst h0
        clear h13 h10
        go_enter Tryd.func28, Tryd.ntmps28
        go_wp2_with fail
        go_ret
        exact ⟨rfl, rfl⟩
    · have t1 : decide ((i : Int) + 1 < s.size) = false := by simp; omega
      rw [if_neg (fun h => h1 h.2.1), if_pos (.inl h13)] at h0
      subst h0
      clear h13
      go_enter Tryd.func28, Tryd.ntmps28
      go_wp2_with fail
      go_ret
      exact ⟨rfl, rfl⟩
  · rw [beq_eq_false_iff_ne.2 h13] at c13
    rw [if_neg (fun h => h13 h.1)] at h0
    by_cases h10 : s[i] = 10
    · rw [beq_iff_eq.2 h10] at c10
      rw [if_pos (.inr (.inl h10))] at h0
      subst h0
      clear h13 h10 c12
      go_enter Tryd.func28, Tryd.ntmps28
      go_wp2_with fail
      go_ret
      exact ⟨rfl, rfl⟩
    · rw [beq_eq_false_iff_ne.2 h10] at c10
      by_cases h12 : s[i] = 12
      · rw [beq_iff_eq.2 h12] at c12
        rw [if_pos (.inr (.inr h12))] at h0
        subst h0
        clear h13 h10 h12
        go_enter Tryd.func28, Tryd.ntmps28
        go_wp2_with fail
        go_ret
        exact ⟨rfl, rfl⟩
      · rw [beq_eq_false_iff_ne.2 h12] at c12
        rw [if_neg (fun h => h.elim h13 (fun h => h.elim h10 h12))] at h0
        subst h0
        clear h13 h10 h12
        go_enter Tryd.func28, Tryd.ntmps28
        go_wp2_with fail
        go_ret
        exact ⟨rfl, rfl⟩
end Go.Proofs.YthhlnahehpigeaaDoor
