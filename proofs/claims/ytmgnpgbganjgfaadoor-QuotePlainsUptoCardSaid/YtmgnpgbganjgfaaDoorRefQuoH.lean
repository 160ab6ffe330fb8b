/- DERIVED. The walk of the document's escape. DERIVED. The walk of the document's escape, where it is a name. DERIVED. The walk of the document's escape, joined. DERIVED. The walk of the document's one. -/
import Derived.Test.YtmgnpgbganjgfaaDoorRefQuoC
set_option linter.unusedSimpArgs false
set_option linter.unusedVariables false
namespace Go.Proofs.YtmgnpgbganjgfaaDoor
open Go.RowKit

/-- What the document's escape gives back. -/
def EscPost (w : World) (k : Nat) (R : Option (Int × Nat)) (e : Ending) (w' : World) : Prop :=
  ∃ v j : Int, e = .returned (.tuple #[.int .i64 v, .int .i64 j]) ∧ (∀ a n, R = some (a, n) → v = a ∧ j = ((k + 1 + n : Nat) : Int)) ∧ (R = none → v = -1) ∧ Below w.heap.size w w'
theorem shortX_esc (c : UInt8) (t : List UInt8) (h : shortX c ≠ -1) : escC c t = some (shortX c, 1) := by
  unfold shortX at h ⊢
  unfold escC
  cases hs : signP c with
  | some v => rfl
  | none =>
    rw [hs] at h
    simp only at h ⊢
    by_cases h38 : c = 38
    · rw [if_pos h38, if_pos h38]
    · rw [if_neg h38] at h; exact absurd rfl h
theorem shortX_not (c : UInt8) (t : List UInt8) (h : shortX c = -1) : signP c = none ∧ c ≠ 38 := by
  have hall : ∀ n : Fin 256, shortX (UInt8.ofNat n.val) = -1 → signP (UInt8.ofNat n.val) = none ∧ UInt8.ofNat n.val ≠ 38 := by decide +kernel
  have := hall ⟨c.toNat, c.toNat_lt⟩
  simp only [UInt8.ofNat_toNat] at this
  exact this h
set_option maxHeartbeats 2000000 in
theorem refEscape_end (s : ByteArray) (k : Nat) (w : World) (hs : s.size ≤ 16777216) (hk : k + 1 = s.size) :
    Calls Tryd.prog 29 #[.string s, .int .i64 k] w (EscPost w k none) := by
  have t0 : decide ((s.size : Int) ≤ (k : Int) + 1) = true := by simp; omega
  have t1 : decide (s.size ≤ k + 1) = true := by simp; omega
  have hk2 : k + 1 ≤ 16777216 := by omega
  clear hk
  go_enter Tryd.func29, Tryd.ntmps29
  go_wp2_with fail
  go_ret2
  exact ⟨-1, _, rfl, fun a n h => (by cases h), fun _ => rfl, Below.refl _ _⟩
set_option maxHeartbeats 2000000 in
theorem refEscape_short (s : ByteArray) (k : Nat) (w : World) (hs : s.size ≤ 16777216) (hk : k + 1 < s.size) (hx : shortX s[k + 1] ≠ -1) :
    Calls Tryd.prog 29 #[.string s, .int .i64 k] w (EscPost w k (some (shortX s[k + 1], 1))) := by
  have t0 : decide ((s.size : Int) ≤ (k : Int) + 1) = false := by simp; omega
  have t1 : decide (s.size ≤ k + 1) = false := by simp; omega
  have q1 : (shortX s[k + 1] != -1) = true := by rw [bne_iff_ne]; exact hx
  have S1 := Lib.hid fun w => refShort_any s[k + 1] w
  generalize shortX s[k + 1] = x at *
  clear hx
  go_enter Tryd.func29, Tryd.ntmps29
  go_wp2_with fail
  refine (S1.out _).mono ?_
  rintro e w1 ⟨rfl, rfl⟩
  go_wp2_with fail
  go_ret2
  refine ⟨x, (k : Int) + 1 + 1, rfl, fun a n h => ?_, fun h => (by cases h), Below.refl _ _⟩
  injection h with h
  injection h with h1 h2
  subst h1 h2
  exact ⟨rfl, by omega⟩
theorem num_esc (base : Int) (l : List UInt8) (k j d : Nat) (hj : j = k + 1 + d) : ∃ v e : Int, numX base l j = .tuple #[.int .i64 v, .int .i64 e] ∧ (∀ a n, (match numP base l with | none => none | some (v, n) => some (v, n + d)) = some (a, n) → v = a ∧ e = ((k + 1 + n : Nat) : Int)) ∧ ((match numP base l with | none => none | some (v, n) => some (v, n + d)) = none → v = -1) := by
  refine ⟨_, _, rfl, ?_, ?_⟩
  · intro a n h
    unfold numP at h
    split at h
    · cases h
    · next hm =>
      split at hm
      · next hc =>
        injection hm with hm
        injection hm with h1 h2
        injection h with h
        injection h with h3 h4
        subst h1 h2 h3 h4 hj
        rw [if_pos hc]
        exact ⟨rfl, by omega⟩
      · cases hm
  · intro h
    unfold numP at h
    split at h
    · next hm =>
      split at hm
      · cases hm
      · next hc => rw [if_neg hc]
    · cases h
set_option maxHeartbeats 2000000 in
theorem refEscape_oct (s : ByteArray) (k : Nat) (w : World) (hs : s.size ≤ 16777216) (hk : k + 1 < s.size) (h : s[k + 1] = 111) :
    Calls Tryd.prog 29 #[.string s, .int .i64 k] w (EscPost w k (match numP 8 (s.data.toList.drop (k + 2)) with | none => none | some (v, n) => some (v, n + 1))) := by
  have t0 : decide ((s.size : Int) ≤ (k : Int) + 1) = false := by simp; omega
  have t1 : decide (s.size ≤ k + 1) = false := by simp; omega
  have hsx : shortX s[k + 1] = -1 := by rw [h]; decide +kernel
  have S1 := fun w => refShort_any s[k + 1] w
  rw [hsx] at S1
  have S1 := Lib.hid S1
  have z94 := (u8K s[k + 1] 94 94 rfl (by decide)).2 (by rw [h]; decide)
  have z111 := (u8K s[k + 1] 111 111 rfl (by decide)).1 h
  have N1 := fun w => refNumber_any s (k + 2) 8 w hs (by omega) (by omega)
  obtain ⟨v, e, hx, h1, h2⟩ := num_esc 8 (s.data.toList.drop (k + 2)) k (k + 2) 1 rfl
  rw [hx] at N1
  rw [show ((k + 2 : Nat) : Int) = (k : Int) + 1 + 1 from by omega] at N1
  have N1 := Lib.hid N1
  have H1 := Lib.hid h1
  have H2 := Lib.hid h2
  clear hx h1 h2 h hsx
  generalize (match numP 8 (s.data.toList.drop (k + 2)) with | none => none | some (v, n) => some (v, n + 1)) = R at *
  go_enter Tryd.func29, Tryd.ntmps29
  go_wp2_with fail
  refine (S1.out _).mono ?_
  rintro e w1 ⟨rfl, rfl⟩
  go_wp2_with fail
  refine (N1.out _).mono ?_
  rintro e w1 ⟨rfl, rfl⟩
  go_wp2_with fail
  go_ret2
  exact ⟨v, _, rfl, H1.out, H2.out, Below.refl _ _⟩
set_option maxHeartbeats 2000000 in
theorem refEscape_hex (s : ByteArray) (k : Nat) (w : World) (hs : s.size ≤ 16777216) (hk : k + 1 < s.size) (h : s[k + 1] = 120) :
    Calls Tryd.prog 29 #[.string s, .int .i64 k] w (EscPost w k (match numP 16 (s.data.toList.drop (k + 2)) with | none => none | some (v, n) => some (v, n + 1))) := by
  have t0 : decide ((s.size : Int) ≤ (k : Int) + 1) = false := by simp; omega
  have t1 : decide (s.size ≤ k + 1) = false := by simp; omega
  have hsx : shortX s[k + 1] = -1 := by rw [h]; decide +kernel
  have S1 := fun w => refShort_any s[k + 1] w
  rw [hsx] at S1
  have S1 := Lib.hid S1
  have z94 := (u8K s[k + 1] 94 94 rfl (by decide)).2 (by rw [h]; decide)
  have z111 := (u8K s[k + 1] 111 111 rfl (by decide)).2 (by rw [h]; decide)
  have z120 := (u8K s[k + 1] 120 120 rfl (by decide)).1 h
  have N1 := fun w => refNumber_any s (k + 2) 16 w hs (by omega) (by omega)
  obtain ⟨v, e, hx, h1, h2⟩ := num_esc 16 (s.data.toList.drop (k + 2)) k (k + 2) 1 rfl
  rw [hx] at N1
  rw [show ((k + 2 : Nat) : Int) = (k : Int) + 1 + 1 from by omega] at N1
  have N1 := Lib.hid N1
  have H1 := Lib.hid h1
  have H2 := Lib.hid h2
  clear hx h1 h2 h hsx
  generalize (match numP 16 (s.data.toList.drop (k + 2)) with | none => none | some (v, n) => some (v, n + 1)) = R at *
  go_enter Tryd.func29, Tryd.ntmps29
  go_wp2_with fail
  refine (S1.out _).mono ?_
  rintro e w1 ⟨rfl, rfl⟩
  go_wp2_with fail
  refine (N1.out _).mono ?_
  rintro e w1 ⟨rfl, rfl⟩
  go_wp2_with fail
  go_ret2
  exact ⟨v, _, rfl, H1.out, H2.out, Below.refl _ _⟩
theorem num_esc0 (base : Int) (l : List UInt8) (k : Nat) : ∃ v e : Int, numX base l (k + 1) = .tuple #[.int .i64 v, .int .i64 e] ∧ (∀ a n, numP base l = some (a, n) → v = a ∧ e = ((k + 1 + n : Nat) : Int)) ∧ (numP base l = none → v = -1) := by
  obtain ⟨v, e, h0, h1, h2⟩ := num_esc base l k (k + 1) 0 rfl
  refine ⟨v, e, h0, fun a n h => h1 a n (by rw [h]; rfl), fun h => h2 (by rw [h])⟩
theorem short_digit (c : UInt8) (h : 48 ≤ c.toNat ∧ c.toNat ≤ 57) : shortX c = -1 := by
  have hall : ∀ n : Fin 256, 48 ≤ n.val ∧ n.val ≤ 57 → shortX (UInt8.ofNat n.val) = -1 := by decide +kernel
  have := hall ⟨c.toNat, c.toNat_lt⟩ h
  simp only [UInt8.ofNat_toNat] at this
  exact this
set_option maxHeartbeats 2000000 in
theorem refEscape_dec (s : ByteArray) (k : Nat) (w : World) (hs : s.size ≤ 16777216) (hk : k + 1 < s.size) (h : 48 ≤ s[k + 1].toNat ∧ s[k + 1].toNat ≤ 57) :
    Calls Tryd.prog 29 #[.string s, .int .i64 k] w (EscPost w k (numP 10 (s.data.toList.drop (k + 1)))) := by
  have t0 : decide ((s.size : Int) ≤ (k : Int) + 1) = false := by simp; omega
  have t1 : decide (s.size ≤ k + 1) = false := by simp; omega
  have S1 := fun w => refShort_any s[k + 1] w
  rw [short_digit _ h] at S1
  have S1 := Lib.hid S1
  have z94 : ((s[k + 1].toNat : Int) == 94) = false := beq_eq_false_iff_ne.2 (by omega)
  have z111 : ((s[k + 1].toNat : Int) == 111) = false := beq_eq_false_iff_ne.2 (by omega)
  have z120 : ((s[k + 1].toNat : Int) == 120) = false := beq_eq_false_iff_ne.2 (by omega)
  have y1 : decide ((48 : Int) ≤ s[k + 1].toNat) = true := by rw [decide_eq_true_iff]; omega
  have y2 : decide ((s[k + 1].toNat : Int) ≤ 57) = true := by rw [decide_eq_true_iff]; omega
  have y3 : decide (48 ≤ s[k + 1].toNat) = true := by rw [decide_eq_true_iff]; omega
  have y4 : decide (s[k + 1].toNat ≤ 57) = true := by rw [decide_eq_true_iff]; omega
  have N1 := fun w => refNumber_any s (k + 1) 10 w hs (by omega) (by omega)
  obtain ⟨v, e, hx, h1, h2⟩ := num_esc0 10 (s.data.toList.drop (k + 1)) k
  rw [hx] at N1
  rw [show ((k + 1 : Nat) : Int) = (k : Int) + 1 from by omega] at N1
  have N1 := Lib.hid N1
  have H1 := Lib.hid h1
  have H2 := Lib.hid h2
  clear hx h1 h2 h
  generalize numP 10 (s.data.toList.drop (k + 1)) = R at *
  go_enter Tryd.func29, Tryd.ntmps29
  go_wp2_with fail
  refine (S1.out _).mono ?_
  rintro e w1 ⟨rfl, rfl⟩
  go_wp2_with fail
  refine (N1.out _).mono ?_
  rintro e w1 ⟨rfl, rfl⟩
  go_wp2_with fail
  go_ret2
  exact ⟨v, _, rfl, H1.out, H2.out, Below.refl _ _⟩
set_option maxHeartbeats 2000000 in
theorem refEscape_caretA (s : ByteArray) (k : Nat) (w : World) (hs : s.size ≤ 16777216) (hk : k + 2 < s.size) (h : s[k + 1] = 94) (h2 : 64 ≤ s[k + 2].toNat ∧ s[k + 2].toNat ≤ 95) :
    Calls Tryd.prog 29 #[.string s, .int .i64 k] w (EscPost w k (some ((s[k + 2].toNat : Int) - 64, 2))) := by
  have t0 : decide ((s.size : Int) ≤ (k : Int) + 1) = false := by simp; omega
  have t1 : decide (s.size ≤ k + 1) = false := by simp; omega
  have hsx : shortX s[k + 1] = -1 := by rw [h]; decide +kernel
  have S1 := fun w => refShort_any s[k + 1] w
  rw [hsx] at S1
  have S1 := Lib.hid S1
  have z94 := (u8K s[k + 1] 94 94 rfl (by decide)).1 h
  have t2 : decide ((k : Int) + 1 + 1 < s.size) = true := by simp; omega
  have t3 : decide (k + 1 + 1 < s.size) = true := by simp; omega
  have y1 : decide ((64 : Int) ≤ s[k + 2].toNat) = true := by rw [decide_eq_true_iff]; omega
  have y2 : decide ((s[k + 2].toNat : Int) ≤ 95) = true := by rw [decide_eq_true_iff]; omega
  have y3 : decide (64 ≤ s[k + 2].toNat) = true := by rw [decide_eq_true_iff]; omega
  have y4 : decide (s[k + 2].toNat ≤ 95) = true := by rw [decide_eq_true_iff]; omega
  have hwr := wrap64_u8 s[k + 2]
  clear h hsx
  go_enter Tryd.func29, Tryd.ntmps29
  go_wp2_with fail
  refine (S1.out _).mono ?_
  rintro e w1 ⟨rfl, rfl⟩
  go_wp2_with fail
  go_ret2
  refine ⟨(s[k + 2].toNat : Int) - 64, (k : Int) + 1 + 2, rfl, fun a n h => ?_, fun h => (by cases h), Below.refl _ _⟩
  injection h with h
  injection h with h1 h2
  subst h1 h2
  exact ⟨rfl, by omega⟩
set_option maxHeartbeats 2000000 in
theorem refEscape_caretB (s : ByteArray) (k : Nat) (w : World) (hs : s.size ≤ 16777216) (hk : k + 1 < s.size) (h : s[k + 1] = 94) (h2 : ∀ (hl : k + 2 < s.size), s[k + 2].toNat < 64 ∨ 95 < s[k + 2].toNat) :
    Calls Tryd.prog 29 #[.string s, .int .i64 k] w (EscPost w k none) := by
  have t0 : decide ((s.size : Int) ≤ (k : Int) + 1) = false := by simp; omega
  have t1 : decide (s.size ≤ k + 1) = false := by simp; omega
  have hsx : shortX s[k + 1] = -1 := by rw [h]; decide +kernel
  have S1 := fun w => refShort_any s[k + 1] w
  rw [hsx] at S1
  have S1 := Lib.hid S1
  have z94 := (u8K s[k + 1] 94 94 rfl (by decide)).1 h
  by_cases hl : k + 2 < s.size
  · have t2 : decide ((k : Int) + 1 + 1 < s.size) = true := by simp; omega
    have t3 : decide (k + 1 + 1 < s.size) = true := by simp; omega
    rcases h2 hl with h3 | h3
    · have y1 : decide ((64 : Int) ≤ s[k + 2].toNat) = false := by rw [decide_eq_false_iff_not]; omega
      have y3 : decide (64 ≤ s[k + 2].toNat) = false := by rw [decide_eq_false_iff_not]; omega
      clear h2 h3
      clear h hsx
      go_enter Tryd.func29, Tryd.ntmps29
      go_wp2_with fail
      refine (S1.out _).mono ?_
      rintro e w1 ⟨rfl, rfl⟩
      go_wp2_with fail
      go_ret2
      exact ⟨-1, _, rfl, fun a n h => (by cases h), fun _ => rfl, Below.refl _ _⟩
    · have y1 : decide ((64 : Int) ≤ s[k + 2].toNat) = true := by rw [decide_eq_true_iff]; omega
      have y3 : decide (64 ≤ s[k + 2].toNat) = true := by rw [decide_eq_true_iff]; omega
      have y2 : decide ((s[k + 2].toNat : Int) ≤ 95) = false := by rw [decide_eq_false_iff_not]; omega
      have y4 : decide (s[k + 2].toNat ≤ 95) = false := by rw [decide_eq_false_iff_not]; omega
      clear h2 h3
      clear h hsx
      go_enter Tryd.func29, Tryd.ntmps29
      go_wp2_with fail
      refine (S1.out _).mono ?_
      rintro e w1 ⟨rfl, rfl⟩
      go_wp2_with fail
      go_ret2
      exact ⟨-1, _, rfl, fun a n h => (by cases h), fun _ => rfl, Below.refl _ _⟩
  · have t2 : decide ((k : Int) + 1 + 1 < s.size) = false := by simp; omega
    have t3 : decide (k + 1 + 1 < s.size) = false := by simp; omega
    clear h2 hl
    clear h hsx
    go_enter Tryd.func29, Tryd.ntmps29
    go_wp2_with fail
    refine (S1.out _).mono ?_
    rintro e w1 ⟨rfl, rfl⟩
    go_wp2_with fail
    go_ret2
    exact ⟨-1, _, rfl, fun a n h => (by cases h), fun _ => rfl, Below.refl _ _⟩
end Go.Proofs.YtmgnpgbganjgfaaDoor

namespace Go.Proofs.YtmgnpgbganjgfaaDoor
open Go.RowKit

theorem short_other (c : UInt8) (h : signP c = none) (h2 : c ≠ 38) : shortX c = -1 := by unfold shortX; rw [h]; simp only; rw [if_neg h2]
set_option maxRecDepth 20000 in
set_option maxHeartbeats 4000000 in
theorem refEscape_names (s : ByteArray) (k : Nat) (w : World) (hs : s.size ≤ 16777216) (hk : k + 1 < s.size) (h0 : shortX s[k + 1] = -1) (h94 : s[k + 1] ≠ 94) (h111 : s[k + 1] ≠ 111) (h120 : s[k + 1] ≠ 120) (hd : s[k + 1].toNat < 48 ∨ 57 < s[k + 1].toNat) :
    Calls Tryd.prog 29 #[.string s, .int .i64 k] w (EscPost w k (if 0 < (nameP (s.data.toList.drop (k + 1))).2 then some (((nameP (s.data.toList.drop (k + 1))).1 : Int), (nameP (s.data.toList.drop (k + 1))).2) else none)) := by
  have t0 : decide ((s.size : Int) ≤ (k : Int) + 1) = false := by simp; omega
  have t1 : decide (s.size ≤ k + 1) = false := by simp; omega
  have S1 := fun w => refShort_any s[k + 1] w
  rw [h0] at S1
  have S1 := Lib.hid S1
  have z94 := (u8K s[k + 1] 94 94 rfl (by decide)).2 h94
  have z111 := (u8K s[k + 1] 111 111 rfl (by decide)).2 h111
  have z120 := (u8K s[k + 1] 120 120 rfl (by decide)).2 h120
  obtain ⟨R, hR⟩ : ∃ R, nameF (s.data.toList.drop (k + 1)) namesL 0 (0, 0) = R := ⟨_, rfl⟩
  unfold nameP
  rw [hR]
  have HR := Lib.hid hR
  have B1 := Lib.hid fun (x : ByteArray) (w : World) (hx : x.size ≤ 16777216) => refBegins_any s (k + 1) x w hs (by omega) hx
  have HNC := Lib.hid (show ∀ (j : Nat) (h : j < namesL.length), namesC[j]? = some (.string ⟨(namesL[j]).toArray⟩) from fun j h => namesC_at j h)
  have HNL := Lib.hid (show namesL.length = 34 from rfl)
  have HN3 := Lib.hid (show ∀ w ∈ namesL, 0 < w.length ∧ w.length ≤ 3 by decide +kernel)
  clear hR h0 h94 h111 h120
  generalize namesL = N at *
  generalize hV : (if 0 < (if R.1 = 33 then ((127, R.2) : Nat × Nat) else R).2 then some (((if R.1 = 33 then ((127, R.2) : Nat × Nat) else R).1 : Int), (if R.1 = 33 then ((127, R.2) : Nat × Nat) else R).2) else none : Option (Int × Nat)) = V
  have HV := Lib.hid hV
  clear hV
  have hcs : ((decide ((48 : Int) ≤ s[k + 1].toNat) = false ∧ decide (48 ≤ s[k + 1].toNat) = false) ∨ ((decide ((48 : Int) ≤ s[k + 1].toNat) = true ∧ decide (48 ≤ s[k + 1].toNat) = true) ∧ decide ((s[k + 1].toNat : Int) ≤ 57) = false ∧ decide (s[k + 1].toNat ≤ 57) = false)) := by
    rcases hd with h | h
    · exact .inl ⟨by rw [decide_eq_false_iff_not]; omega, by rw [decide_eq_false_iff_not]; omega⟩
    · exact .inr ⟨⟨by rw [decide_eq_true_iff]; omega, by rw [decide_eq_true_iff]; omega⟩, by rw [decide_eq_false_iff_not]; omega, by rw [decide_eq_false_iff_not]; omega⟩
  clear hd
  rcases hcs with ⟨y1, y2⟩ | ⟨⟨y1, y2⟩, y3, y4⟩
  · go_enter Tryd.func29, Tryd.ntmps29
    go_wp2_with fail
    refine (S1.out _).mono ?_
    rintro e w1 ⟨rfl, rfl⟩
    go_wp2_with fail
    refine (refNames_any _).mono ?_
    rintro e w2 ⟨rfl, rfl⟩
    have HB := Lib.hid ((Below.refl w.heap.size w).alloc (Nat.le_refl _) (.cells namesC 9))
    have HC := Lib.hid (show ∀ j, (w.alloc (.cells namesC 9)).cell? ⟨w.heap.size, j, none⟩ = namesC[j]? from fun j => World.cell?_alloc_new _ _ _ _)
    generalize w.alloc (.cells namesC 9) = w1 at *
    go_wp2_with fail
    go_loop [8, 9, 11] (fun bv vv jv => ∃ (j c n : Nat), bv = .int .i64 (n : Int) ∧ vv = .int .i64 (if n = 0 then -1 else (c : Int)) ∧ jv = .int .i64 (j : Int) ∧ j ≤ 34 ∧ n ≤ 3 ∧ c ≤ 33 ∧ nameF (s.data.toList.drop (k + 1)) (N.drop j) j (c, n) = R) (fun _ _ jv => 34 - (intOf jv).toNat)
    case atStart => exact ⟨0, 0, 0, rfl, rfl, rfl, by omega, by omega, by omega, HR.out⟩
    case round =>
      obtain ⟨j, c, n, rfl, rfl, rfl, hj, hn, hc, hF⟩ := hrel
      have HF := Lib.hid hF
      clear hF
      obtain ⟨V0, hV0⟩ : ∃ V0 : Int, V0 = if n = 0 then -1 else (c : Int) := ⟨_, rfl⟩
      rw [← hV0]
      have HV0 := Lib.hid hV0
      clear hV0
      by_cases hj34 : j < 34
      · have hjl : j < N.length := by rw [HNL.out]; exact hj34
        have hcell := HC.out j
        rw [HNC.out j hjl] at hcell
        have hst := HF.out
        rw [List.drop_eq_getElem_cons hjl, nameF_cons] at hst
        have hw3 := HN3.out _ (List.getElem_mem hjl)
        generalize N[j] = x at *
        have hxs : (⟨x.toArray⟩ : ByteArray).size = x.length := by simp only [ByteArray.size, List.size_toArray]
        have p1 := fun w => B1.out ⟨x.toArray⟩ w (by rw [hxs]; omega)
        rw [show (⟨x.toArray⟩ : ByteArray).data.toList = x from rfl, show ((k + 1 : Nat) : Int) = (k : Int) + 1 from by omega] at p1
        generalize x.isPrefixOf (s.data.toList.drop (k + 1)) = q at *
        generalize (⟨x.toArray⟩ : ByteArray) = X at *
        have PP := Lib.hid p1
        have HST := Lib.hid hst
        clear hst p1
        cases q with
        | true =>
          by_cases hlen : n < x.length
          · have t2 : decide ((n : Int) < (X.size : Int)) = true := by rw [hxs]; simp; omega
            have t3 : decide (n < X.size) = true := by rw [hxs]; simp; omega
            have hst := HST.out
            rw [if_pos ⟨hlen, rfl⟩] at hst
            have HS2 := Lib.hid hst
            clear hst
            go_wp2_with (go_at_call 39; refine (PP.out _).mono ?_; rintro e w2 ⟨rfl, rfl⟩)
            go_round
            case rel => exact ⟨j + 1, j, x.length, by first | rfl | go_num | rw [hxs], by rw [if_neg (by omega)], by go_num, by omega, hw3.2, by omega, HS2.out⟩
            case measure => simp [intOf]; omega
          · have t2 : decide ((n : Int) < (X.size : Int)) = false := by rw [hxs]; simp; omega
            have t3 : decide (n < X.size) = false := by rw [hxs]; simp; omega
            have hst := HST.out
            rw [if_neg (fun h => hlen h.1)] at hst
            have HS2 := Lib.hid hst
            clear hst
            go_wp2_with (go_at_call 39; refine (PP.out _).mono ?_; rintro e w2 ⟨rfl, rfl⟩)
            go_round
            case rel => exact ⟨j + 1, c, n, by go_num, by rw [HV0.out], by go_num, by omega, hn, hc, HS2.out⟩
            case measure => simp [intOf]; omega
        | false =>
          have hst := HST.out
          rw [if_neg (by simp)] at hst
          have HS2 := Lib.hid hst
          clear hst
          go_wp2_with (go_at_call 39; refine (PP.out _).mono ?_; rintro e w2 ⟨rfl, rfl⟩)
          go_round
          case rel => exact ⟨j + 1, c, n, by go_num, by rw [HV0.out], by go_num, by omega, hn, hc, HS2.out⟩
          case measure => simp [intOf]; omega
      · have hj' : j = 34 := by omega
        have hfin := HF.out
        rw [show N.drop j = [] from List.drop_of_length_le (by rw [HNL.out]; omega)] at hfin
        have hfin : (c, n) = R := hfin
        have HFI := Lib.hid hfin
        clear hfin hj'
        by_cases h33 : V0 = 33
        · have q1 : (V0 == 33) = true := beq_iff_eq.2 h33
          have HE := Lib.hid h33
          clear h33
          go_wp2_with fail
          go_ret2
          have hc33 : n ≠ 0 ∧ c = 33 := by
            have h1 := HV0.out; have h2 := HE.out
            rw [h2] at h1
            split at h1 <;> omega
          refine ⟨127, _, rfl, fun a m h => ?_, fun h => ?_, HB.out⟩
          · rw [← HV.out, ← HFI.out, if_pos hc33.2, if_pos (by show 0 < n; omega)] at h
            injection h with h
            injection h with h1 h2
            subst h1 h2
            exact ⟨rfl, by omega⟩
          · rw [← HV.out, ← HFI.out, if_pos hc33.2, if_pos (by show 0 < n; omega)] at h
            cases h
        · have q1 : (V0 == 33) = false := beq_eq_false_iff_ne.2 h33
          have HE := Lib.hid h33
          clear h33
          go_wp2_with fail
          go_ret2
          refine ⟨V0, _, rfl, fun a m h => ?_, fun h => ?_, HB.out⟩
          · rw [← HV.out, ← HFI.out] at h
            by_cases hn0 : n = 0
            · subst hn0
              have hp : ¬ 0 < (if (c, 0).1 = 33 then ((127, (c, 0).2) : Nat × Nat) else (c, 0)).2 := by
                by_cases e : c = 33
                · rw [if_pos e]; simp
                · rw [if_neg e]; simp
              rw [if_neg hp] at h
              cases h
            · have h1 := HV0.out
              rw [if_neg hn0] at h1
              have hc33 : c ≠ 33 := fun e => HE.out (by rw [h1, e]; rfl)
              rw [if_neg hc33, if_pos (by show 0 < n; omega)] at h
              injection h with h
              injection h with h2 h3
              subst h2 h3
              exact ⟨h1, by omega⟩
          · rw [← HV.out, ← HFI.out] at h
            by_cases hn0 : n = 0
            · have h1 := HV0.out
              rwa [if_pos hn0] at h1
            · exfalso
              have hp : 0 < (if (c, n).1 = 33 then ((127, (c, n).2) : Nat × Nat) else (c, n)).2 := by
                by_cases e : c = 33
                · rw [if_pos e]; show 0 < n; omega
                · rw [if_neg e]; show 0 < n; omega
              rw [if_pos hp] at h
              cases h
  · go_enter Tryd.func29, Tryd.ntmps29
    go_wp2_with fail
    refine (S1.out _).mono ?_
    rintro e w1 ⟨rfl, rfl⟩
    go_wp2_with fail
    refine (refNames_any _).mono ?_
    rintro e w2 ⟨rfl, rfl⟩
    have HB := Lib.hid ((Below.refl w.heap.size w).alloc (Nat.le_refl _) (.cells namesC 9))
    have HC := Lib.hid (show ∀ j, (w.alloc (.cells namesC 9)).cell? ⟨w.heap.size, j, none⟩ = namesC[j]? from fun j => World.cell?_alloc_new _ _ _ _)
    generalize w.alloc (.cells namesC 9) = w1 at *
    go_wp2_with fail
    go_loop [8, 9, 11] (fun bv vv jv => ∃ (j c n : Nat), bv = .int .i64 (n : Int) ∧ vv = .int .i64 (if n = 0 then -1 else (c : Int)) ∧ jv = .int .i64 (j : Int) ∧ j ≤ 34 ∧ n ≤ 3 ∧ c ≤ 33 ∧ nameF (s.data.toList.drop (k + 1)) (N.drop j) j (c, n) = R) (fun _ _ jv => 34 - (intOf jv).toNat)
    case atStart => exact ⟨0, 0, 0, rfl, rfl, rfl, by omega, by omega, by omega, HR.out⟩
    case round =>
      obtain ⟨j, c, n, rfl, rfl, rfl, hj, hn, hc, hF⟩ := hrel
      have HF := Lib.hid hF
      clear hF
      obtain ⟨V0, hV0⟩ : ∃ V0 : Int, V0 = if n = 0 then -1 else (c : Int) := ⟨_, rfl⟩
      rw [← hV0]
      have HV0 := Lib.hid hV0
      clear hV0
      by_cases hj34 : j < 34
      · have hjl : j < N.length := by rw [HNL.out]; exact hj34
        have hcell := HC.out j
        rw [HNC.out j hjl] at hcell
        have hst := HF.out
        rw [List.drop_eq_getElem_cons hjl, nameF_cons] at hst
        have hw3 := HN3.out _ (List.getElem_mem hjl)
        generalize N[j] = x at *
        have hxs : (⟨x.toArray⟩ : ByteArray).size = x.length := by simp only [ByteArray.size, List.size_toArray]
        have p1 := fun w => B1.out ⟨x.toArray⟩ w (by rw [hxs]; omega)
        rw [show (⟨x.toArray⟩ : ByteArray).data.toList = x from rfl, show ((k + 1 : Nat) : Int) = (k : Int) + 1 from by omega] at p1
        generalize x.isPrefixOf (s.data.toList.drop (k + 1)) = q at *
        generalize (⟨x.toArray⟩ : ByteArray) = X at *
        have PP := Lib.hid p1
        have HST := Lib.hid hst
        clear hst p1
        cases q with
        | true =>
          by_cases hlen : n < x.length
          · have t2 : decide ((n : Int) < (X.size : Int)) = true := by rw [hxs]; simp; omega
            have t3 : decide (n < X.size) = true := by rw [hxs]; simp; omega
            have hst := HST.out
            rw [if_pos ⟨hlen, rfl⟩] at hst
            have HS2 := Lib.hid hst
            clear hst
            go_wp2_with (go_at_call 39; refine (PP.out _).mono ?_; rintro e w2 ⟨rfl, rfl⟩)
            go_round
            case rel => exact ⟨j + 1, j, x.length, by first | rfl | go_num | rw [hxs], by rw [if_neg (by omega)], by go_num, by omega, hw3.2, by omega, HS2.out⟩
            case measure => simp [intOf]; omega
          · have t2 : decide ((n : Int) < (X.size : Int)) = false := by rw [hxs]; simp; omega
            have t3 : decide (n < X.size) = false := by rw [hxs]; simp; omega
            have hst := HST.out
            rw [if_neg (fun h => hlen h.1)] at hst
            have HS2 := Lib.hid hst
            clear hst
            go_wp2_with (go_at_call 39; refine (PP.out _).mono ?_; rintro e w2 ⟨rfl, rfl⟩)
            go_round
            case rel => exact ⟨j + 1, c, n, by go_num, by rw [HV0.out], by go_num, by omega, hn, hc, HS2.out⟩
            case measure => simp [intOf]; omega
        | false =>
          have hst := HST.out
          rw [if_neg (by simp)] at hst
          have HS2 := Lib.hid hst
          clear hst
          go_wp2_with (go_at_call 39; refine (PP.out _).mono ?_; rintro e w2 ⟨rfl, rfl⟩)
          go_round
          case rel => exact ⟨j + 1, c, n, by go_num, by rw [HV0.out], by go_num, by omega, hn, hc, HS2.out⟩
          case measure => simp [intOf]; omega
      · have hj' : j = 34 := by omega
        have hfin := HF.out
        rw [show N.drop j = [] from List.drop_of_length_le (by rw [HNL.out]; omega)] at hfin
        have hfin : (c, n) = R := hfin
        have HFI := Lib.hid hfin
        clear hfin hj'
        by_cases h33 : V0 = 33
        · have q1 : (V0 == 33) = true := beq_iff_eq.2 h33
          have HE := Lib.hid h33
          clear h33
          go_wp2_with fail
          go_ret2
          have hc33 : n ≠ 0 ∧ c = 33 := by
            have h1 := HV0.out; have h2 := HE.out
            rw [h2] at h1
            split at h1 <;> omega
          refine ⟨127, _, rfl, fun a m h => ?_, fun h => ?_, HB.out⟩
          · rw [← HV.out, ← HFI.out, if_pos hc33.2, if_pos (by show 0 < n; omega)] at h
            injection h with h
            injection h with h1 h2
            subst h1 h2
            exact ⟨rfl, by omega⟩
          · rw [← HV.out, ← HFI.out, if_pos hc33.2, if_pos (by show 0 < n; omega)] at h
            cases h
        · have q1 : (V0 == 33) = false := beq_eq_false_iff_ne.2 h33
          have HE := Lib.hid h33
          clear h33
          go_wp2_with fail
          go_ret2
          refine ⟨V0, _, rfl, fun a m h => ?_, fun h => ?_, HB.out⟩
          · rw [← HV.out, ← HFI.out] at h
            by_cases hn0 : n = 0
            · subst hn0
              have hp : ¬ 0 < (if (c, 0).1 = 33 then ((127, (c, 0).2) : Nat × Nat) else (c, 0)).2 := by
                by_cases e : c = 33
                · rw [if_pos e]; simp
                · rw [if_neg e]; simp
              rw [if_neg hp] at h
              cases h
            · have h1 := HV0.out
              rw [if_neg hn0] at h1
              have hc33 : c ≠ 33 := fun e => HE.out (by rw [h1, e]; rfl)
              rw [if_neg hc33, if_pos (by show 0 < n; omega)] at h
              injection h with h
              injection h with h2 h3
              subst h2 h3
              exact ⟨h1, by omega⟩
          · rw [← HV.out, ← HFI.out] at h
            by_cases hn0 : n = 0
            · have h1 := HV0.out
              rwa [if_pos hn0] at h1
            · exfalso
              have hp : 0 < (if (c, n).1 = 33 then ((127, (c, n).2) : Nat × Nat) else (c, n)).2 := by
                by_cases e : c = 33
                · rw [if_pos e]; show 0 < n; omega
                · rw [if_neg e]; show 0 < n; omega
              rw [if_pos hp] at h
              cases h
end Go.Proofs.YtmgnpgbganjgfaaDoor

namespace Go.Proofs.YtmgnpgbganjgfaaDoor
open Go.RowKit

theorem refEscape_any (s : ByteArray) (k : Nat) (w : World) (hs : s.size ≤ 16777216) (hk : k < s.size) :
    Calls Tryd.prog 29 #[.string s, .int .i64 k] w (EscPost w k (escP (s.data.toList.drop (k + 1)))) := by
  by_cases h1 : k + 1 < s.size
  · have hl : k + 1 < s.data.toList.length := by rw [← Lib.size_eq]; exact h1
    have hg : s.data.toList[k + 1] = s[k + 1] := by
      have := byte_get s (k + 1) h1
      rw [List.getElem?_eq_getElem hl] at this
      exact Option.some.inj this
    have hdr : s.data.toList.drop (k + 1) = s[k + 1] :: s.data.toList.drop (k + 2) := by rw [List.drop_eq_getElem_cons hl, hg]
    by_cases h0 : shortX s[k + 1] = -1
    · obtain ⟨hn, h38⟩ := shortX_not _ [] h0
      by_cases h94 : s[k + 1] = 94
      · by_cases h2 : k + 2 < s.size
        · have hl2 : k + 2 < s.data.toList.length := by rw [← Lib.size_eq]; exact h2
          have hg2 : s.data.toList[k + 2] = s[k + 2] := by
            have := byte_get s (k + 2) h2
            rw [List.getElem?_eq_getElem hl2] at this
            exact Option.some.inj this
          rw [hdr, escP_cons, List.drop_eq_getElem_cons hl2, hg2]
          unfold escC
          rw [hn]
          try simp only
          rw [if_neg h38, if_pos h94]
          try simp only
          by_cases h3 : 64 ≤ s[k + 2].toNat ∧ s[k + 2].toNat ≤ 95
          · rw [if_pos h3]; exact refEscape_caretA s k w hs h2 h94 h3
          · rw [if_neg h3]; exact refEscape_caretB s k w hs h1 h94 (fun _ => by omega)
        · rw [hdr, escP_cons, List.drop_of_length_le (by rw [← Lib.size_eq]; omega)]
          unfold escC
          rw [hn]
          try simp only
          rw [if_neg h38, if_pos h94]
          exact refEscape_caretB s k w hs h1 h94 (fun h => absurd h h2)
      · rw [hdr, escP_cons]
        unfold escC
        rw [hn]
        try simp only
        rw [if_neg h38, if_neg h94]
        by_cases h111 : s[k + 1] = 111
        · rw [if_pos h111]; exact refEscape_oct s k w hs h1 h111
        · rw [if_neg h111]
          by_cases h120 : s[k + 1] = 120
          · rw [if_pos h120]; exact refEscape_hex s k w hs h1 h120
          · rw [if_neg h120]
            by_cases hd : 48 ≤ s[k + 1].toNat ∧ s[k + 1].toNat ≤ 57
            · rw [if_pos hd, ← hdr]; exact refEscape_dec s k w hs h1 hd
            · rw [if_neg hd, ← hdr]; exact refEscape_names s k w hs h1 h0 h94 h111 h120 (by omega)
    · rw [hdr, escP_cons, shortX_esc _ _ h0]
      exact refEscape_short s k w hs h1 h0
  · rw [List.drop_of_length_le (by rw [← Lib.size_eq]; omega)]
    exact refEscape_end s k w hs (by omega)
end Go.Proofs.YtmgnpgbganjgfaaDoor

namespace Go.Proofs.YtmgnpgbganjgfaaDoor
open Go.RowKit

/-- What the document's one gives back. -/
def oneV (i : Nat) (R : Except Int (Int × Nat)) : Value :=
  match R with
  | .ok (c, n) => .tuple #[.int .i64 c, .int .i64 ((i + n : Nat) : Int), .int .i64 0]
  | .error e => .tuple #[.int .i64 0, .int .i64 (i : Int), .int .i64 e]
set_option maxHeartbeats 2000000 in
theorem refOne_end (s : ByteArray) (i : Nat) (text : Bool) (w : World) (hs : s.size ≤ 16777216) (hi : i = s.size) :
    Calls Tryd.prog 32 #[.string s, .int .i64 i, .bool text] w fun e w' => e = .returned (oneV i (.error 50)) ∧ Below w.heap.size w w' := by
  have t0 : decide ((s.size : Int) ≤ (i : Int)) = true := by simp; omega
  have t1 : decide (s.size ≤ i) = true := by simp; omega
  clear hi
  go_enter Tryd.func32, Tryd.ntmps32
  go_wp2_with fail
  go_ret3
  exact ⟨rfl, Below.refl _ _⟩
set_option maxHeartbeats 2000000 in
theorem refOne_gap (s : ByteArray) (i : Nat) (w : World) (hs : s.size ≤ 16777216) (hi : i < s.size) (h : s[i] = 92) (hg : 0 < gapX s.data.toList i) :
    Calls Tryd.prog 32 #[.string s, .int .i64 i, .bool true] w fun e w' => e = .returned (.tuple #[.int .i64 (-2), .int .i64 (gapX s.data.toList i : Nat), .int .i64 0]) ∧ Below w.heap.size w w' := by
  have t0 : decide ((s.size : Int) ≤ (i : Int)) = false := by simp; omega
  have t1 : decide (s.size ≤ i) = false := by simp; omega
  have z92 := (u8K s[i] 92 92 rfl (by decide)).1 h
  have G1 := Lib.hid fun w => refGap_any s i w hs hi
  generalize gapX s.data.toList i = g at *
  have t2 : decide ((0 : Int) < g) = true := by simp; omega
  have t3 : decide (0 < g) = true := by simp; omega
  clear h
  go_enter Tryd.func32, Tryd.ntmps32
  go_wp2_with fail
  refine (G1.out _).mono ?_
  rintro e w1 ⟨rfl, q1, rfl⟩
  go_wp2_with fail
  refine (G1.out _).mono ?_
  rintro e w2 ⟨rfl, q2, rfl⟩
  go_wp2_with fail
  go_ret3
  exact ⟨rfl, below_drewN (Below.refl _ _) _⟩
end Go.Proofs.YtmgnpgbganjgfaaDoor

