/- DERIVED. The walk of escape: numbers and names. -/
import Derived.Test.YtmgnpgbganjgfaaDoorQuoteG
set_option linter.unusedSimpArgs false
set_option linter.unusedVariables false
namespace Go.Proofs.YtmgnpgbganjgfaaDoor
open Go.RowKit

theorem sign_digit (c : UInt8) (h : 48 ≤ c.toNat ∧ c.toNat ≤ 57) : signP c = none := by
  have hall : ∀ n : Fin 256, 48 ≤ n.val → n.val ≤ 57 → signP (UInt8.ofNat n.val) = none := by decide +kernel
  have := hall ⟨c.toNat, c.toNat_lt⟩ h.1 h.2
  simpa only [UInt8.ofNat_toNat] using this
set_option maxHeartbeats 4000000 in
theorem escape_oct (W0 : World) (b : Nat) (s : ByteArray) (k : Nat) (text : Bool) (out : List Int) (gaps : List (Nat × Nat)) (vo vg : Value) (w : World) (hs : s.size ≤ 16777216) (hk : k < s.size) (hT : Tabs5 W0) (h : Rd W0 b s k text out gaps vo vg w) (hk1 : k + 1 < s.size) (hc : s[k + 1] = 111) (v : Int) (n : Nat) (hn : numP 8 (s.data.toList.drop (k + 1 + 1)) = some (v, n)) :
    Calls Tryd.prog 49 #[.pointer (some ⟨b, 0, none⟩)] w (Read W0 b s text out gaps k (some (v, k + 1 + 1 + n))) := by
  obtain ⟨c0, c1, c2, c3, c4, hz⟩ := h.cells
  have hz1 := hz 1
  have HR1 := Lib.hid (h.go ((k : Int) + 1))
  have B1 := Lib.hid fun w (h : Rd W0 b s ((k : Int) + 1) text out gaps vo vg w) => byteAt_any W0 b s (k + 1) 0 text out gaps vo vg w hs (by omega) (by omega) (by rw [show ((k + 1 : Nat) : Int) = (k : Int) + 1 from by omega]; exact h)
  have HB := Lib.hid (byteN_at s (k + 1) hk1)
  have S1 := Lib.hid fun w => sign_any s[k + 1] w
  have hsg : signP s[k + 1] = none := by rw [hc]; decide
  rw [hsg] at S1
  clear hsg
  obtain ⟨y38, n38⟩ := u8K s[k + 1] 38 38 rfl (by decide)
  have q38 := n38 (by rw [hc]; decide)
  clear y38 n38
  obtain ⟨y94, n94⟩ := u8K s[k + 1] 94 94 rfl (by decide)
  have q94 := n94 (by rw [hc]; decide)
  clear y94 n94
  obtain ⟨y111, n111⟩ := u8K s[k + 1] 111 111 rfl (by decide)
  have q111 := y111 hc
  clear y111 n111
  clear hc
  have D1 := Lib.hid fun (w : World) (h : Rd W0 b s ((k + 1 : Nat) : Int) text out gaps vo vg w) => digits_any W0 b s (k + 1) 1 k 8 text out gaps vo vg w hs (by omega) (by omega) (by omega) h
  rw [hn] at D1
  unfold Read at D1
  clear h c0 c2 c3 c4 hz
  unfold Read
  go_enter Tryd.func49, Tryd.ntmps49
  go_wp2_with fail
  generalize w.setCell ⟨b, 1, none⟩ (.int .i64 ((k : Int) + 1)) = w1 at *
  refine (B1.out _ HR1.out).mono ?_
  rintro e w2 ⟨rfl, hR2⟩
  have HR2 := Lib.hid hR2
  clear hR2
  simp only [Nat.add_zero, HB.out]
  go_wp2_with fail
  refine (S1.out _).mono ?_
  rintro e w3 ⟨rfl, rfl⟩
  unfold signV
  obtain ⟨c0, c1, c2, _, _, hz⟩ := HR2.out.cells
  have hz1 := hz 1
  clear hz
  generalize (s[k + 1].toNat : Int) = x at *
  go_wp2_with fail
  refine (D1.out _ HR2.out).mono ?_
  rintro e w3 ⟨rfl, vo3, vg3, hR3⟩
  go_wp2_with fail
  go_ret
  exact ⟨rfl, _, _, hR3⟩
set_option maxHeartbeats 4000000 in
theorem escape_oct0 (W0 : World) (b : Nat) (s : ByteArray) (k : Nat) (text : Bool) (out : List Int) (gaps : List (Nat × Nat)) (vo vg : Value) (w : World) (hs : s.size ≤ 16777216) (hk : k < s.size) (hT : Tabs5 W0) (h : Rd W0 b s k text out gaps vo vg w) (hk1 : k + 1 < s.size) (hc : s[k + 1] = 111) (hn : numP 8 (s.data.toList.drop (k + 1 + 1)) = none) :
    Calls Tryd.prog 49 #[.pointer (some ⟨b, 0, none⟩)] w (Read W0 b s text out gaps k none) := by
  obtain ⟨c0, c1, c2, c3, c4, hz⟩ := h.cells
  have hz1 := hz 1
  have HR1 := Lib.hid (h.go ((k : Int) + 1))
  have B1 := Lib.hid fun w (h : Rd W0 b s ((k : Int) + 1) text out gaps vo vg w) => byteAt_any W0 b s (k + 1) 0 text out gaps vo vg w hs (by omega) (by omega) (by rw [show ((k + 1 : Nat) : Int) = (k : Int) + 1 from by omega]; exact h)
  have HB := Lib.hid (byteN_at s (k + 1) hk1)
  have S1 := Lib.hid fun w => sign_any s[k + 1] w
  have hsg : signP s[k + 1] = none := by rw [hc]; decide
  rw [hsg] at S1
  clear hsg
  obtain ⟨y38, n38⟩ := u8K s[k + 1] 38 38 rfl (by decide)
  have q38 := n38 (by rw [hc]; decide)
  clear y38 n38
  obtain ⟨y94, n94⟩ := u8K s[k + 1] 94 94 rfl (by decide)
  have q94 := n94 (by rw [hc]; decide)
  clear y94 n94
  obtain ⟨y111, n111⟩ := u8K s[k + 1] 111 111 rfl (by decide)
  have q111 := y111 hc
  clear y111 n111
  clear hc
  have D1 := Lib.hid fun (w : World) (h : Rd W0 b s ((k + 1 : Nat) : Int) text out gaps vo vg w) => digits_any W0 b s (k + 1) 1 k 8 text out gaps vo vg w hs (by omega) (by omega) (by omega) h
  rw [hn] at D1
  unfold Read at D1
  clear h c0 c2 c3 c4 hz
  unfold Read
  go_enter Tryd.func49, Tryd.ntmps49
  go_wp2_with fail
  generalize w.setCell ⟨b, 1, none⟩ (.int .i64 ((k : Int) + 1)) = w1 at *
  refine (B1.out _ HR1.out).mono ?_
  rintro e w2 ⟨rfl, hR2⟩
  have HR2 := Lib.hid hR2
  clear hR2
  simp only [Nat.add_zero, HB.out]
  go_wp2_with fail
  refine (S1.out _).mono ?_
  rintro e w3 ⟨rfl, rfl⟩
  unfold signV
  obtain ⟨c0, c1, c2, _, _, hz⟩ := HR2.out.cells
  have hz1 := hz 1
  clear hz
  generalize (s[k + 1].toNat : Int) = x at *
  go_wp2_with fail
  refine (D1.out _ HR2.out).mono ?_
  rintro e w3 ⟨rfl, k3, vo3, vg3, hR3⟩
  go_wp2_with fail
  exact ⟨rfl, rfl, _, _, _, hR3⟩
set_option maxHeartbeats 4000000 in
theorem escape_hex (W0 : World) (b : Nat) (s : ByteArray) (k : Nat) (text : Bool) (out : List Int) (gaps : List (Nat × Nat)) (vo vg : Value) (w : World) (hs : s.size ≤ 16777216) (hk : k < s.size) (hT : Tabs5 W0) (h : Rd W0 b s k text out gaps vo vg w) (hk1 : k + 1 < s.size) (hc : s[k + 1] = 120) (v : Int) (n : Nat) (hn : numP 16 (s.data.toList.drop (k + 1 + 1)) = some (v, n)) :
    Calls Tryd.prog 49 #[.pointer (some ⟨b, 0, none⟩)] w (Read W0 b s text out gaps k (some (v, k + 1 + 1 + n))) := by
  obtain ⟨c0, c1, c2, c3, c4, hz⟩ := h.cells
  have hz1 := hz 1
  have HR1 := Lib.hid (h.go ((k : Int) + 1))
  have B1 := Lib.hid fun w (h : Rd W0 b s ((k : Int) + 1) text out gaps vo vg w) => byteAt_any W0 b s (k + 1) 0 text out gaps vo vg w hs (by omega) (by omega) (by rw [show ((k + 1 : Nat) : Int) = (k : Int) + 1 from by omega]; exact h)
  have HB := Lib.hid (byteN_at s (k + 1) hk1)
  have S1 := Lib.hid fun w => sign_any s[k + 1] w
  have hsg : signP s[k + 1] = none := by rw [hc]; decide
  rw [hsg] at S1
  clear hsg
  obtain ⟨y38, n38⟩ := u8K s[k + 1] 38 38 rfl (by decide)
  have q38 := n38 (by rw [hc]; decide)
  clear y38 n38
  obtain ⟨y94, n94⟩ := u8K s[k + 1] 94 94 rfl (by decide)
  have q94 := n94 (by rw [hc]; decide)
  clear y94 n94
  obtain ⟨y111, n111⟩ := u8K s[k + 1] 111 111 rfl (by decide)
  have q111 := n111 (by rw [hc]; decide)
  clear y111 n111
  obtain ⟨y120, n120⟩ := u8K s[k + 1] 120 120 rfl (by decide)
  have q120 := y120 hc
  clear y120 n120
  clear hc
  have D1 := Lib.hid fun (w : World) (h : Rd W0 b s ((k + 1 : Nat) : Int) text out gaps vo vg w) => digits_any W0 b s (k + 1) 1 k 16 text out gaps vo vg w hs (by omega) (by omega) (by omega) h
  rw [hn] at D1
  unfold Read at D1
  clear h c0 c2 c3 c4 hz
  unfold Read
  go_enter Tryd.func49, Tryd.ntmps49
  go_wp2_with fail
  generalize w.setCell ⟨b, 1, none⟩ (.int .i64 ((k : Int) + 1)) = w1 at *
  refine (B1.out _ HR1.out).mono ?_
  rintro e w2 ⟨rfl, hR2⟩
  have HR2 := Lib.hid hR2
  clear hR2
  simp only [Nat.add_zero, HB.out]
  go_wp2_with fail
  refine (S1.out _).mono ?_
  rintro e w3 ⟨rfl, rfl⟩
  unfold signV
  obtain ⟨c0, c1, c2, _, _, hz⟩ := HR2.out.cells
  have hz1 := hz 1
  clear hz
  generalize (s[k + 1].toNat : Int) = x at *
  go_wp2_with fail
  refine (D1.out _ HR2.out).mono ?_
  rintro e w3 ⟨rfl, vo3, vg3, hR3⟩
  go_wp2_with fail
  go_ret
  exact ⟨rfl, _, _, hR3⟩
set_option maxHeartbeats 4000000 in
theorem escape_hex0 (W0 : World) (b : Nat) (s : ByteArray) (k : Nat) (text : Bool) (out : List Int) (gaps : List (Nat × Nat)) (vo vg : Value) (w : World) (hs : s.size ≤ 16777216) (hk : k < s.size) (hT : Tabs5 W0) (h : Rd W0 b s k text out gaps vo vg w) (hk1 : k + 1 < s.size) (hc : s[k + 1] = 120) (hn : numP 16 (s.data.toList.drop (k + 1 + 1)) = none) :
    Calls Tryd.prog 49 #[.pointer (some ⟨b, 0, none⟩)] w (Read W0 b s text out gaps k none) := by
  obtain ⟨c0, c1, c2, c3, c4, hz⟩ := h.cells
  have hz1 := hz 1
  have HR1 := Lib.hid (h.go ((k : Int) + 1))
  have B1 := Lib.hid fun w (h : Rd W0 b s ((k : Int) + 1) text out gaps vo vg w) => byteAt_any W0 b s (k + 1) 0 text out gaps vo vg w hs (by omega) (by omega) (by rw [show ((k + 1 : Nat) : Int) = (k : Int) + 1 from by omega]; exact h)
  have HB := Lib.hid (byteN_at s (k + 1) hk1)
  have S1 := Lib.hid fun w => sign_any s[k + 1] w
  have hsg : signP s[k + 1] = none := by rw [hc]; decide
  rw [hsg] at S1
  clear hsg
  obtain ⟨y38, n38⟩ := u8K s[k + 1] 38 38 rfl (by decide)
  have q38 := n38 (by rw [hc]; decide)
  clear y38 n38
  obtain ⟨y94, n94⟩ := u8K s[k + 1] 94 94 rfl (by decide)
  have q94 := n94 (by rw [hc]; decide)
  clear y94 n94
  obtain ⟨y111, n111⟩ := u8K s[k + 1] 111 111 rfl (by decide)
  have q111 := n111 (by rw [hc]; decide)
  clear y111 n111
  obtain ⟨y120, n120⟩ := u8K s[k + 1] 120 120 rfl (by decide)
  have q120 := y120 hc
  clear y120 n120
  clear hc
  have D1 := Lib.hid fun (w : World) (h : Rd W0 b s ((k + 1 : Nat) : Int) text out gaps vo vg w) => digits_any W0 b s (k + 1) 1 k 16 text out gaps vo vg w hs (by omega) (by omega) (by omega) h
  rw [hn] at D1
  unfold Read at D1
  clear h c0 c2 c3 c4 hz
  unfold Read
  go_enter Tryd.func49, Tryd.ntmps49
  go_wp2_with fail
  generalize w.setCell ⟨b, 1, none⟩ (.int .i64 ((k : Int) + 1)) = w1 at *
  refine (B1.out _ HR1.out).mono ?_
  rintro e w2 ⟨rfl, hR2⟩
  have HR2 := Lib.hid hR2
  clear hR2
  simp only [Nat.add_zero, HB.out]
  go_wp2_with fail
  refine (S1.out _).mono ?_
  rintro e w3 ⟨rfl, rfl⟩
  unfold signV
  obtain ⟨c0, c1, c2, _, _, hz⟩ := HR2.out.cells
  have hz1 := hz 1
  clear hz
  generalize (s[k + 1].toNat : Int) = x at *
  go_wp2_with fail
  refine (D1.out _ HR2.out).mono ?_
  rintro e w3 ⟨rfl, k3, vo3, vg3, hR3⟩
  go_wp2_with fail
  exact ⟨rfl, rfl, _, _, _, hR3⟩
set_option maxHeartbeats 4000000 in
theorem escape_dec (W0 : World) (b : Nat) (s : ByteArray) (k : Nat) (text : Bool) (out : List Int) (gaps : List (Nat × Nat)) (vo vg : Value) (w : World) (hs : s.size ≤ 16777216) (hk : k < s.size) (hT : Tabs5 W0) (h : Rd W0 b s k text out gaps vo vg w) (hk1 : k + 1 < s.size) (hc : 48 ≤ s[k + 1].toNat ∧ s[k + 1].toNat ≤ 57) (v : Int) (n : Nat) (hn : numP 10 (s.data.toList.drop (k + 1)) = some (v, n)) :
    Calls Tryd.prog 49 #[.pointer (some ⟨b, 0, none⟩)] w (Read W0 b s text out gaps k (some (v, k + 1 + n))) := by
  obtain ⟨c0, c1, c2, c3, c4, hz⟩ := h.cells
  have hz1 := hz 1
  have HR1 := Lib.hid (h.go ((k : Int) + 1))
  have B1 := Lib.hid fun w (h : Rd W0 b s ((k : Int) + 1) text out gaps vo vg w) => byteAt_any W0 b s (k + 1) 0 text out gaps vo vg w hs (by omega) (by omega) (by rw [show ((k + 1 : Nat) : Int) = (k : Int) + 1 from by omega]; exact h)
  have HB := Lib.hid (byteN_at s (k + 1) hk1)
  have S1 := Lib.hid fun w => sign_any s[k + 1] w
  have hsg : signP s[k + 1] = none := sign_digit _ hc
  rw [hsg] at S1
  clear hsg
  obtain ⟨y38, n38⟩ := u8K s[k + 1] 38 38 rfl (by decide)
  have q38 := n38 (by intro e; rw [e] at hc; revert hc; decide)
  clear y38 n38
  obtain ⟨y94, n94⟩ := u8K s[k + 1] 94 94 rfl (by decide)
  have q94 := n94 (by intro e; rw [e] at hc; revert hc; decide)
  clear y94 n94
  obtain ⟨y111, n111⟩ := u8K s[k + 1] 111 111 rfl (by decide)
  have q111 := n111 (by intro e; rw [e] at hc; revert hc; decide)
  clear y111 n111
  obtain ⟨y120, n120⟩ := u8K s[k + 1] 120 120 rfl (by decide)
  have q120 := n120 (by intro e; rw [e] at hc; revert hc; decide)
  clear y120 n120
  have d1 : decide (48 ≤ s[k + 1].toNat) = true := decide_eq_true hc.1
  have d2 : decide (s[k + 1].toNat ≤ 57) = true := decide_eq_true hc.2
  have d3 : decide ((48 : Int) ≤ s[k + 1].toNat) = true := decide_eq_true (by omega)
  have d4 : decide ((s[k + 1].toNat : Int) ≤ 57) = true := decide_eq_true (by omega)
  clear hc
  have D1 := Lib.hid fun (w : World) (h : Rd W0 b s ((k + 1 : Nat) : Int) text out gaps vo vg w) => digits_any W0 b s (k + 1) 0 k 10 text out gaps vo vg w hs (by omega) (by omega) (by omega) h
  simp only [Nat.add_zero] at D1
  rw [hn] at D1
  unfold Read at D1
  clear h c0 c2 c3 c4 hz
  unfold Read
  go_enter Tryd.func49, Tryd.ntmps49
  go_wp2_with fail
  generalize w.setCell ⟨b, 1, none⟩ (.int .i64 ((k : Int) + 1)) = w1 at *
  refine (B1.out _ HR1.out).mono ?_
  rintro e w2 ⟨rfl, hR2⟩
  have HR2 := Lib.hid hR2
  clear hR2
  simp only [Nat.add_zero, HB.out]
  go_wp2_with fail
  refine (S1.out _).mono ?_
  rintro e w3 ⟨rfl, rfl⟩
  unfold signV
  obtain ⟨c0, c1, c2, _, _, hz⟩ := HR2.out.cells
  have hz1 := hz 1
  clear hz
  go_wp2_with fail
  refine (D1.out _ HR2.out).mono ?_
  rintro e w3 ⟨rfl, vo3, vg3, hR3⟩
  go_wp2_with fail
  go_ret
  exact ⟨rfl, _, _, hR3⟩
set_option maxHeartbeats 4000000 in
theorem escape_dec0 (W0 : World) (b : Nat) (s : ByteArray) (k : Nat) (text : Bool) (out : List Int) (gaps : List (Nat × Nat)) (vo vg : Value) (w : World) (hs : s.size ≤ 16777216) (hk : k < s.size) (hT : Tabs5 W0) (h : Rd W0 b s k text out gaps vo vg w) (hk1 : k + 1 < s.size) (hc : 48 ≤ s[k + 1].toNat ∧ s[k + 1].toNat ≤ 57) (hn : numP 10 (s.data.toList.drop (k + 1)) = none) :
    Calls Tryd.prog 49 #[.pointer (some ⟨b, 0, none⟩)] w (Read W0 b s text out gaps k none) := by
  obtain ⟨c0, c1, c2, c3, c4, hz⟩ := h.cells
  have hz1 := hz 1
  have HR1 := Lib.hid (h.go ((k : Int) + 1))
  have B1 := Lib.hid fun w (h : Rd W0 b s ((k : Int) + 1) text out gaps vo vg w) => byteAt_any W0 b s (k + 1) 0 text out gaps vo vg w hs (by omega) (by omega) (by rw [show ((k + 1 : Nat) : Int) = (k : Int) + 1 from by omega]; exact h)
  have HB := Lib.hid (byteN_at s (k + 1) hk1)
  have S1 := Lib.hid fun w => sign_any s[k + 1] w
  have hsg : signP s[k + 1] = none := sign_digit _ hc
  rw [hsg] at S1
  clear hsg
  obtain ⟨y38, n38⟩ := u8K s[k + 1] 38 38 rfl (by decide)
  have q38 := n38 (by intro e; rw [e] at hc; revert hc; decide)
  clear y38 n38
  obtain ⟨y94, n94⟩ := u8K s[k + 1] 94 94 rfl (by decide)
  have q94 := n94 (by intro e; rw [e] at hc; revert hc; decide)
  clear y94 n94
  obtain ⟨y111, n111⟩ := u8K s[k + 1] 111 111 rfl (by decide)
  have q111 := n111 (by intro e; rw [e] at hc; revert hc; decide)
  clear y111 n111
  obtain ⟨y120, n120⟩ := u8K s[k + 1] 120 120 rfl (by decide)
  have q120 := n120 (by intro e; rw [e] at hc; revert hc; decide)
  clear y120 n120
  have d1 : decide (48 ≤ s[k + 1].toNat) = true := decide_eq_true hc.1
  have d2 : decide (s[k + 1].toNat ≤ 57) = true := decide_eq_true hc.2
  have d3 : decide ((48 : Int) ≤ s[k + 1].toNat) = true := decide_eq_true (by omega)
  have d4 : decide ((s[k + 1].toNat : Int) ≤ 57) = true := decide_eq_true (by omega)
  clear hc
  have D1 := Lib.hid fun (w : World) (h : Rd W0 b s ((k + 1 : Nat) : Int) text out gaps vo vg w) => digits_any W0 b s (k + 1) 0 k 10 text out gaps vo vg w hs (by omega) (by omega) (by omega) h
  simp only [Nat.add_zero] at D1
  rw [hn] at D1
  unfold Read at D1
  clear h c0 c2 c3 c4 hz
  unfold Read
  go_enter Tryd.func49, Tryd.ntmps49
  go_wp2_with fail
  generalize w.setCell ⟨b, 1, none⟩ (.int .i64 ((k : Int) + 1)) = w1 at *
  refine (B1.out _ HR1.out).mono ?_
  rintro e w2 ⟨rfl, hR2⟩
  have HR2 := Lib.hid hR2
  clear hR2
  simp only [Nat.add_zero, HB.out]
  go_wp2_with fail
  refine (S1.out _).mono ?_
  rintro e w3 ⟨rfl, rfl⟩
  unfold signV
  obtain ⟨c0, c1, c2, _, _, hz⟩ := HR2.out.cells
  have hz1 := hz 1
  clear hz
  go_wp2_with fail
  refine (D1.out _ HR2.out).mono ?_
  rintro e w3 ⟨rfl, k3, vo3, vg3, hR3⟩
  go_wp2_with fail
  exact ⟨rfl, rfl, _, _, _, hR3⟩
set_option maxHeartbeats 4000000 in
theorem escape_names0 (W0 : World) (b : Nat) (s : ByteArray) (k : Nat) (text : Bool) (out : List Int) (gaps : List (Nat × Nat)) (vo vg : Value) (w : World) (hs : s.size ≤ 16777216) (hk : k < s.size) (hT : Tabs5 W0) (h : Rd W0 b s k text out gaps vo vg w) (hk1 : k + 1 < s.size) (hsg : signP s[k + 1] = none) (h38 : s[k + 1] ≠ 38) (h94 : s[k + 1] ≠ 94) (h111 : s[k + 1] ≠ 111) (h120 : s[k + 1] ≠ 120) (hd : ¬ (48 ≤ s[k + 1].toNat ∧ s[k + 1].toNat ≤ 57)) (hn0 : (nameP (s[k + 1] :: s.data.toList.drop (k + 1 + 1))).2 = 0) :
    Calls Tryd.prog 49 #[.pointer (some ⟨b, 0, none⟩)] w (Read W0 b s text out gaps k none) := by
  obtain ⟨c0, c1, c2, c3, c4, hz⟩ := h.cells
  have hz1 := hz 1
  have HR1 := Lib.hid (h.go ((k : Int) + 1))
  have B1 := Lib.hid fun w (h : Rd W0 b s ((k : Int) + 1) text out gaps vo vg w) => byteAt_any W0 b s (k + 1) 0 text out gaps vo vg w hs (by omega) (by omega) (by rw [show ((k + 1 : Nat) : Int) = (k : Int) + 1 from by omega]; exact h)
  have HB := Lib.hid (byteN_at s (k + 1) hk1)
  have S1 := Lib.hid fun w => sign_any s[k + 1] w
  rw [hsg] at S1
  clear hsg
  obtain ⟨y38, n38⟩ := u8K s[k + 1] 38 38 rfl (by decide)
  have q38 := n38 h38
  clear y38 n38
  obtain ⟨y94, n94⟩ := u8K s[k + 1] 94 94 rfl (by decide)
  have q94 := n94 h94
  clear y94 n94
  obtain ⟨y111, n111⟩ := u8K s[k + 1] 111 111 rfl (by decide)
  have q111 := n111 h111
  clear y111 n111
  obtain ⟨y120, n120⟩ := u8K s[k + 1] 120 120 rfl (by decide)
  have q120 := n120 h120
  clear y120 n120
  clear h38 h94 h111 h120
  have b1 : (0 : Int) ≤ (k : Int) + 1 := by omega
  have b2 : (k : Int) + 1 ≤ s.size := by omega
  have b3 : ((k : Int) + 1).toNat = k + 1 := by omega
  have t1 : decide ((k : Int) + 1 < s.size) = true := by simp; omega
  have n1 := fun (w : World) (hT : Tabs5 w) => named_any (s.extract (k + 1) s.size) w (by simp only [ByteArray.size_extract]; omega) hT
  rw [cut_data] at n1
  have HT := Lib.hid hT
  have r0 := fun w' (h : Rd W0 b s ((k : Int) + 1) text out gaps vo vg w') => h.cells.1
  have r1 := fun w' (h : Rd W0 b s ((k : Int) + 1) text out gaps vo vg w') => h.cells.2.1
  rw [drop_at s (k + 1) hk1] at n1
  rw [hn0] at n1
  generalize (nameP (s[k + 1] :: s.data.toList.drop (k + 1 + 1))).1 = nm at *
  have t9 : decide ((0 : Int) < ((0 : Nat) : Int)) = false := by decide
  have N1 := Lib.hid n1
  clear n1 hT
  have hdd : (decide (48 ≤ s[k + 1].toNat) = false ∧ decide ((48 : Int) ≤ s[k + 1].toNat) = false) ∨ (decide (48 ≤ s[k + 1].toNat) = true ∧ decide ((48 : Int) ≤ s[k + 1].toNat) = true ∧ decide (s[k + 1].toNat ≤ 57) = false ∧ decide ((s[k + 1].toNat : Int) ≤ 57) = false) := by
    by_cases h : 48 ≤ s[k + 1].toNat
    · exact .inr ⟨decide_eq_true h, decide_eq_true (by omega), decide_eq_false (by omega), decide_eq_false (by omega)⟩
    · exact .inl ⟨decide_eq_false h, decide_eq_false (by omega)⟩
  clear hd
  rcases hdd with ⟨d1, d2⟩ | ⟨d1, d2, d3, d4⟩
  all_goals
    clear h c0 c2 c3 c4 hz
    unfold Read
    go_enter Tryd.func49, Tryd.ntmps49
    go_wp2_with fail
    generalize w.setCell ⟨b, 1, none⟩ (.int .i64 ((k : Int) + 1)) = w1 at *
    refine (B1.out _ HR1.out).mono ?_
    rintro e w2 ⟨rfl, hR2⟩
    have HR2 := Lib.hid (show Rd W0 b s ((k : Int) + 1) text out gaps vo vg w2 from by rw [show (k : Int) + 1 = ((k + 1 : Nat) : Int) from by omega]; exact hR2)
    clear hR2
    simp only [Nat.add_zero, HB.out]
    go_wp2_with fail
    refine (S1.out _).mono ?_
    rintro e w3 ⟨rfl, rfl⟩
    unfold signV
    obtain ⟨c0, c1, c2, _, _, hz⟩ := HR2.out.cells
    have hz1 := hz 1
    clear hz
    generalize (s[k + 1].toNat : Int) = x at *
    go_wp2_with fail
    go_quiet (fail)
    rename_i nq
    have HRQ := Lib.hid (HR2.out.drew nq)
    generalize w2.drewN nq = w5 at *
    clear c0 c1 c2 hz1
    have HS0 := Lib.hid HRQ.out.drew1
    go_wp2_with fail
    go_region_held3 (fun w' => Rd W0 b s ((k : Int) + 1) text out gaps vo vg w')
      (first
        | with_reducible exact HS1.out
        | with_reducible exact HS0.out)
      (first
        | (go_at_call 61; refine (N1.out _ (HT.out.below0 HS0.out.2.2.1)).mono ?_; rintro e w6 ⟨rfl, hb6⟩; have HS1 := Lib.hid (HS0.out.keep hb6)))
    go_wp2_with fail
    refine (fail_any _ _ _ _).mono ?_
    rintro e w8 ⟨rfl, rfl⟩
    go_wp2_with fail
    exact ⟨rfl, rfl, _, _, _, HS1.out⟩
set_option maxHeartbeats 4000000 in
theorem escape_names (W0 : World) (b : Nat) (s : ByteArray) (k : Nat) (text : Bool) (out : List Int) (gaps : List (Nat × Nat)) (vo vg : Value) (w : World) (hs : s.size ≤ 16777216) (hk : k < s.size) (hT : Tabs5 W0) (h : Rd W0 b s k text out gaps vo vg w) (hk1 : k + 1 < s.size) (hsg : signP s[k + 1] = none) (h38 : s[k + 1] ≠ 38) (h94 : s[k + 1] ≠ 94) (h111 : s[k + 1] ≠ 111) (h120 : s[k + 1] ≠ 120) (hd : ¬ (48 ≤ s[k + 1].toNat ∧ s[k + 1].toNat ≤ 57)) (v n : Nat) (hn0 : nameP (s[k + 1] :: s.data.toList.drop (k + 1 + 1)) = (v, n)) (hnp : 0 < n) :
    Calls Tryd.prog 49 #[.pointer (some ⟨b, 0, none⟩)] w (Read W0 b s text out gaps k (some ((v : Int), k + 1 + n))) := by
  obtain ⟨c0, c1, c2, c3, c4, hz⟩ := h.cells
  have hz1 := hz 1
  have HR1 := Lib.hid (h.go ((k : Int) + 1))
  have B1 := Lib.hid fun w (h : Rd W0 b s ((k : Int) + 1) text out gaps vo vg w) => byteAt_any W0 b s (k + 1) 0 text out gaps vo vg w hs (by omega) (by omega) (by rw [show ((k + 1 : Nat) : Int) = (k : Int) + 1 from by omega]; exact h)
  have HB := Lib.hid (byteN_at s (k + 1) hk1)
  have S1 := Lib.hid fun w => sign_any s[k + 1] w
  rw [hsg] at S1
  clear hsg
  obtain ⟨y38, n38⟩ := u8K s[k + 1] 38 38 rfl (by decide)
  have q38 := n38 h38
  clear y38 n38
  obtain ⟨y94, n94⟩ := u8K s[k + 1] 94 94 rfl (by decide)
  have q94 := n94 h94
  clear y94 n94
  obtain ⟨y111, n111⟩ := u8K s[k + 1] 111 111 rfl (by decide)
  have q111 := n111 h111
  clear y111 n111
  obtain ⟨y120, n120⟩ := u8K s[k + 1] 120 120 rfl (by decide)
  have q120 := n120 h120
  clear y120 n120
  clear h38 h94 h111 h120
  have b1 : (0 : Int) ≤ (k : Int) + 1 := by omega
  have b2 : (k : Int) + 1 ≤ s.size := by omega
  have b3 : ((k : Int) + 1).toNat = k + 1 := by omega
  have t1 : decide ((k : Int) + 1 < s.size) = true := by simp; omega
  have n1 := fun (w : World) (hT : Tabs5 w) => named_any (s.extract (k + 1) s.size) w (by simp only [ByteArray.size_extract]; omega) hT
  rw [cut_data] at n1
  have HT := Lib.hid hT
  have r0 := fun w' (h : Rd W0 b s ((k : Int) + 1) text out gaps vo vg w') => h.cells.1
  have r1 := fun w' (h : Rd W0 b s ((k : Int) + 1) text out gaps vo vg w') => h.cells.2.1
  rw [drop_at s (k + 1) hk1] at n1
  have hnb := nameP_bd (s[k + 1] :: s.data.toList.drop (k + 1 + 1))
  rw [hn0, ← drop_at s (k + 1) hk1, List.length_drop, ← Lib.size_eq] at hnb
  rw [hn0] at n1
  simp only at hnb n1
  have t9 : decide ((0 : Int) < (n : Int)) = true := by simp; omega
  have N1 := Lib.hid n1
  clear n1 hT hn0
  have hdd : (decide (48 ≤ s[k + 1].toNat) = false ∧ decide ((48 : Int) ≤ s[k + 1].toNat) = false) ∨ (decide (48 ≤ s[k + 1].toNat) = true ∧ decide ((48 : Int) ≤ s[k + 1].toNat) = true ∧ decide (s[k + 1].toNat ≤ 57) = false ∧ decide ((s[k + 1].toNat : Int) ≤ 57) = false) := by
    by_cases h : 48 ≤ s[k + 1].toNat
    · exact .inr ⟨decide_eq_true h, decide_eq_true (by omega), decide_eq_false (by omega), decide_eq_false (by omega)⟩
    · exact .inl ⟨decide_eq_false h, decide_eq_false (by omega)⟩
  clear hd
  rcases hdd with ⟨d1, d2⟩ | ⟨d1, d2, d3, d4⟩
  all_goals
    clear h c0 c2 c3 c4 hz
    unfold Read
    go_enter Tryd.func49, Tryd.ntmps49
    go_wp2_with fail
    generalize w.setCell ⟨b, 1, none⟩ (.int .i64 ((k : Int) + 1)) = w1 at *
    refine (B1.out _ HR1.out).mono ?_
    rintro e w2 ⟨rfl, hR2⟩
    have HR2 := Lib.hid (show Rd W0 b s ((k : Int) + 1) text out gaps vo vg w2 from by rw [show (k : Int) + 1 = ((k + 1 : Nat) : Int) from by omega]; exact hR2)
    clear hR2
    simp only [Nat.add_zero, HB.out]
    go_wp2_with fail
    refine (S1.out _).mono ?_
    rintro e w3 ⟨rfl, rfl⟩
    unfold signV
    obtain ⟨c0, c1, c2, _, _, hz⟩ := HR2.out.cells
    have hz1 := hz 1
    clear hz
    generalize (s[k + 1].toNat : Int) = x at *
    go_wp2_with fail
    go_quiet (fail)
    rename_i nq
    have HRQ := Lib.hid (HR2.out.drew nq)
    generalize w2.drewN nq = w5 at *
    clear c0 c1 c2 hz1
    have HS0 := Lib.hid HRQ.out.drew1
    go_wp2_with fail
    go_region_held3 (fun w' => Rd W0 b s ((k : Int) + 1) text out gaps vo vg w')
      (first
        | with_reducible exact HS1.out
        | with_reducible exact HS0.out)
      (first
        | (go_at_call 61; refine (N1.out _ (HT.out.below0 HS0.out.2.2.1)).mono ?_; rintro e w6 ⟨rfl, hb6⟩; have HS1 := Lib.hid (HS0.out.keep hb6)))
    obtain ⟨_, c1, _, _, _, hz⟩ := HS1.out.cells
    have hz1 := hz 1
    clear hz
    go_wp2_with fail
    go_ret
    exact ⟨rfl, _, _, by have := HS1.out.go ((k : Int) + 1 + n); rw [show ((k + 1 + n : Nat) : Int) = (k : Int) + 1 + n from by omega]; exact this⟩
end Go.Proofs.YtmgnpgbganjgfaaDoor
