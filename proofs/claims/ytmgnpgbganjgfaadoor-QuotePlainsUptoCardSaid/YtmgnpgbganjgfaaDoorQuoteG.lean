/- DERIVED. The walk of escape. -/
import Derived.Test.YtmgnpgbganjgfaaDoorQuoteF
import Derived.Test.YtmgnpgbganjgfaaDoorQuoteQ
set_option linter.unusedSimpArgs false
set_option linter.unusedVariables false
namespace Go.Proofs.YtmgnpgbganjgfaaDoor
open Go.RowKit

/-- What escape gives back. -/
def escR (text : Bool) (k : Nat) (o : Option (Int × Nat)) : Option (Int × Nat) :=
  match o with
  | none => none
  | some (v, n) => if v = -2 ∧ text = false then none else some (if v = -2 then -1 else v, k + 1 + n)
theorem names_not (c : UInt8) (t : List UInt8) (h : c.toNat < 65 ∨ 90 < c.toNat) : (nameP (c :: t)).2 = 0 := by
  have h1 := nameP_is (c :: t)
  generalize (nameP (c :: t)).2 = m at *
  cases m with
  | zero => rfl
  | succ n =>
    exfalso
    obtain ⟨b, u, hb, h1, h2⟩ := names_head _ (h1 (by omega))
    rw [List.take_succ_cons] at hb
    injection hb with hb _
    subst hb
    omega
theorem byteN_at (s : ByteArray) (k : Nat) (h : k < s.size) : byteN s.data.toList k = (s[k]).toNat := by
  unfold byteN
  rw [List.getD_eq_getElem?_getD, byte_get s k h]; rfl
theorem byteN_end (s : ByteArray) (k : Nat) (h : s.size ≤ k) : byteN s.data.toList k = 0 := by
  unfold byteN
  rw [List.getD_eq_getElem?_getD, List.getElem?_eq_none (by rw [← Lib.size_eq]; omega)]; rfl
theorem drop_at (s : ByteArray) (k : Nat) (h : k < s.size) : s.data.toList.drop k = s[k] :: s.data.toList.drop (k + 1) := by
  have hl : k < s.data.toList.length := by rw [← Lib.size_eq]; exact h
  rw [List.drop_eq_getElem_cons hl]
  have := byte_get s k h
  rw [List.getElem?_eq_getElem hl] at this
  injection this with this
  rw [this]
theorem signP_bd (c : UInt8) (v : Int) (h : signP c = some v) : v ≠ -2 ∧ 0 ≤ v := by
  unfold signP at h
  repeat (split at h; · (injection h with h; omega))
  cases h
theorem tw_mem (p : UInt8 → Bool) (l : List UInt8) : ∀ b ∈ l.takeWhile p, p b = true := by
  induction l with
  | nil => intro b hb; cases hb
  | cons a l ih =>
    intro b hb
    rw [List.takeWhile_cons] at hb
    split at hb
    · next h =>
      rcases List.mem_cons.1 hb with rfl | hb
      · exact h
      · exact ih b hb
    · cases hb
theorem numP_val (base : Int) (hb : 0 ≤ base) (l : List UInt8) (v : Int) (n : Nat) (h : numP base l = some (v, n)) : 0 ≤ v ∧ v ≤ 1114111 := by
  unfold numP at h
  split at h
  · next hc =>
    simp only [Option.some.injEq, Prod.mk.injEq] at h
    rw [← h.1]
    refine ⟨(valP_bd base hb _ ?_).1, hc.2⟩
    intro b hb
    exact tw_mem _ _ b hb
  · cases h
set_option maxHeartbeats 4000000 in
theorem escape_end (W0 : World) (b : Nat) (s : ByteArray) (k : Nat) (text : Bool) (out : List Int) (gaps : List (Nat × Nat)) (vo vg : Value) (w : World) (hs : s.size ≤ 16777216) (hk : k < s.size) (hT : Tabs5 W0) (h : Rd W0 b s k text out gaps vo vg w) (hk1 : s.size ≤ k + 1) :
    Calls Tryd.prog 49 #[.pointer (some ⟨b, 0, none⟩)] w (Read W0 b s text out gaps k none) := by
  obtain ⟨c0, c1, c2, c3, c4, hz⟩ := h.cells
  have hz1 := hz 1
  have HR1 := Lib.hid (h.go ((k : Int) + 1))
  have B1 := Lib.hid fun w (h : Rd W0 b s ((k : Int) + 1) text out gaps vo vg w) => byteAt_any W0 b s (k + 1) 0 text out gaps vo vg w hs (by omega) (by omega) (by rw [show ((k + 1 : Nat) : Int) = (k : Int) + 1 from by omega]; exact h)
  have HB := Lib.hid (byteN_end s (k + 1) hk1)
  have S1 := Lib.hid fun w => sign_any 0 w
  rw [show signP 0 = none from by decide, show ((0 : UInt8).toNat : Int) = 0 from rfl] at S1
  have t1 : decide ((k : Int) + 1 < s.size) = false := by simp; omega
  clear h c0 c2 c3 c4 hz
  unfold Read
  go_enter Tryd.func49, Tryd.ntmps49
  go_wp2_with fail
  generalize w.setCell ⟨b, 1, none⟩ (.int .i64 ((k : Int) + 1)) = w1 at *
  refine (B1.out _ HR1.out).mono ?_
  rintro e w2 ⟨rfl, hR2⟩
  have HR2 := Lib.hid (show Rd W0 b s ((k : Int) + 1) text out gaps vo vg w2 from by rw [show (k : Int) + 1 = ((k + 1 : Nat) : Int) from by omega]; exact hR2)
  clear hR2
  simp only [Nat.add_zero, HB.out]
  go_wp2_with fail
  refine (S1.out _).mono ?_
  rintro e w3 ⟨rfl, rfl⟩
  unfold signV
  obtain ⟨c0, c1, c2, _, _, hz⟩ := HR2.out.cells
  have hz1 := hz 1
  clear hz
  have HS0 := HR2
  go_wp2_with fail
  go_quiet (fail)
  go_wp2_with fail
  refine (fail_any _ _ _ _).mono ?_
  rintro e w8 ⟨rfl, rfl⟩
  go_wp2_with fail
  exact ⟨rfl, rfl, _, _, _, HR2.out.drew _⟩
set_option maxHeartbeats 4000000 in
theorem escape_sign (W0 : World) (b : Nat) (s : ByteArray) (k : Nat) (text : Bool) (out : List Int) (gaps : List (Nat × Nat)) (vo vg : Value) (w : World) (hs : s.size ≤ 16777216) (hk : k < s.size) (hT : Tabs5 W0) (h : Rd W0 b s k text out gaps vo vg w) (hk1 : k + 1 < s.size) (v : Int) (hv : signP s[k + 1] = some v) :
    Calls Tryd.prog 49 #[.pointer (some ⟨b, 0, none⟩)] w (Read W0 b s text out gaps k (some (v, k + 1 + 1))) := by
  obtain ⟨c0, c1, c2, c3, c4, hz⟩ := h.cells
  have hz1 := hz 1
  have HR1 := Lib.hid (h.go ((k : Int) + 1))
  have B1 := Lib.hid fun w (h : Rd W0 b s ((k : Int) + 1) text out gaps vo vg w) => byteAt_any W0 b s (k + 1) 0 text out gaps vo vg w hs (by omega) (by omega) (by rw [show ((k + 1 : Nat) : Int) = (k : Int) + 1 from by omega]; exact h)
  have HB := Lib.hid (byteN_at s (k + 1) hk1)
  have S1 := Lib.hid fun w => sign_any s[k + 1] w
  rw [hv] at S1
  clear h hv c0 c2 c3 c4 hz
  unfold Read
  go_enter Tryd.func49, Tryd.ntmps49
  go_wp2_with fail
  generalize w.setCell ⟨b, 1, none⟩ (.int .i64 ((k : Int) + 1)) = w1 at *
  refine (B1.out _ HR1.out).mono ?_
  rintro e w2 ⟨rfl, hR2⟩
  have HR2 := Lib.hid (show Rd W0 b s ((k : Int) + 1) text out gaps vo vg w2 from by rw [show (k : Int) + 1 = ((k + 1 : Nat) : Int) from by omega]; exact hR2)
  clear hR2
  simp only [Nat.add_zero, HB.out]
  go_wp2_with fail
  refine (S1.out _).mono ?_
  rintro e w3 ⟨rfl, rfl⟩
  unfold signV
  obtain ⟨c0, c1, c2, _, _, hz⟩ := HR2.out.cells
  have hz1 := hz 1
  clear hz
  generalize (s[k + 1].toNat : Int) = x at *
  go_wp2_with fail
  go_ret
  exact ⟨rfl, _, _, by have := HR2.out.go ((k : Int) + 1 + 1); rw [show ((k + 1 + 1 : Nat) : Int) = (k : Int) + 1 + 1 from by omega]; exact this⟩
set_option maxHeartbeats 4000000 in
theorem escape_amp (W0 : World) (b : Nat) (s : ByteArray) (k : Nat) (text : Bool) (out : List Int) (gaps : List (Nat × Nat)) (vo vg : Value) (w : World) (hs : s.size ≤ 16777216) (hk : k < s.size) (hT : Tabs5 W0) (h : Rd W0 b s k text out gaps vo vg w) (hk1 : k + 1 < s.size) (hc : s[k + 1] = 38) (ht : text = true) :
    Calls Tryd.prog 49 #[.pointer (some ⟨b, 0, none⟩)] w (Read W0 b s text out gaps k (some (-1, k + 1 + 1))) := by
  subst ht
  obtain ⟨c0, c1, c2, c3, c4, hz⟩ := h.cells
  have hz1 := hz 1
  have HR1 := Lib.hid (h.go ((k : Int) + 1))
  have B1 := Lib.hid fun w (h : Rd W0 b s ((k : Int) + 1) true out gaps vo vg w) => byteAt_any W0 b s (k + 1) 0 true out gaps vo vg w hs (by omega) (by omega) (by rw [show ((k + 1 : Nat) : Int) = (k : Int) + 1 from by omega]; exact h)
  have HB := Lib.hid (byteN_at s (k + 1) hk1)
  have S1 := Lib.hid fun w => sign_any s[k + 1] w
  have hsg : signP s[k + 1] = none := by rw [hc]; decide
  rw [hsg] at S1
  clear hsg
  obtain ⟨y38, n38⟩ := u8K s[k + 1] 38 38 rfl (by decide)
  have q38 := y38 hc
  clear y38 n38 hc
  clear h c0 c2 c3 c4 hz
  unfold Read
  go_enter Tryd.func49, Tryd.ntmps49
  go_wp2_with fail
  generalize w.setCell ⟨b, 1, none⟩ (.int .i64 ((k : Int) + 1)) = w1 at *
  refine (B1.out _ HR1.out).mono ?_
  rintro e w2 ⟨rfl, hR2⟩
  have HR2 := Lib.hid (show Rd W0 b s ((k : Int) + 1) true out gaps vo vg w2 from by rw [show (k : Int) + 1 = ((k + 1 : Nat) : Int) from by omega]; exact hR2)
  clear hR2
  simp only [Nat.add_zero, HB.out]
  go_wp2_with fail
  refine (S1.out _).mono ?_
  rintro e w3 ⟨rfl, rfl⟩
  unfold signV
  obtain ⟨c0, c1, c2, _, _, hz⟩ := HR2.out.cells
  have hz1 := hz 1
  clear hz
  generalize (s[k + 1].toNat : Int) = x at *
  go_wp2_with fail
  go_ret
  exact ⟨rfl, _, _, by have := HR2.out.go ((k : Int) + 1 + 1); rw [show ((k + 1 + 1 : Nat) : Int) = (k : Int) + 1 + 1 from by omega]; exact this⟩
set_option maxHeartbeats 4000000 in
theorem escape_amp0 (W0 : World) (b : Nat) (s : ByteArray) (k : Nat) (text : Bool) (out : List Int) (gaps : List (Nat × Nat)) (vo vg : Value) (w : World) (hs : s.size ≤ 16777216) (hk : k < s.size) (hT : Tabs5 W0) (h : Rd W0 b s k text out gaps vo vg w) (hk1 : k + 1 < s.size) (hc : s[k + 1] = 38) (ht : text = false) :
    Calls Tryd.prog 49 #[.pointer (some ⟨b, 0, none⟩)] w (Read W0 b s text out gaps k none) := by
  subst ht
  obtain ⟨c0, c1, c2, c3, c4, hz⟩ := h.cells
  have hz1 := hz 1
  have HR1 := Lib.hid (h.go ((k : Int) + 1))
  have B1 := Lib.hid fun w (h : Rd W0 b s ((k : Int) + 1) false out gaps vo vg w) => byteAt_any W0 b s (k + 1) 0 false out gaps vo vg w hs (by omega) (by omega) (by rw [show ((k + 1 : Nat) : Int) = (k : Int) + 1 from by omega]; exact h)
  have HB := Lib.hid (byteN_at s (k + 1) hk1)
  have S1 := Lib.hid fun w => sign_any s[k + 1] w
  have hsg : signP s[k + 1] = none := by rw [hc]; decide
  rw [hsg] at S1
  clear hsg
  obtain ⟨y38, n38⟩ := u8K s[k + 1] 38 38 rfl (by decide)
  have q38 := y38 hc
  have hn0 : (nameP (s[k + 1] :: s.data.toList.drop (k + 1 + 1))).2 = 0 := names_not _ _ (by rw [hc]; decide)
  obtain ⟨y94, n94⟩ := u8K s[k + 1] 94 94 rfl (by decide)
  have q94 := n94 (by rw [hc]; decide)
  obtain ⟨y111, n111⟩ := u8K s[k + 1] 111 111 rfl (by decide)
  have q111 := n111 (by rw [hc]; decide)
  obtain ⟨y120, n120⟩ := u8K s[k + 1] 120 120 rfl (by decide)
  have q120 := n120 (by rw [hc]; decide)
  have d1 : decide (48 ≤ s[k + 1].toNat) = false := by rw [hc]; rfl
  have d2 : decide ((48 : Int) ≤ s[k + 1].toNat) = false := by rw [hc]; rfl
  clear y38 n38 y94 n94 y111 n111 y120 n120 hc
  have b1 : (0 : Int) ≤ (k : Int) + 1 := by omega
  have b2 : (k : Int) + 1 ≤ s.size := by omega
  have b3 : ((k : Int) + 1).toNat = k + 1 := by omega
  have t1 : decide ((k : Int) + 1 < s.size) = true := by simp; omega
  have n1 := fun (w : World) (hT : Tabs5 w) => named_any (s.extract (k + 1) s.size) w (by simp only [ByteArray.size_extract]; omega) hT
  rw [cut_data] at n1
  have HT := Lib.hid hT
  have r0 := fun w' (h : Rd W0 b s ((k : Int) + 1) false out gaps vo vg w') => h.cells.1
  have r1 := fun w' (h : Rd W0 b s ((k : Int) + 1) false out gaps vo vg w') => h.cells.2.1
  rw [drop_at s (k + 1) hk1] at n1
  rw [hn0] at n1
  generalize (nameP (s[k + 1] :: s.data.toList.drop (k + 1 + 1))).1 = nm at *
  have t9 : decide ((0 : Int) < ((0 : Nat) : Int)) = false := by decide
  have N1 := Lib.hid n1
  clear n1 hT
  clear h c0 c2 c3 c4 hz
  unfold Read
  go_enter Tryd.func49, Tryd.ntmps49
  go_wp2_with fail
  generalize w.setCell ⟨b, 1, none⟩ (.int .i64 ((k : Int) + 1)) = w1 at *
  refine (B1.out _ HR1.out).mono ?_
  rintro e w2 ⟨rfl, hR2⟩
  have HR2 := Lib.hid (show Rd W0 b s ((k : Int) + 1) false out gaps vo vg w2 from by rw [show (k : Int) + 1 = ((k + 1 : Nat) : Int) from by omega]; exact hR2)
  clear hR2
  simp only [Nat.add_zero, HB.out]
  go_wp2_with fail
  refine (S1.out _).mono ?_
  rintro e w3 ⟨rfl, rfl⟩
  unfold signV
  obtain ⟨c0, c1, c2, _, _, hz⟩ := HR2.out.cells
  have hz1 := hz 1
  clear hz
  generalize (s[k + 1].toNat : Int) = x at *
  go_wp2_with fail
  go_quiet (fail)
  rename_i nq
  have HRQ := Lib.hid (HR2.out.drew nq)
  generalize w2.drewN nq = w5 at *
  clear c0 c1 c2 hz1
  have HS0 := Lib.hid HRQ.out.drew1
  go_wp2_with fail
  go_region_held3 (fun w' => Rd W0 b s ((k : Int) + 1) false out gaps vo vg w')
    (first
      | with_reducible exact HS1.out
      | with_reducible exact HS0.out)
    (first
      | (go_at_call 61; refine (N1.out _ (HT.out.below0 HS0.out.2.2.1)).mono ?_; rintro e w6 ⟨rfl, hb6⟩; have HS1 := Lib.hid (HS0.out.keep hb6)))
  go_wp2_with fail
  refine (fail_any _ _ _ _).mono ?_
  rintro e w8 ⟨rfl, rfl⟩
  go_wp2_with fail
  exact ⟨rfl, rfl, _, _, _, HS1.out⟩
end Go.Proofs.YtmgnpgbganjgfaaDoor
