/- DERIVED. The walks of fail, byteAt and sign. -/
import Derived.Test.YtmgnpgbganjgfaaDoorQuoteA
import Derived.Test.YtmgnpgbganjgfaaDoorShelf
import Derived.Test.YtmgnpgbganjgfaaDoorNext
import Derived.WalkLawsBesides
set_option linter.unusedSimpArgs false
set_option linter.unusedVariables false
namespace Go.Proofs.YtmgnpgbganjgfaaDoor
open Go.RowKit

/-- What is thrown. -/
def faultV (a e : Int) : List PanicEntry := [{ v := .iface 62 (.agg #[.int .i64 a, .int .i64 e]), recovered := false }]
theorem fail_any (p : Value) (a e : Int) (w : World) :
    Calls Tryd.prog 42 #[p, .int .i64 a, .int .i64 e] w fun x w' => x = .panicked (faultV a e) ∧ w = w' := by
  go_enter Tryd.func42, Tryd.ntmps42
  go_wp2_with fail
  exact ⟨rfl, rfl, rfl⟩
/-- The byte at a place; 0 behind the end. -/
def byteN (l : List UInt8) (i : Nat) : Int := (l.getD i 0).toNat
theorem byteAt_any (W0 : World) (b : Nat) (s : ByteArray) (k m : Nat) (text : Bool) (out : List Int) (gaps : List (Nat × Nat)) (vo vg : Value) (w : World) (hs : s.size ≤ 16777216) (hk : k ≤ s.size) (hm : m ≤ 1) (h : Rd W0 b s k text out gaps vo vg w) :
    Calls Tryd.prog 40 #[.pointer (some ⟨b, 0, none⟩), .int .i64 (m : Int)] w fun x w' => x = .returned (.int .u8 (byteN s.data.toList (k + m))) ∧ Rd W0 b s k text out gaps vo vg w' := by
  obtain ⟨c0, c1, c2, c3, c4, hz⟩ := h.cells
  have HR := Lib.hid h
  clear h c2 c3 c4 hz
  have g1 : IntKind.i64.wrap ((k : Int) + m) = (k : Int) + m := IntWalk.i64_in _ (by omega)
  by_cases hi : k + m < s.size
  · have hv : byteN s.data.toList (k + m) = s[k + m].toNat := by
      unfold byteN
      rw [List.getD_eq_getElem?_getD, Array.getElem?_toList]
      have : s.data[k + m]? = some s[k + m] := Array.getElem?_eq_getElem _
      rw [this]; rfl
    rw [hv]
    have t1 : decide ((s.size : Int) ≤ ((k : Int) + m)) = false := by simp; omega
    have t2 : decide (s.size ≤ k + m) = false := by simp; omega
    have b1 : (0 : Int) ≤ ((k : Int) + m) := by omega
    have b2 : ((k : Int) + m) < s.size := by omega
    have b3 : ((k : Int) + m).toNat = k + m := by omega
    clear hv
    go_enter Tryd.func40, Tryd.ntmps40
    go_wp2_with fail
    go_quiet (fail)
    go_wp2_with fail
    go_quiet (fail)
    go_wp2_with fail
    go_ret
    exact ⟨rfl, (HR.out.drew _).drew _⟩
  · have hv : byteN s.data.toList (k + m) = 0 := by
      unfold byteN
      rw [List.getD_eq_getElem?_getD, List.getElem?_eq_none (by rw [← Lib.size_eq]; omega)]; rfl
    rw [hv]
    have t1 : decide ((s.size : Int) ≤ ((k : Int) + m)) = true := by simp; omega
    have t2 : decide (s.size ≤ k + m) = true := by simp; omega
    clear hv
    go_enter Tryd.func40, Tryd.ntmps40
    go_wp2_with fail
    go_quiet (fail)
    go_wp2_with fail
    go_ret
    exact ⟨rfl, HR.out.drew _⟩
/-- Which of the letters a sign is; -1: none. -/
def letW (c : UInt8) : Int := Lib.indexByte [97, 98, 116, 110, 118, 102, 114] c
theorem letW_any (c : UInt8) (w : World) : Calls Tryd.prog 70 #[.string ⟨#[97, 98, 116, 110, 118, 102, 114]⟩, .int .u8 c.toNat] w fun e w' => e = .returned (.int .i64 (letW c)) ∧ w' = w := by
  have h := Tryd.strings_IndexByte ⟨#[97, 98, 116, 110, 118, 102, 114]⟩ c.toNat w
  have e : ((c.toNat : Int).toNat).toUInt8 = c := by simp
  rw [e] at h
  exact h
theorem sign_let (c : UInt8) (h : ¬ (c = 92 ∨ c = 34 ∨ c = 39)) : signP c = if 0 ≤ letW c then some (7 + letW c) else none := by
  have hall : ∀ n : Fin 256, ¬ (UInt8.ofNat n.val = 92 ∨ UInt8.ofNat n.val = 34 ∨ UInt8.ofNat n.val = 39) → signP (UInt8.ofNat n.val) = if 0 ≤ letW (UInt8.ofNat n.val) then some (7 + letW (UInt8.ofNat n.val)) else none := by decide +kernel
  have := hall ⟨c.toNat, c.toNat_lt⟩
  simp only [UInt8.ofNat_toNat] at this
  exact this h
theorem letW_bd (c : UInt8) : -1 ≤ letW c ∧ letW c ≤ 6 := by
  have hall : ∀ n : Fin 256, -1 ≤ letW (UInt8.ofNat n.val) ∧ letW (UInt8.ofNat n.val) ≤ 6 := by decide +kernel
  have := hall ⟨c.toNat, c.toNat_lt⟩
  simp only [UInt8.ofNat_toNat] at this
  exact this
def signV : Option Int → Value
  | some v => .tuple #[.int .i64 v, .bool true]
  | none => .tuple #[.int .i64 0, .bool false]
theorem u8K (x : UInt8) (c : Nat) (i : Int) (hi : i = c) (hc : c < 256) : (x = UInt8.ofNat c → ((x.toNat : Int) == i) = true) ∧ (¬ x = UInt8.ofNat c → ((x.toNat : Int) == i) = false) := by
  subst hi
  constructor
  · rintro rfl
    rw [UInt8.toNat_ofNat', Nat.mod_eq_of_lt (by simpa using hc)]
    simp
  · intro h
    rw [beq_eq_false_iff_ne]
    intro e
    apply h
    apply UInt8.toNat_inj.1
    rw [UInt8.toNat_ofNat', Nat.mod_eq_of_lt (by simpa using hc)]
    omega
set_option maxHeartbeats 1000000 in
theorem sign_any (c : UInt8) (w : World) : Calls Tryd.prog 59 #[.int .u8 c.toNat] w fun e w' => e = .returned (signV (signP c)) ∧ w = w' := by
  have hcv := wrap64_u8 c
  obtain ⟨y92, n92⟩ := u8K c 92 92 rfl (by decide)
  obtain ⟨y34, n34⟩ := u8K c 34 34 rfl (by decide)
  obtain ⟨y39, n39⟩ := u8K c 39 39 rfl (by decide)
  by_cases h : c = 92 ∨ c = 34 ∨ c = 39
  · have hs : signP c = some (c.toNat : Int) := by unfold signP; rw [if_pos h]
    rw [hs]
    unfold signV
    have hq : ((c.toNat : Int) == 92) = true ∨ ((c.toNat : Int) == 92) = false ∧ ((c.toNat : Int) == 34) = true ∨ ((c.toNat : Int) == 92) = false ∧ ((c.toNat : Int) == 34) = false ∧ ((c.toNat : Int) == 39) = true := by
      by_cases h1 : c = 92
      · exact .inl (y92 h1)
      · by_cases h2 : c = 34
        · exact .inr (.inl ⟨n92 h1, y34 h2⟩)
        · exact .inr (.inr ⟨n92 h1, n34 h2, y39 ((h.resolve_left h1).resolve_left h2)⟩)
    clear y92 n92 y34 n34 y39 n39 hs h
    generalize (c.toNat : Int) = x at *
    rcases hq with q1 | ⟨q1, q2⟩ | ⟨q1, q2, q3⟩
    all_goals
      go_enter Tryd.func59, Tryd.ntmps59
      go_wp2_with fail
      go_ret2
      exact ⟨by simp [hcv], rfl⟩
  · have q1 := n92 (fun e => h (.inl e))
    have q2 := n34 (fun e => h (.inr (.inl e)))
    have q3 := n39 (fun e => h (.inr (.inr e)))
    have L1 := letW_any c w
    have hb := letW_bd c
    rw [sign_let c h]
    clear y92 n92 y34 n34 y39 n39 h hcv
    generalize (c.toNat : Int) = x at *
    generalize letW c = y at *
    have L1 := Lib.hid L1
    by_cases hy : 0 ≤ y
    · rw [if_pos hy]
      unfold signV
      have t1 : decide (0 ≤ y) = true := decide_eq_true hy
      go_enter Tryd.func59, Tryd.ntmps59
      go_wp2_with fail
      refine L1.out.mono ?_
      rintro e w1 ⟨rfl, rfl⟩
      go_wp2_with fail
      go_ret2
      exact ⟨rfl, rfl⟩
    · rw [if_neg hy]
      unfold signV
      have t1 : decide (0 ≤ y) = false := decide_eq_false hy
      go_enter Tryd.func59, Tryd.ntmps59
      go_wp2_with fail
      refine L1.out.mono ?_
      rintro e w1 ⟨rfl, rfl⟩
      go_wp2_with fail
      go_ret2
      exact ⟨rfl, rfl⟩
end Go.Proofs.YtmgnpgbganjgfaaDoor
