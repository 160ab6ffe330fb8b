/- DERIVED. The walk of the document's short. DERIVED. The walk of the document's gap. DERIVED. The walk of the document's begins. DERIVED. The walk of the document's number. DERIVED. The walk of the document's names. -/
import Derived.Test.YtmgnpgbganjgfaaDoorQuoteB
import Derived.Test.YtmgnpgbganjgfaaDoorRefRun
import Derived.Test.YtmgnpgbganjgfaaDoorQuoteF
import Derived.Test.YtmgnpgbganjgfaaDoorQuoA
import Derived.Test.YtmgnpgbganjgfaaDoorQuoteC
import Derived.Test.YtmgnpgbganjgfaaDoorDigit
import Derived.Test.YtmgnpgbganjgfaaDoorQuoteD
set_option linter.unusedSimpArgs false
set_option linter.unusedVariables false
namespace Go.Proofs.YtmgnpgbganjgfaaDoor
open Go.RowKit

def shortX (c : UInt8) : Int := match signP c with | some v => v | none => if c = 38 then -2 else -1
theorem shortX_none (c : UInt8) (h : c ≠ 97 ∧ c ≠ 98 ∧ c ≠ 102 ∧ c ≠ 110 ∧ c ≠ 114 ∧ c ≠ 116 ∧ c ≠ 118 ∧ c ≠ 92 ∧ c ≠ 34 ∧ c ≠ 39 ∧ c ≠ 38) : shortX c = -1 := by
  have hall : ∀ n : Fin 256, (UInt8.ofNat n.val ≠ 97 ∧ UInt8.ofNat n.val ≠ 98 ∧ UInt8.ofNat n.val ≠ 102 ∧ UInt8.ofNat n.val ≠ 110 ∧ UInt8.ofNat n.val ≠ 114 ∧ UInt8.ofNat n.val ≠ 116 ∧ UInt8.ofNat n.val ≠ 118 ∧ UInt8.ofNat n.val ≠ 92 ∧ UInt8.ofNat n.val ≠ 34 ∧ UInt8.ofNat n.val ≠ 39 ∧ UInt8.ofNat n.val ≠ 38) → shortX (UInt8.ofNat n.val) = -1 := by decide +kernel
  have := hall ⟨c.toNat, c.toNat_lt⟩
  simp only [UInt8.ofNat_toNat] at this
  exact this h
set_option maxHeartbeats 2000000 in
theorem refShort_any (c : UInt8) (w : World) : Calls Tryd.prog 36 #[.int .u8 c.toNat] w fun e w' => e = .returned (.int .i64 (shortX c)) ∧ w = w' := by
  by_cases h97 : c = 97
  · subst h97
    rw [show (((97 : UInt8).toNat : Nat) : Int) = 97 from rfl, show shortX 97 = 7 from by decide +kernel]
    go_enter Tryd.func36, Tryd.ntmps36
    go_wp2_with fail
    go_ret
    exact ⟨by first | rfl | simp, rfl⟩
  by_cases h98 : c = 98
  · subst h98
    rw [show (((98 : UInt8).toNat : Nat) : Int) = 98 from rfl, show shortX 98 = 8 from by decide +kernel]
    clear h97
    go_enter Tryd.func36, Tryd.ntmps36
    go_wp2_with fail
    go_ret
    exact ⟨by first | rfl | simp, rfl⟩
  by_cases h102 : c = 102
  · subst h102
    rw [show (((102 : UInt8).toNat : Nat) : Int) = 102 from rfl, show shortX 102 = 12 from by decide +kernel]
    clear h97 h98
    go_enter Tryd.func36, Tryd.ntmps36
    go_wp2_with fail
    go_ret
    exact ⟨by first | rfl | simp, rfl⟩
  by_cases h110 : c = 110
  · subst h110
    rw [show (((110 : UInt8).toNat : Nat) : Int) = 110 from rfl, show shortX 110 = 10 from by decide +kernel]
    clear h97 h98 h102
    go_enter Tryd.func36, Tryd.ntmps36
    go_wp2_with fail
    go_ret
    exact ⟨by first | rfl | simp, rfl⟩
  by_cases h114 : c = 114
  · subst h114
    rw [show (((114 : UInt8).toNat : Nat) : Int) = 114 from rfl, show shortX 114 = 13 from by decide +kernel]
    clear h97 h98 h102 h110
    go_enter Tryd.func36, Tryd.ntmps36
    go_wp2_with fail
    go_ret
    exact ⟨by first | rfl | simp, rfl⟩
  by_cases h116 : c = 116
  · subst h116
    rw [show (((116 : UInt8).toNat : Nat) : Int) = 116 from rfl, show shortX 116 = 9 from by decide +kernel]
    clear h97 h98 h102 h110 h114
    go_enter Tryd.func36, Tryd.ntmps36
    go_wp2_with fail
    go_ret
    exact ⟨by first | rfl | simp, rfl⟩
  by_cases h118 : c = 118
  · subst h118
    rw [show (((118 : UInt8).toNat : Nat) : Int) = 118 from rfl, show shortX 118 = 11 from by decide +kernel]
    clear h97 h98 h102 h110 h114 h116
    go_enter Tryd.func36, Tryd.ntmps36
    go_wp2_with fail
    go_ret
    exact ⟨by first | rfl | simp, rfl⟩
  by_cases h92 : c = 92
  · subst h92
    rw [show (((92 : UInt8).toNat : Nat) : Int) = 92 from rfl, show shortX 92 = 92 from by decide +kernel]
    clear h97 h98 h102 h110 h114 h116 h118
    go_enter Tryd.func36, Tryd.ntmps36
    go_wp2_with fail
    go_ret
    exact ⟨by first | rfl | simp, rfl⟩
  by_cases h34 : c = 34
  · subst h34
    rw [show (((34 : UInt8).toNat : Nat) : Int) = 34 from rfl, show shortX 34 = 34 from by decide +kernel]
    clear h97 h98 h102 h110 h114 h116 h118 h92
    go_enter Tryd.func36, Tryd.ntmps36
    go_wp2_with fail
    go_ret
    exact ⟨by first | rfl | simp, rfl⟩
  by_cases h39 : c = 39
  · subst h39
    rw [show (((39 : UInt8).toNat : Nat) : Int) = 39 from rfl, show shortX 39 = 39 from by decide +kernel]
    clear h97 h98 h102 h110 h114 h116 h118 h92 h34
    go_enter Tryd.func36, Tryd.ntmps36
    go_wp2_with fail
    go_ret
    exact ⟨by first | rfl | simp, rfl⟩
  by_cases h38 : c = 38
  · subst h38
    rw [show (((38 : UInt8).toNat : Nat) : Int) = 38 from rfl, show shortX 38 = -2 from by decide +kernel]
    clear h97 h98 h102 h110 h114 h116 h118 h92 h34 h39
    go_enter Tryd.func36, Tryd.ntmps36
    go_wp2_with fail
    go_ret
    exact ⟨by first | rfl | simp, rfl⟩
  have hs := shortX_none c ⟨h97, h98, h102, h110, h114, h116, h118, h92, h34, h39, h38⟩
  rw [hs]
  have q97 := (u8K c 97 97 rfl (by decide)).2 h97
  have q98 := (u8K c 98 98 rfl (by decide)).2 h98
  have q102 := (u8K c 102 102 rfl (by decide)).2 h102
  have q110 := (u8K c 110 110 rfl (by decide)).2 h110
  have q114 := (u8K c 114 114 rfl (by decide)).2 h114
  have q116 := (u8K c 116 116 rfl (by decide)).2 h116
  have q118 := (u8K c 118 118 rfl (by decide)).2 h118
  have q92 := (u8K c 92 92 rfl (by decide)).2 h92
  have q34 := (u8K c 34 34 rfl (by decide)).2 h34
  have q39 := (u8K c 39 39 rfl (by decide)).2 h39
  have q38 := (u8K c 38 38 rfl (by decide)).2 h38
  clear hs h97 h98 h102 h110 h114 h116 h118 h92 h34 h39 h38
  generalize (c.toNat : Int) = x at *
  go_enter Tryd.func36, Tryd.ntmps36
  go_wp2_with fail
  go_ret
  exact ⟨rfl, rfl⟩
end Go.Proofs.YtmgnpgbganjgfaaDoor

namespace Go.Proofs.YtmgnpgbganjgfaaDoor
open Go.RowKit

theorem byteKN2 (c : UInt8) : (c = 92 → ((c.toNat : Int) != 92) = false) ∧ (c ≠ 92 → ((c.toNat : Int) != 92) = true) := by
  obtain ⟨y, n⟩ := u8K c 92 92 rfl (by decide)
  exact ⟨fun h => by rw [bne, y h]; rfl, fun h => by rw [bne, n h]; rfl⟩
def gapX (l : List UInt8) (k : Nat) : Nat := if 0 < gapP (l.drop (k + 1)) then k + 1 + gapP (l.drop (k + 1)) else 0
theorem gapX_zero (l : List UInt8) (k : Nat) (h : gapP (l.drop (k + 1)) = 0) : gapX l k = 0 := by unfold gapX; rw [h]; rfl
theorem gapX_pos (l : List UInt8) (k n : Nat) (h : gapP (l.drop (k + 1)) = n + 1) : gapX l k = k + 1 + (n + 1) := by unfold gapX; rw [h, if_pos (by omega)]
set_option maxHeartbeats 2000000 in
theorem refGap_any (s : ByteArray) (k : Nat) (w : World) (hs : s.size ≤ 16777216) (hk : k < s.size) :
    Calls Tryd.prog 28 #[.string s, .int .i64 k] w fun e w' => e = .returned (.int .i64 (gapX s.data.toList k)) ∧ ∃ q, w' = w.drewN q := by
  obtain ⟨n, hn⟩ : ∃ n, span (isCls 1) (s.data.toList.drop (k + 1)) = n := ⟨_, rfl⟩
  have hnle := span_le' (isCls 1) (s.data.toList.drop (k + 1))
  rw [hn, List.length_drop, ← Lib.size_eq] at hnle
  have G1 := fun w => refRun_any s ((k : Int) + 1) 1 w (by omega)
  have hkl : k < s.data.toList.length := by rw [← Lib.size_eq]; exact hk
  rw [runL_at _ k (by omega), hn] at G1
  clear hkl
  obtain ⟨E, hE⟩ : ∃ E : Nat, E = k + 1 + n := ⟨_, rfl⟩
  rw [show (k : Int) + 1 + (n : Int) = (E : Int) from by omega] at G1
  have hgp : gapP (s.data.toList.drop (k + 1)) = if 0 < n ∧ s.data.toList[E]? = some 92 then n + 1 else 0 := by
    unfold gapP
    rw [hn, List.getElem?_drop, hE]
  have G1 := Lib.hid G1
  by_cases hn0 : n = 0
  · have hx : gapX s.data.toList k = 0 := gapX_zero _ _ (by rw [hgp, if_neg (fun h => by have := h.1; omega)])
    rw [hx]
    have q1 : ((E : Int) == (k : Int) + 1) = true := beq_iff_eq.2 (by omega)
    have q2 : (E == k + 1) = true := beq_iff_eq.2 (by omega)
    clear hgp hx hE hn hnle hn0
    go_enter Tryd.func28, Tryd.ntmps28
    go_wp2_with fail
    refine (G1.out _).mono ?_
    rintro e w1 ⟨rfl, rfl⟩
    go_wp2_with fail
    go_ret
    exact ⟨rfl, 0, rfl⟩
  · have q1 : ((E : Int) == (k : Int) + 1) = false := beq_eq_false_iff_ne.2 (by omega)
    have q2 : (E == k + 1) = false := beq_eq_false_iff_ne.2 (by omega)
    by_cases hE2 : E < s.size
    · have t3 : decide (s.size ≤ E) = false := by simp; omega
      obtain ⟨y92, n92⟩ := byteKN2 s[E]
      have hg : s.data.toList[E]? = some s[E] := byte_get s E hE2
      by_cases h92 : s[E] = 92
      · have hx : gapX s.data.toList k = E + 1 := by rw [gapX_pos _ k n (by rw [hgp, if_pos ⟨by omega, by rw [hg, h92]⟩])]; omega
        rw [hx]
        have q3 := y92 h92
        have hE3 := hE2
        clear hgp hx hE hn hnle hn0 y92 n92 h92 hg
        go_enter Tryd.func28, Tryd.ntmps28
        go_wp2_with fail
        refine (G1.out _).mono ?_
        rintro e w1 ⟨rfl, rfl⟩
        go_wp2_with fail
        go_ret
        exact ⟨rfl, 0, rfl⟩
      · have hx : gapX s.data.toList k = 0 := gapX_zero _ _ (by rw [hgp, if_neg (fun h => h92 (by have := h.2; rw [hg] at this; exact Option.some.inj this))])
        rw [hx]
        have q3 := n92 h92
        clear hgp hx hE hn hnle hn0 y92 n92 h92 hg
        go_enter Tryd.func28, Tryd.ntmps28
        go_wp2_with fail
        refine (G1.out _).mono ?_
        rintro e w1 ⟨rfl, rfl⟩
        go_wp2_with fail
        go_ret
        exact ⟨rfl, 0, rfl⟩
    · have t3 : decide (s.size ≤ E) = true := by simp; omega
      have hx : gapX s.data.toList k = 0 := by
        refine gapX_zero _ _ ?_
        rw [hgp, if_neg (fun h => by have := (List.getElem?_eq_some_iff.1 h.2).1; rw [← Lib.size_eq] at this; omega)]
      rw [hx]
      clear hgp hx hE hn hnle hn0 hE2
      go_enter Tryd.func28, Tryd.ntmps28
      go_wp2_with fail
      refine (G1.out _).mono ?_
      rintro e w1 ⟨rfl, rfl⟩
      go_wp2_with fail
      go_ret
      exact ⟨rfl, 0, rfl⟩
end Go.Proofs.YtmgnpgbganjgfaaDoor

namespace Go.Proofs.YtmgnpgbganjgfaaDoor
open Go.RowKit

theorem pre_cut (x l : List UInt8) (k : Nat) : (decide ((l.take (k + x.length)).drop k = x)) = x.isPrefixOf (l.drop k) := by
  rw [Bool.eq_iff_iff, decide_eq_true_eq, List.isPrefixOf_iff_prefix, List.prefix_iff_eq_take, List.drop_take, Nat.add_sub_cancel_left]
  exact ⟨fun h => h.symm, fun h => h.symm⟩
set_option maxHeartbeats 2000000 in
theorem refBegins_any (s : ByteArray) (k : Nat) (x : ByteArray) (w : World) (hs : s.size ≤ 16777216) (hk : k ≤ s.size) (hx : x.size ≤ 16777216) :
    Calls Tryd.prog 39 #[.string s, .int .i64 k, .string x] w fun e w' => e = .returned (.bool (x.data.toList.isPrefixOf (s.data.toList.drop k))) ∧ w = w' := by
  obtain ⟨R, hR⟩ : ∃ R, x.data.toList.isPrefixOf (s.data.toList.drop k) = R := ⟨_, rfl⟩
  rw [hR]
  by_cases h : k + x.size ≤ s.size
  · have t1 : decide (k + x.size ≤ s.size) = true := by simp; omega
    have t2 : decide ((k : Int) + x.size ≤ s.size) = true := by simp; omega
    have hq : ((s.extract k (k + x.size)).toList == x.toList) = R := by
      rw [← hR, ← pre_cut, Lib.toList_data, Lib.toList_data, ext_list, ← Lib.size_eq x, Bool.eq_iff_iff]
      simp
    have g1 : IntKind.i64.wrap ((k : Int) + x.size) = (k : Int) + x.size := IntWalk.i64_in _ (by omega)
    clear hR
    go_enter Tryd.func39, Tryd.ntmps39
    go_wp2_with fail
    go_ret
    exact ⟨rfl, rfl⟩
  · have t1 : decide (k + x.size ≤ s.size) = false := by simp; omega
    have t2 : decide ((k : Int) + x.size ≤ s.size) = false := by simp; omega
    have hq : R = false := by
      rw [← hR]
      apply Bool.eq_false_iff.2
      intro hp
      have := (List.isPrefixOf_iff_prefix.1 hp).length_le
      rw [List.length_drop, ← Lib.size_eq, ← Lib.size_eq] at this
      have h0 : x.size = 0 → False := fun h0 => by omega
      omega
    have g1 : IntKind.i64.wrap ((k : Int) + x.size) = (k : Int) + x.size := IntWalk.i64_in _ (by omega)
    subst hq
    clear hR
    go_enter Tryd.func39, Tryd.ntmps39
    go_wp2_with fail
    go_ret
    exact ⟨rfl, rfl⟩
end Go.Proofs.YtmgnpgbganjgfaaDoor

namespace Go.Proofs.YtmgnpgbganjgfaaDoor
open Go.RowKit

def numX (base : Int) (l : List UInt8) (k : Nat) : Value :=
  .tuple #[.int .i64 (if l.takeWhile (digB base) ≠ [] ∧ valP base (l.takeWhile (digB base)) ≤ 1114111 then valP base (l.takeWhile (digB base)) else -1), .int .i64 ((k + (l.takeWhile (digB base)).length : Nat) : Int)]
theorem numX_at (base : Int) (l : List UInt8) (k pos : Nat) (hi : pos ≤ l.length) (h1 : ∀ b ∈ l.take pos, digB base b = true) (h2 : ∀ b, l[pos]? = some b → digB base b = false) :
    numX base l k = .tuple #[.int .i64 (if 0 < pos ∧ valP base (l.take pos) ≤ 1114111 then valP base (l.take pos) else -1), .int .i64 ((k + pos : Nat) : Int)] := by
  unfold numX
  rw [tw_at _ l pos hi h1 h2]
  have e : (l.take pos).length = pos := by rw [List.length_take]; omega
  rw [e]
  have e2 : l.take pos ≠ [] ↔ 0 < pos := by
    rw [← List.length_pos_iff, e]
  simp only [e2]
set_option maxHeartbeats 4000000 in
theorem refNumber_any (s : ByteArray) (k : Nat) (base : Int) (w : World) (hs : s.size ≤ 16777216) (hk : k ≤ s.size) (hb0 : 2 ≤ base ∧ base ≤ 16) :
    Calls Tryd.prog 37 #[.string s, .int .i64 k, .int .i64 base] w fun e w' => e = .returned (numX base (s.data.toList.drop k) k) ∧ w = w' := by
  obtain ⟨R, hR⟩ : ∃ R, numX base (s.data.toList.drop k) k = R := ⟨_, rfl⟩
  rw [hR]
  have HR := Lib.hid hR
  obtain ⟨l, hl⟩ : ∃ l, s.data.toList.drop k = l := ⟨_, rfl⟩
  rw [hl] at HR
  have hll : l.length = s.size - k := by rw [← hl, List.length_drop, Lib.size_eq]
  have HG := Lib.hid (show ∀ E (h : E < s.size), k ≤ E → l[E - k]? = some s[E] from fun E h hkE => by
    rw [← hl, List.getElem?_drop, show k + (E - k) = E from by omega, byte_get s E h])
  have HLL := Lib.hid hll
  clear hR hl hll
  go_enter Tryd.func37, Tryd.ntmps37
  go_wp2_with fail
  go_loop [1, 8] (fun iv vv => ∃ (E : Nat) (y : Int), iv = .int .i64 (E : Int) ∧ vv = .int .i64 y ∧ k ≤ E ∧ E ≤ s.size ∧ 0 ≤ y ∧ y ≤ 33554432 ∧ min y 1114112 = valP base (l.take (E - k)) ∧ ∀ b ∈ l.take (E - k), digB base b = true) (fun iv _ => s.size - (intOf iv).toNat)
  case atStart => exact ⟨k, 0, rfl, rfl, Nat.le_refl _, hk, by omega, by omega, by rw [Nat.sub_self]; rfl, by rw [Nat.sub_self]; simp⟩
  case round =>
    obtain ⟨E, y, rfl, rfl, hkE, hE, hy0, hy1, hv, hall⟩ := hrel
    have HV := Lib.hid hv
    have HA := Lib.hid hall
    clear hv hall
    have hfin : (∀ b, l[E - k]? = some b → digB base b = false) → R = .tuple #[.int .i64 (if 0 < E - k ∧ min y 1114112 ≤ 1114111 then min y 1114112 else -1), .int .i64 (E : Int)] := fun h => by
      rw [← HR.out, numX_at base l k (E - k) (by rw [HLL.out]; omega) HA.out h, ← HV.out, show k + (E - k) = E from by omega]
    have HFIN := Lib.hid hfin
    clear hfin
    by_cases hlt : E < s.size
    · have t0 : decide ((E : Int) < s.size) = true := by simp; omega
      have hwr := wrap64_u8 s[E]
      have hg := HG.out E hlt hkE
      have hpl : E - k < l.length := by rw [HLL.out]; omega
      have hget : l[E - k] = s[E] := by rw [List.getElem?_eq_getElem hpl] at hg; exact Option.some.inj hg
      have hvt := valP_take base l (E - k) hpl
      rw [hget, ← HV.out, show E - k + 1 = E + 1 - k from by omega] at hvt
      by_cases hdg : 0 ≤ dig (s[E].toNat : Int) base
      · have hd16 : dig (s[E].toNat : Int) base < 16 := by
          by_cases h0 : base < 2 ∨ base > 16 ∨ digV (s[E].toNat : Int) ≥ base
          · rw [dig_no _ base h0]; omega
          · rw [dig_yes _ base (by omega) (by omega) (by omega)]; omega
        have hq : decide (dig (s[E].toNat : Int) base < 0) = false := by simp; omega
        have HA2 := Lib.hid (show ∀ b ∈ l.take (E + 1 - k), digB base b = true from fun b hb => by
          rw [show E + 1 - k = E - k + 1 from by omega, List.take_succ_eq_append_getElem hpl] at hb
          rcases List.mem_append.1 hb with hb | hb
          · exact HA.out b hb
          · rw [List.mem_singleton.1 hb, hget]; exact decide_eq_true hdg)
        have D1 := Lib.hid fun w => refDigit_any (s[E].toNat : Int) base w
        clear hg hget
        by_cases hy : y ≤ 1114111
        · have hmb : 0 ≤ y * base ∧ y * base ≤ 17825776 := by
            refine ⟨Int.mul_nonneg hy0 (by omega), ?_⟩
            have := Int.mul_le_mul hy hb0.2 (by omega) (by omega)
            omega
          have hq2 : decide (y ≤ 1114111) = true := by simp; omega
          have HVT := Lib.hid (show min (y * base + dig (s[E].toNat : Int) base) 1114112 = valP base (l.take (E + 1 - k)) from by
            rw [hvt, show min y 1114112 = y from by omega])
          clear hvt
          generalize dig (s[E].toNat : Int) base = dg at *
          generalize hxm : y * base = xm at *
          have HXM := Lib.hid hxm
          go_wp2_with (go_at_call 47; refine (D1.out _).mono ?_; rintro e w' ⟨rfl, rfl⟩)
          go_round
          case rel => exact ⟨E + 1, xm + dg, by go_num, by first | rfl | go_num, by omega, by omega, by omega, by omega, HVT.out, HA2.out⟩
          case measure => simp [intOf]; omega
        · have hq2 : decide (y ≤ 1114111) = false := by simp; omega
          have HVT := Lib.hid (show min y 1114112 = valP base (l.take (E + 1 - k)) from by
            have h1 : (1114112 : Int) * 2 ≤ 1114112 * base := Int.mul_le_mul_of_nonneg_left hb0.1 (by omega)
            rw [hvt, show min y 1114112 = 1114112 from by omega]
            generalize (1114112 : Int) * base = z at *
            omega)
          clear hvt
          generalize dig (s[E].toNat : Int) base = dg at *
          go_wp2_with (go_at_call 47; refine (D1.out _).mono ?_; rintro e w' ⟨rfl, rfl⟩)
          go_round
          case rel => exact ⟨E + 1, y, by go_num, by first | rfl | go_num, by omega, by omega, by omega, by omega, HVT.out, HA2.out⟩
          case measure => simp [intOf]; omega
      · have hq : decide (dig (s[E].toNat : Int) base < 0) = true := by simp; omega
        have HF2 := Lib.hid (HFIN.out (fun b hb => by rw [hg] at hb; injection hb with hb; rw [← hb]; exact decide_eq_false hdg))
        have D1 := Lib.hid fun w => refDigit_any (s[E].toNat : Int) base w
        clear hg hget hvt
        generalize dig (s[E].toNat : Int) base = dg at *
        have HKE := Lib.hid hkE
        by_cases h0 : E = k
        · have q0 : ((E : Int) == (k : Int)) = true := beq_iff_eq.2 (by omega)
          have q1 : (E == k) = true := beq_iff_eq.2 h0
          have HF3 := Lib.hid (show R = .tuple #[.int .i64 (-1), .int .i64 (E : Int)] from by rw [HF2.out, if_neg (by omega)])
          clear h0
          go_wp2_with (go_at_call 47; refine (D1.out _).mono ?_; rintro e w' ⟨rfl, rfl⟩)
          go_ret2
          exact ⟨by rw [HF3.out]; rfl, rfl⟩
        · have q0 : ((E : Int) == (k : Int)) = false := beq_eq_false_iff_ne.2 (by omega)
          have q1 : (E == k) = false := beq_eq_false_iff_ne.2 h0
          by_cases hy : 1114111 < y
          · have q2 : decide (1114111 < y) = true := decide_eq_true hy
            have HF3 := Lib.hid (show R = .tuple #[.int .i64 (-1), .int .i64 (E : Int)] from by rw [HF2.out, if_neg (by omega)])
            go_wp2_with (go_at_call 47; refine (D1.out _).mono ?_; rintro e w' ⟨rfl, rfl⟩)
            go_ret2
            exact ⟨by rw [HF3.out]; rfl, rfl⟩
          · have q2 : decide (1114111 < y) = false := decide_eq_false hy
            have HF3 := Lib.hid (show R = .tuple #[.int .i64 y, .int .i64 (E : Int)] from by rw [HF2.out, if_pos ⟨by omega, by omega⟩, show min y 1114112 = y from by omega])
            go_wp2_with (go_at_call 47; refine (D1.out _).mono ?_; rintro e w' ⟨rfl, rfl⟩)
            go_ret2
            exact ⟨by rw [HF3.out]; rfl, rfl⟩
    · have t0 : decide ((E : Int) < s.size) = false := by simp; omega
      have HF2 := Lib.hid (HFIN.out (fun b hb => by have := (List.getElem?_eq_some_iff.1 hb).1; rw [HLL.out] at this; omega))
      have HKE := Lib.hid hkE
      by_cases h0 : E = k
      · have q0 : ((E : Int) == (k : Int)) = true := beq_iff_eq.2 (by omega)
        have q1 : (E == k) = true := beq_iff_eq.2 h0
        have HF3 := Lib.hid (show R = .tuple #[.int .i64 (-1), .int .i64 (E : Int)] from by rw [HF2.out, if_neg (by omega)])
        clear h0
        go_wp2_with fail
        go_ret2
        exact ⟨by rw [HF3.out]; rfl, rfl⟩
      · have q0 : ((E : Int) == (k : Int)) = false := beq_eq_false_iff_ne.2 (by omega)
        have q1 : (E == k) = false := beq_eq_false_iff_ne.2 h0
        by_cases hy : 1114111 < y
        · have q2 : decide (1114111 < y) = true := decide_eq_true hy
          have HF3 := Lib.hid (show R = .tuple #[.int .i64 (-1), .int .i64 (E : Int)] from by rw [HF2.out, if_neg (by omega)])
          go_wp2_with fail
          go_ret2
          exact ⟨by rw [HF3.out]; rfl, rfl⟩
        · have q2 : decide (1114111 < y) = false := decide_eq_false hy
          have HF3 := Lib.hid (show R = .tuple #[.int .i64 y, .int .i64 (E : Int)] from by rw [HF2.out, if_pos ⟨by omega, by omega⟩, show min y 1114112 = y from by omega])
          go_wp2_with fail
          go_ret2
          exact ⟨by rw [HF3.out]; rfl, rfl⟩
end Go.Proofs.YtmgnpgbganjgfaaDoor

namespace Go.Proofs.YtmgnpgbganjgfaaDoor
open Go.RowKit

set_option maxRecDepth 100000 in
set_option maxHeartbeats 4000000 in
theorem refNames_any (w : World) : Calls Tryd.prog 38 #[] w fun e w' => e = .returned (.slice (some ⟨w.heap.size, 0, none⟩) 34 34) ∧ w' = w.alloc (.cells namesC 9) := by
  go_enter Tryd.func38, Tryd.ntmps38
  go_wp2_with fail
  go_ret
  exact ⟨rfl, by first | rfl | (congr 1)⟩
end Go.Proofs.YtmgnpgbganjgfaaDoor

