/- DERIVED. PLAIN: the decoding of runes on lists of bytes: the model's own, and the reference's. -/
import Derived.Lib.DecodeNEq
import Derived.Lib.Strings
import Derived.Lib.IndexBytes
set_option linter.unusedSimpArgs false
set_option linter.unusedVariables false
namespace Go.Proofs.YtmgnpgbganjgfaaDoor

/-- The rune that begins a text, and how many bytes it has. -/
def dec (l : List UInt8) : Nat × Nat := Lib.decodeN l.length (l.getD 0 0).toNat (l.getD 1 0).toNat (l.getD 2 0).toNat (l.getD 3 0).toNat

theorem get_getD (s : ByteArray) (i : Nat) : s.get! i = s.data.toList.getD i 0 := by
  obtain ⟨d⟩ := s
  show d[i]! = _
  rw [List.getD_eq_getElem?_getD, Array.getElem?_toList]
  by_cases h : i < d.size
  · simp [h]
  · simp [h]; rfl

theorem getD_drop (l : List UInt8) (i k : Nat) : (l.drop i).getD k 0 = l.getD (i + k) 0 := by
  rw [List.getD_eq_getElem?_getD, List.getD_eq_getElem?_getD, List.getElem?_drop]

theorem decode_eq (s : ByteArray) (i : Nat) : Utf8.decode s i = dec (s.data.toList.drop i) := by
  rw [Lib.decode_at]
  unfold dec
  simp only [getD_drop, get_getD, List.length_drop, Lib.size_eq, Nat.add_zero]

/-- A byte of a text; -1: there is none. -/
def byteAt (l : List UInt8) (i : Int) : Int := if 0 ≤ i ∧ i < l.length then ((l.getD i.toNat 0).toNat : Int) else -1

theorem byteAt_bd (l : List UInt8) (i : Int) : -1 ≤ byteAt l i ∧ byteAt l i ≤ 255 := by
  unfold byteAt
  split
  · have := (l.getD i.toNat 0).toNat_lt; omega
  · omega

/-- Next, of a text and a byte. -/
def nextL (l : List UInt8) (i : Int) : Int × Int :=
  if 0 ≤ i ∧ i < l.length then (((dec (l.drop i.toNat)).1 : Int), ((dec (l.drop i.toNat)).2 : Int)) else (0, 0)

/-- What the reference makes of so many bytes that go on. -/
def conts (l : List UInt8) (i : Int) : Nat → Nat → Int → Option Int
  | 0, _, c => some c
  | r + 1, k, c => if byteAt l (i + k) < 128 ∨ byteAt l (i + k) > 191 then none else conts l i r (k + 1) (c * 64 + byteAt l (i + k) - 128)

def fin (n : Nat) (least : Int) : Option Int → Int × Int
  | none => (65533, 1)
  | some c => if c < least ∨ c > 1114111 ∨ (55296 ≤ c ∧ c ≤ 57343) then (65533, 1) else (c, n)

/-- The reference's Next. -/
def refNext (l : List UInt8) (i : Int) : Int × Int :=
  if byteAt l i < 0 then (0, 0)
  else if byteAt l i < 128 then (byteAt l i, 1)
  else if 194 ≤ byteAt l i ∧ byteAt l i ≤ 223 then fin 2 128 (conts l i 1 1 (byteAt l i - 192))
  else if 224 ≤ byteAt l i ∧ byteAt l i ≤ 239 then fin 3 2048 (conts l i 2 1 (byteAt l i - 224))
  else if 240 ≤ byteAt l i ∧ byteAt l i ≤ 244 then fin 4 65536 (conts l i 3 1 (byteAt l i - 240))
  else (65533, 1)

theorem byteAt_of (l : List UInt8) (i : Nat) (h : i < l.length) (k : Nat) : byteAt l ((i : Int) + k) = if k < l.length - i then (((l.drop i).getD k 0).toNat : Int) else -1 := by
  unfold byteAt
  rw [getD_drop, show ((i : Int) + k).toNat = i + k from by omega]
  by_cases hk : k < l.length - i
  · rw [if_pos hk, if_pos (by omega)]
  · rw [if_neg hk, if_neg (by omega)]


set_option maxRecDepth 100000 in
set_option maxHeartbeats 4000000 in
theorem ref_two (n b0 b1 b2 b3 : Nat) (hb : 194 ≤ b0 ∧ b0 ≤ 223) (e1 : Int) (he1 : e1 = if 1 < n then (b1 : Int) else -1) :
    fin 2 128 (if e1 < 128 ∨ e1 > 191 then none else some (((b0 : Int) - 192) * 64 + e1 - 128)) = (((Lib.decodeN n b0 b1 b2 b3).1 : Int), ((Lib.decodeN n b0 b1 b2 b3).2 : Int)) := by
  have d1 : ¬ b0 < 128 := by omega
  have d2 : b0 / 32 = 6 := by omega
  have d3 : ¬ b0 / 16 = 14 := by omega
  have d4 : ¬ b0 / 8 = 30 := by omega
  by_cases c1 : 1 < n ∧ b1 / 64 = 2
  · rw [if_pos c1.1] at he1
    subst he1
    rw [if_neg (by omega)]
    unfold fin Lib.decodeN
    rw [if_neg d1, if_pos ⟨d2, c1⟩]
    simp only
    rw [if_neg (by omega), if_pos (by omega)]
    apply Prod.ext <;> simp only <;> omega
  · rw [if_pos (by split at he1 <;> omega)]
    unfold fin Lib.decodeN
    simp [d1, d3, d4, c1]
set_option maxRecDepth 100000 in
set_option maxHeartbeats 4000000 in
theorem ref_three (n b0 b1 b2 b3 : Nat) (hb : 224 ≤ b0 ∧ b0 ≤ 239) (e1 e2 : Int) (he1 : e1 = if 1 < n then (b1 : Int) else -1) (he2 : e2 = if 2 < n then (b2 : Int) else -1) :
    fin 3 2048 (if e1 < 128 ∨ e1 > 191 then none else if e2 < 128 ∨ e2 > 191 then none else some ((((b0 : Int) - 224) * 64 + e1 - 128) * 64 + e2 - 128)) = (((Lib.decodeN n b0 b1 b2 b3).1 : Int), ((Lib.decodeN n b0 b1 b2 b3).2 : Int)) := by
  have d1 : ¬ b0 < 128 := by omega
  have d2 : ¬ b0 / 32 = 6 := by omega
  have d3 : b0 / 16 = 14 := by omega
  have d4 : ¬ b0 / 8 = 30 := by omega
  by_cases c1 : 1 < n ∧ b1 / 64 = 2
  · by_cases c2 : 2 < n ∧ b2 / 64 = 2
    · rw [if_pos c1.1] at he1
      rw [if_pos c2.1] at he2
      subst he1; subst he2
      rw [if_neg (by omega), if_neg (by omega)]
      unfold fin Lib.decodeN
      rw [if_neg d1, if_neg (by simp [d2]), if_pos ⟨d3, c1, c2⟩]
      simp only
      split <;> rename_i h1
      · rw [if_neg (by omega)]; rfl
      · rw [if_pos (by omega)]
        apply Prod.ext <;> simp only <;> omega
    · rw [if_neg (by split at he1 <;> omega), if_pos (by split at he2 <;> omega)]
      unfold fin Lib.decodeN
      simp [d1, d2, d4, c2]
  · rw [if_pos (by split at he1 <;> omega)]
    unfold fin Lib.decodeN
    simp [d1, d2, d4, c1]
set_option maxRecDepth 100000 in
set_option maxHeartbeats 4000000 in
theorem ref_four (n b0 b1 b2 b3 : Nat) (hb : 240 ≤ b0 ∧ b0 ≤ 244) (e1 e2 e3 : Int) (he1 : e1 = if 1 < n then (b1 : Int) else -1) (he2 : e2 = if 2 < n then (b2 : Int) else -1) (he3 : e3 = if 3 < n then (b3 : Int) else -1) :
    fin 4 65536 (if e1 < 128 ∨ e1 > 191 then none else if e2 < 128 ∨ e2 > 191 then none else if e3 < 128 ∨ e3 > 191 then none else some (((((b0 : Int) - 240) * 64 + e1 - 128) * 64 + e2 - 128) * 64 + e3 - 128)) = (((Lib.decodeN n b0 b1 b2 b3).1 : Int), ((Lib.decodeN n b0 b1 b2 b3).2 : Int)) := by
  have d1 : ¬ b0 < 128 := by omega
  have d2 : ¬ b0 / 32 = 6 := by omega
  have d3 : ¬ b0 / 16 = 14 := by omega
  have d4 : b0 / 8 = 30 := by omega
  by_cases c1 : 1 < n ∧ b1 / 64 = 2
  · by_cases c2 : 2 < n ∧ b2 / 64 = 2
    · by_cases c3 : 3 < n ∧ b3 / 64 = 2
      · rw [if_pos c1.1] at he1
        rw [if_pos c2.1] at he2
        rw [if_pos c3.1] at he3
        subst he1; subst he2; subst he3
        rw [if_neg (by omega), if_neg (by omega), if_neg (by omega)]
        unfold fin Lib.decodeN
        rw [if_neg d1, if_neg (by simp [d2]), if_neg (by simp [d3]), if_pos ⟨d4, c1, c2, c3⟩]
        simp only
        split <;> rename_i h1
        · rw [if_neg (by omega)]; rfl
        · rw [if_pos (by omega)]
          apply Prod.ext <;> simp only <;> omega
      · rw [if_neg (by split at he1 <;> omega), if_neg (by split at he2 <;> omega), if_pos (by split at he3 <;> omega)]
        unfold fin Lib.decodeN
        simp [d1, d2, d3, c3]
    · rw [if_neg (by split at he1 <;> omega), if_pos (by split at he2 <;> omega)]
      unfold fin Lib.decodeN
      simp [d1, d2, d3, c2]
  · rw [if_pos (by split at he1 <;> omega)]
    unfold fin Lib.decodeN
    simp [d1, d2, d3, c1]
theorem ref_else (n b0 b1 b2 b3 : Nat) (h1 : b1 < 256) (h2 : b2 < 256) (h3 : b3 < 256) (hb : (128 ≤ b0 ∧ b0 < 194) ∨ (244 < b0 ∧ b0 < 256)) : Lib.decodeN n b0 b1 b2 b3 = (65533, 1) := by
  unfold Lib.decodeN
  rw [if_neg (by omega)]
  by_cases c1 : b0 / 32 = 6 ∧ (1 < n ∧ b1 / 64 = 2)
  · rw [if_pos c1, if_neg (by omega)]
  rw [if_neg c1]
  rw [if_neg (by omega)]
  by_cases c2 : b0 / 8 = 30 ∧ (1 < n ∧ b1 / 64 = 2) ∧ (2 < n ∧ b2 / 64 = 2) ∧ (3 < n ∧ b3 / 64 = 2)
  · rw [if_pos c2, if_neg (by omega)]
  rw [if_neg c2]

theorem conts1 (l : List UInt8) (i c : Int) : conts l i 1 1 c = if byteAt l (i + (1 : Nat)) < 128 ∨ byteAt l (i + (1 : Nat)) > 191 then none else some (c * 64 + byteAt l (i + (1 : Nat)) - 128) := rfl
theorem conts2 (l : List UInt8) (i c : Int) : conts l i 2 1 c = if byteAt l (i + (1 : Nat)) < 128 ∨ byteAt l (i + (1 : Nat)) > 191 then none else if byteAt l (i + (2 : Nat)) < 128 ∨ byteAt l (i + (2 : Nat)) > 191 then none else some ((c * 64 + byteAt l (i + (1 : Nat)) - 128) * 64 + byteAt l (i + (2 : Nat)) - 128) := rfl
theorem conts3 (l : List UInt8) (i c : Int) : conts l i 3 1 c = if byteAt l (i + (1 : Nat)) < 128 ∨ byteAt l (i + (1 : Nat)) > 191 then none else if byteAt l (i + (2 : Nat)) < 128 ∨ byteAt l (i + (2 : Nat)) > 191 then none else if byteAt l (i + (3 : Nat)) < 128 ∨ byteAt l (i + (3 : Nat)) > 191 then none else some (((c * 64 + byteAt l (i + (1 : Nat)) - 128) * 64 + byteAt l (i + (2 : Nat)) - 128) * 64 + byteAt l (i + (3 : Nat)) - 128) := rfl
/-- The reference's Next is the decoder's. -/
theorem refNext_eq (l : List UInt8) (i : Int) : refNext l i = nextL l i := by
  by_cases h : 0 ≤ i ∧ i < l.length
  · obtain ⟨i, rfl⟩ := Int.eq_ofNat_of_zero_le h.1
    have hi : i < l.length := by omega
    have hb : ∀ k : Nat, byteAt l ((i : Int) + k) = if k < l.length - i then (((l.drop i).getD k 0).toNat : Int) else -1 := byteAt_of l i hi
    have b0 := hb 0
    rw [if_pos (by omega)] at b0
    simp only [Int.natCast_zero, Int.add_zero] at b0
    have e1 := hb 1
    have e2 := hb 2
    have e3 := hb 3
    clear hb
    unfold refNext nextL
    rw [if_pos h, b0]
    rw [conts1, conts2, conts3, Int.toNat_natCast]
    unfold dec
    rw [List.length_drop]
    generalize byteAt l (↑i + ↑1) = x1 at *
    generalize byteAt l (↑i + ↑2) = x2 at *
    generalize byteAt l (↑i + ↑3) = x3 at *
    have t0 := ((l.drop i).getD 0 0).toNat_lt
    have t1 := ((l.drop i).getD 1 0).toNat_lt
    have t2 := ((l.drop i).getD 2 0).toNat_lt
    have t3 := ((l.drop i).getD 3 0).toNat_lt
    generalize ((l.drop i).getD 0 0).toNat = c0 at *
    generalize ((l.drop i).getD 1 0).toNat = c1 at *
    generalize ((l.drop i).getD 2 0).toNat = c2 at *
    generalize ((l.drop i).getD 3 0).toNat = c3 at *
    rw [if_neg (by omega)]
    by_cases r1 : c0 < 128
    · rw [if_pos (by omega)]
      simp [Lib.decodeN, r1]
    rw [if_neg (by omega)]
    by_cases r2 : 194 ≤ c0 ∧ c0 ≤ 223
    · rw [if_pos (by omega)]
      exact ref_two _ _ _ _ _ r2 _ e1
    rw [if_neg (by omega)]
    by_cases r3 : 224 ≤ c0 ∧ c0 ≤ 239
    · rw [if_pos (by omega)]
      exact ref_three _ _ _ _ _ r3 _ _ e1 e2
    rw [if_neg (by omega)]
    by_cases r4 : 240 ≤ c0 ∧ c0 ≤ 244
    · rw [if_pos (by omega)]
      exact ref_four _ _ _ _ _ r4 _ _ _ e1 e2 e3
    rw [if_neg (by omega), ref_else _ _ _ _ _ t1 t2 t3 (by omega)]
    rfl
  · unfold refNext nextL
    rw [if_neg h, if_pos (by unfold byteAt; rw [if_neg h]; omega)]
end Go.Proofs.YtmgnpgbganjgfaaDoor
