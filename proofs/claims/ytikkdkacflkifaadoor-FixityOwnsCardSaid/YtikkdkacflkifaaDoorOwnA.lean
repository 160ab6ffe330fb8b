/- DERIVED. PLAIN: the fixities that a declaration tells. DERIVED. The walk of side. -/
import Derived.Test.YtikkdkacflkifaaDoorFixC
import Derived.Test.YtikkdkacflkifaaDoorNumP
set_option linter.unusedSimpArgs false
set_option linter.unusedVariables false
namespace Go.Proofs.YtikkdkacflkifaaDoor

def infixlB : ByteArray := ⟨#[105, 110, 102, 105, 120, 108]⟩
def infixrB : ByteArray := ⟨#[105, 110, 102, 105, 120, 114]⟩
def infixB : ByteArray := ⟨#[105, 110, 102, 105, 120]⟩
def commaB : ByteArray := ⟨#[44]⟩
/-- The side that a word tells. -/
def sideW (s : ByteArray) : Int := if s = infixlB then 1 else if s = infixrB then 2 else if s = infixB then 3 else 0
def sideX (t : Tr) : Int := if t.kind = 1 ∧ t.form = 9 then sideW t.text else 0
/-- Names with commas between. -/
def ownGo (sd pr : Int) : Bool → List Tr → List Fx → Option (List Fx)
  | _, [], acc => some acc
  | true, k :: r, acc => if k.kind = 1 ∧ k.form = 15 ∧ k.text = commaB then ownGo sd pr false r acc else none
  | false, k :: r, acc => match nameX k with
    | none => none
    | some s => ownGo sd pr true r (acc ++ [⟨s, sd, pr⟩])
def ownTail (sd pr : Int) (l : List Tr) : Option (List Fx) := if l.length % 2 = 0 then none else ownGo sd pr false l []
/-- The precedence that is told, and how many kids stand ahead of the names; none: it may not be. -/
def precX (k : Tr) : Option (Int × Nat) :=
  if k.kind = 1 ∧ k.form = 11 then (if (valueX k.text.data.toList).2 = 0 ∧ (valueX k.text.data.toList).1 ≤ 9 then some ((valueX k.text.data.toList).1, 2) else none) else some (9, 1)
def Tr.kid (t : Tr) (i : Nat) : Tr := (t.kids[i]?).getD (.mk 0 0 ⟨#[]⟩ 0 0 [])
theorem Tr.kid_eq (t : Tr) (i : Nat) (h : i < t.kids.length) : t.kids[i] = t.kid i := by unfold Tr.kid; rw [List.getElem?_eq_getElem h]; rfl
def ownX (t : Tr) : Option (List Fx) :=
  if t.kind = 35 ∧ 2 ≤ t.kids.length ∧ sideX (t.kid 0) ≠ 0 then
    match precX (t.kid 1) with
    | none => none
    | some (pr, n) => ownTail (sideX (t.kid 0)) pr (t.kids.drop n)
  else none
theorem ownGo_nil (sd pr : Int) (b : Bool) (acc : List Fx) : ownGo sd pr b [] acc = some acc := by cases b <;> rw [ownGo]
theorem ownGo_comma (sd pr : Int) (k : Tr) (r : List Tr) (acc : List Fx) : ownGo sd pr true (k :: r) acc = if k.kind = 1 ∧ k.form = 15 ∧ k.text = commaB then ownGo sd pr false r acc else none := by rw [ownGo]
theorem ownGo_name (sd pr : Int) (k : Tr) (r : List Tr) (acc : List Fx) : ownGo sd pr false (k :: r) acc = match nameX k with | none => none | some s => ownGo sd pr true r (acc ++ [⟨s, sd, pr⟩]) := by rw [ownGo]
theorem sideW_bd (s : ByteArray) : 0 ≤ sideW s ∧ sideW s ≤ 3 := by unfold sideW; split <;> (try split) <;> (try split) <;> omega
theorem sideX_bd (t : Tr) : 0 ≤ sideX t ∧ sideX t ≤ 3 := by unfold sideX; split; exact sideW_bd _; omega
end Go.Proofs.YtikkdkacflkifaaDoor

namespace Go.Proofs.YtikkdkacflkifaaDoor
open Go.RowKit

theorem infixl_list : infixlB.toList = [105, 110, 102, 105, 120, 108] := by decide +kernel
theorem infixr_list : infixrB.toList = [105, 110, 102, 105, 120, 114] := by decide +kernel
theorem infix_list : infixB.toList = [105, 110, 102, 105, 120] := by decide +kernel
theorem comma_list : commaB.toList = [44] := by decide +kernel
/-- What the three tests on a word give. -/
theorem side_cases (s : ByteArray) : ((s.toList == [105, 110, 102, 105, 120, 108]) = true ∧ sideW s = 1) ∨ ((s.toList == [105, 110, 102, 105, 120, 108]) = false ∧ (s.toList == [105, 110, 102, 105, 120, 114]) = true ∧ sideW s = 2) ∨ ((s.toList == [105, 110, 102, 105, 120, 108]) = false ∧ (s.toList == [105, 110, 102, 105, 120, 114]) = false ∧ (s.toList == [105, 110, 102, 105, 120]) = true ∧ sideW s = 3) ∨ ((s.toList == [105, 110, 102, 105, 120, 108]) = false ∧ (s.toList == [105, 110, 102, 105, 120, 114]) = false ∧ (s.toList == [105, 110, 102, 105, 120]) = false ∧ sideW s = 0) := by
  unfold sideW
  rw [← infixl_list, ← infixr_list, ← infix_list]
  by_cases h1 : s = infixlB
  · exact .inl ⟨op_eq h1, if_pos h1⟩
  · by_cases h2 : s = infixrB
    · exact .inr (.inl ⟨op_ne h1, op_eq h2, by rw [if_neg h1, if_pos h2]⟩)
    · by_cases h3 : s = infixB
      · exact .inr (.inr (.inl ⟨op_ne h1, op_ne h2, op_eq h3, by rw [if_neg h1, if_neg h2, if_pos h3]⟩))
      · exact .inr (.inr (.inr ⟨op_ne h1, op_ne h2, op_ne h3, by rw [if_neg h1, if_neg h2, if_neg h3]⟩))
set_option maxHeartbeats 2000000 in
theorem side_any (t : Tr) (kv : Value) (w : World) :
    Calls Tryd.prog 43 #[nodeV t kv] w fun e w' => e = .returned (.int .i64 (sideX t)) ∧ Below w.heap.size w w' := by
  have HB := Lib.hid ((Below.refl w.heap.size w).alloc (Nat.le_refl _) (.cells #[.int .i64 t.kind, .int .i64 t.form, .string t.text, .int .i64 t.line, .int .i64 t.col, kv] 32))
  have HN := Lib.hid (rowN_new w t kv)
  obtain ⟨d0, d1, d2, d3, d4, d5⟩ := HN.out.cells
  obtain ⟨R, hR⟩ : ∃ R, sideX t = R := ⟨_, rfl⟩
  rw [hR]
  unfold sideX at hR
  unfold nodeV
  by_cases h1 : t.kind = 1
  · have t1 : (t.kind != 1) = false := by simp; exact h1
    by_cases h2 : t.form = 9
    · have t2 : (t.form != 9) = false := by simp; exact h2
      rw [if_pos ⟨h1, h2⟩] at hR
      have hc := side_cases t.text
      rw [hR] at hc
      clear hR h1 h2
      rcases hc with ⟨q1, rfl⟩ | ⟨q1, q2, rfl⟩ | ⟨q1, q2, q3, rfl⟩ | ⟨q1, q2, q3, rfl⟩
      all_goals
        go_enter Tryd.func43, Tryd.ntmps43
        go_wp2_with fail
        go_ret
        exact ⟨rfl, HB.out⟩
    · have t2 : (t.form != 9) = true := by rw [bne_iff_ne]; exact h2
      rw [if_neg (fun h => h2 h.2)] at hR
      subst hR
      clear h1 h2
      go_enter Tryd.func43, Tryd.ntmps43
      go_wp2_with fail
      go_ret
      exact ⟨rfl, HB.out⟩
  · have t1 : (t.kind != 1) = true := by rw [bne_iff_ne]; exact h1
    rw [if_neg (fun h => h1 h.1)] at hR
    subst hR
    clear h1
    go_enter Tryd.func43, Tryd.ntmps43
    go_wp2_with fail
    go_ret
    exact ⟨rfl, HB.out⟩
end Go.Proofs.YtikkdkacflkifaaDoor

