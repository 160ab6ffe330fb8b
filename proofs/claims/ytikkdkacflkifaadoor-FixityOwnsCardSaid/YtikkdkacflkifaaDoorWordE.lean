/- DERIVED. The walks of Split and Apart. -/
import Derived.Test.YtikkdkacflkifaaDoorWordC
set_option linter.unusedSimpArgs false
set_option linter.unusedVariables false
namespace Go.Proofs.YtikkdkacflkifaaDoor
open Go.RowKit

/-- What Split hands back. -/
def splitV (s : ByteArray) : Option (Nat × Nat) → Value
  | some (q, n) => .tuple #[.string (s.extract 0 q), .string (s.extract n s.size), .int .i64 0]
  | none => .tuple #[.string ⟨#[]⟩, .string ⟨#[]⟩, .int .i64 30]

set_option maxHeartbeats 2000000 in
theorem split_any (s : ByteArray) (w : World) (hs : s.size ≤ 1152921504606846976) (hT : Tabs w) :
    Calls Tryd.prog 32 #[.string s] w fun e w' => e = .returned (splitV s (splitW s.data.toList)) ∧ Below w.heap.size w w' := by
  have s1 := scanW_any s w hs hT
  have hle := scanW_le s.data.toList
  rw [← Lib.size_eq] at hle
  have hah := scan_ahead s.data.toList
  have hk : kindW s.data.toList = if (scanW s.data.toList).2.1 = s.size then (scanW s.data.toList).1 else 0 := by unfold kindW; rw [← Lib.size_eq]
  have hsp : splitW s.data.toList = if qual (kindW s.data.toList) then some ((scanW s.data.toList).2.2 - 1, (scanW s.data.toList).2.2) else if kindW s.data.toList = 1 ∨ kindW s.data.toList = 2 ∨ kindW s.data.toList = 5 ∨ kindW s.data.toList = 6 then some (0, 0) else none := by
    unfold splitW qual; rfl
  rw [hsp]
  clear hsp
  generalize kindW s.data.toList = K at *
  generalize scanW s.data.toList = R at *
  by_cases hR : R.2.1 = s.size
  · rw [if_pos hR] at hk
    subst hk
    have hx : s.extract 0 R.2.1 = s := by rw [hR]; exact ByteArray.extract_zero_size
    rw [hx] at s1
    have hb : (s.toList == s.toList) = true := by simp
    by_cases hq : qual R.1
    · rw [if_pos hq]
      obtain ⟨a1, a2⟩ := hah hq
      rw [hR] at a2
      obtain ⟨k, n, a⟩ := R
      simp only at *
      obtain ⟨m, rfl⟩ : ∃ m, a = m + 1 := ⟨a - 1, by omega⟩
      have S1 := Lib.hid s1
      clear s1 hR hx hT hle hah
      unfold splitV
      have g1 : IntKind.i64.wrap ((m : Int) + 1 - 1) = (m : Int) := by rw [IntWalk.i64_in _ (by omega)]; omega
      have g2 : (0 : Int) ≤ (m : Int) := by omega
      have g4 : (m : Int) ≤ (s.size : Int) := by omega
      have g5 : (m : Int) + 1 ≤ (s.size : Int) := by omega
      have g6 : (0 : Int) ≤ (m : Int) + 1 := by omega
      have g7 : ((m : Int) + 1).toNat = m + 1 := by omega
      have g8 : IntKind.i64.wrap ((m : Int) + 1) = (m : Int) + 1 := IntWalk.i64_in _ (by omega)
      have G1 := Lib.hid g1; have G7 := Lib.hid g7; have G8 := Lib.hid g8
      clear g1 g7 g8
      unfold qual at hq
      rcases hq with rfl | rfl | rfl | rfl
      all_goals
        go_enter Tryd.func32, Tryd.ntmps32
        go_wp2_with fail
        refine S1.out.mono ?_
        rintro e w1 ⟨rfl, hb1⟩
        have HB := Lib.hid hb1
        clear hb1
        go_wp2_with fail
        have g1 := G1.out
        have g7 := G7.out
        have g8 := G8.out
        go_quiet (fail)
        clear g1 g7 g8
        go_wp2_with fail
        go_ret3
        exact ⟨rfl, below_drewN HB.out _⟩
    · rw [if_neg hq]
      by_cases hp : R.1 = 1 ∨ R.1 = 2 ∨ R.1 = 5 ∨ R.1 = 6
      · rw [if_pos hp]
        have hv : splitV s (some (0, 0)) = .tuple #[.string ⟨#[]⟩, .string s, .int .i64 0] := by
          unfold splitV; simp only; rw [ext_nil, ByteArray.extract_zero_size]
        rw [hv]
        clear hv
        obtain ⟨k, n, a⟩ := R
        simp only at *
        have S1 := Lib.hid s1
        clear s1 hR hx hT hle hah hq
        rcases hp with rfl | rfl | rfl | rfl
        all_goals
          go_enter Tryd.func32, Tryd.ntmps32
          go_wp2_with fail
          refine S1.out.mono ?_
          rintro e w1 ⟨rfl, hb1⟩
          have HB := Lib.hid hb1
          clear hb1
          go_wp2_with fail
          go_ret3
          exact ⟨rfl, HB.out⟩
      · rw [if_neg hp]
        unfold splitV
        obtain ⟨k, n, a⟩ := R
        simp only at *
        have S1 := Lib.hid s1
        have c1 : (k == 1) = false := beq_eq_false_iff_ne.2 (by omega)
        have c2 : (k == 2) = false := beq_eq_false_iff_ne.2 (by omega)
        have c3 : (k == 3) = false := beq_eq_false_iff_ne.2 (by omega)
        have c4 : (k == 4) = false := beq_eq_false_iff_ne.2 (by omega)
        have c5 : (k == 5) = false := beq_eq_false_iff_ne.2 (by omega)
        have c6 : (k == 6) = false := beq_eq_false_iff_ne.2 (by omega)
        have c7 : (k == 7) = false := beq_eq_false_iff_ne.2 (by omega)
        have c8 : (k == 8) = false := beq_eq_false_iff_ne.2 (by omega)
        clear s1 hR hx hT hle hah hq hp
        go_enter Tryd.func32, Tryd.ntmps32
        go_wp2_with fail
        refine S1.out.mono ?_
        rintro e w1 ⟨rfl, hb1⟩
        have HB := Lib.hid hb1
        clear hb1
        go_wp2_with fail
        go_ret3
        exact ⟨rfl, HB.out⟩
  · rw [if_neg hR] at hk
    subst hk
    rw [if_neg (by unfold qual; omega), if_neg (by omega)]
    unfold splitV
    have hb := ext_ne s R.2.1 s.size rfl hR hle
    have S1 := Lib.hid s1
    clear s1 hR hT hah
    generalize s.extract 0 R.2.1 = x at *
    go_enter Tryd.func32, Tryd.ntmps32
    go_wp2_with fail
    refine S1.out.mono ?_
    rintro e w1 ⟨rfl, hb1⟩
    have HB := Lib.hid hb1
    clear hb1
    go_wp2_with fail
    go_ret3
    exact ⟨rfl, HB.out⟩

end Go.Proofs.YtikkdkacflkifaaDoor
