/- DERIVED. The walk of the reference's Lines. -/
import Derived.Test.YthhlnahehpigeaaDoorPlaceE
set_option linter.unusedSimpArgs false
set_option linter.unusedVariables false
namespace Go.Proofs.YthhlnahehpigeaaDoor
open Go.RowKit

set_option maxHeartbeats 1000000 in
theorem refLines_any (s : ByteArray) (w : World) (hs : s.size ≤ 8796093022206) :
    Calls Tryd.prog 32 #[.string s] w fun e w' => ∃ v, e = .returned v ∧ OwnsT w' w.heap.size v (linesL [] s.data.toList) ∧ Below w.heap.size w w' := by
  obtain ⟨R, hR⟩ : ∃ R, linesL [] s.data.toList = R := ⟨_, rfl⟩
  rw [hR]
  have HR := Lib.hid hR
  obtain ⟨i0, hi0, hz0, hz1, hz2⟩ := str_info
  clear hR
  go_enter Tryd.func32, Tryd.ntmps32
  go_wp2_with fail
  go_loopw [3, 4, 5] (fun v a b wr => ∃ (fr i : Nat) (ls : List (List UInt8)), a = .int .i64 fr ∧ b = .int .i64 i ∧ fr ≤ i ∧ i ≤ s.size ∧ ls.length ≤ i ∧ OwnsT wr w.heap.size v ls ∧ Below w.heap.size w wr ∧ ls ++ linesL ((s.data.toList.drop fr).take (i - fr)) (s.data.toList.drop i) = R) (fun _ _ b _ => s.size - (intOf b).toNat)
  case atStart => exact ⟨0, 0, [], rfl, rfl, by omega, by omega, by simp, World.ownsRow_nil _ _ _ _, Below.refl _ _, by simpa using HR.out⟩
  case round =>
    obtain ⟨fr, i, ls, rfl, rfl, hfi, his, hll, hown, hb, hO⟩ := hrel
    have HOWN := Lib.hid hown
    have HB := Lib.hid hb
    have HO := Lib.hid hO
    have hst := hb.size
    clear hown hb hO
    by_cases hi : i < s.size
    · have hne := dropB_ne s i hi
      have n1 := fun w => end_any s i w hi (by omega)
      have hub := nl_le (s.data.toList.drop i)
      rw [List.length_drop, ← Lib.size_eq] at hub
      have h1 := linesL_nl ((s.data.toList.drop fr).take (i - fr)) _ hne
      have h2 := linesL_on ((s.data.toList.drop fr).take (i - fr)) _ hne
      rw [take_on _ _ _ hfi (by rw [← Lib.size_eq]; exact hi), List.drop_drop] at h2
      rw [List.drop_drop] at h1
      generalize nl (s.data.toList.drop i) = U at *
      have N1 := Lib.hid n1; have H1 := Lib.hid h1; have H2 := Lib.hid h2
      clear n1 h1 h2 hne
      by_cases hn : 0 < U
      · have t0 : ((U : Int) == 0) = false := beq_eq_false_iff_ne.2 (by omega)
        go_wp2_with fail
        refine (N1.out _).mono ?_
        rintro e w1 ⟨rfl, rfl⟩
        go_wp2_with (at_builtin; refine wpList_append_own _ rfl _ _ 29 rfl w.heap.size 9 i0 (.string ⟨#[]⟩) 1 16 Tryd.underlying29 hi0 hz0 hz1 hz2 rfl (by decide) _ _ _ rfl (HOWN.out.alloc _) ⟨wr.heap.size, 0, none⟩ 1 1 [strV ((s.data.toList.drop fr).take (i - fr))] rfl rfl (new_row _ _ _ _ (strV_ext _ _ _)) (one_row _) (by simp only [maxLen]; omega) (by omega) (by rw [alloc_size]; omega) ?_; rintro v' w1 hown' hgrow -)
        have hb1 : Below w.heap.size w w1 := (HB.out.alloc (by omega) _).grown hgrow (by rw [alloc_size]; omega) (fun k hk => (HOWN.out.lt k hk).1)
        have HB1 := Lib.hid hb1
        have HOWN1 := Lib.hid (OwnsT.more rfl hown')
        clear hb1 hown' hgrow
        go_wp2_with fail
        go_roundw
        case rel =>
          refine ⟨i + U, i + U, ls ++ [_], by go_num, by go_num, Nat.le_refl _, by omega, by simp; omega, HOWN1.out, HB1.out, ?_⟩
          rw [Nat.sub_self, List.take_zero, List.append_assoc]
          have := H1.out hn
          rw [← HO.out, this]; rfl
        case measure => simp [intOf]; omega
      · have t0 : ((U : Int) == 0) = true := beq_iff_eq.2 (by omega)
        go_wp2_with fail
        refine (N1.out _).mono ?_
        rintro e w1 ⟨rfl, rfl⟩
        go_wp2_with fail
        go_roundw
        case rel =>
          refine ⟨fr, i + 1, ls, rfl, by go_num, by omega, by omega, by omega, HOWN.out, HB.out, ?_⟩
          have := H2.out hn
          rw [← HO.out, this]
        case measure => simp [intOf]; omega
    · have t3 : decide ((i : Int) < s.size) = false := by simp; omega
      have he : R = ls ++ [s.data.toList.drop fr] := by
        rw [← HO.out, show s.data.toList.drop i = [] from List.drop_eq_nil_of_le (by rw [← Lib.size_eq]; omega), linesL_nil, List.take_of_length_le (by rw [List.length_drop, ← Lib.size_eq]; omega)]
      subst he
      go_wp2_with (at_builtin; refine wpList_append_own _ rfl _ _ 29 rfl w.heap.size 9 i0 (.string ⟨#[]⟩) 1 16 Tryd.underlying29 hi0 hz0 hz1 hz2 rfl (by decide) _ _ _ rfl (HOWN.out.alloc _) ⟨wr.heap.size, 0, none⟩ 1 1 [strV (s.data.toList.drop fr)] rfl rfl (new_row _ _ _ _ (strV_end _ _)) (one_row _) (by simp only [maxLen]; omega) (by omega) (by rw [alloc_size]; omega) ?_; rintro v' w1 hown' hgrow -)
      have hb1 : Below w.heap.size w w1 := (HB.out.alloc (by omega) _).grown hgrow (by rw [alloc_size]; omega) (fun k hk => (HOWN.out.lt k hk).1)
      have HB1 := Lib.hid hb1
      have HOWN1 := Lib.hid (OwnsT.more rfl hown')
      clear hb1 hown' hgrow
      go_wp2_with fail
      go_ret
      exact ⟨_, rfl, HOWN1.out, HB1.out⟩
end Go.Proofs.YthhlnahehpigeaaDoor
