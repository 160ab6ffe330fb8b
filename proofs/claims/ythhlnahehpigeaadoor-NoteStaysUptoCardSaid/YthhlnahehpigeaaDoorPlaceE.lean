/- DERIVED. The walks of place's Lines and the reference's. -/
import Derived.Test.YthhlnahehpigeaaDoorPlaceA
import Derived.Test.YthhlnahehpigeaaDoorSpan
set_option linter.unusedSimpArgs false
set_option linter.unusedVariables false
namespace Go.Proofs.YthhlnahehpigeaaDoor
open Go.RowKit

/-- A text as a value. -/
def strV (l : List UInt8) : Value := .string ⟨l.toArray⟩
theorem strV_of (s : ByteArray) : Value.string s = strV s.data.toList := by unfold strV; obtain ⟨d⟩ := s; simp
theorem strV_ext (s : ByteArray) (a b : Nat) : Value.string (s.extract a b) = strV ((s.data.toList.drop a).take (b - a)) := by rw [strV_of, Lib.extract_data]
theorem strV_end (s : ByteArray) (a : Nat) : Value.string (s.extract a s.size) = strV (s.data.toList.drop a) := by rw [strV_ext, List.take_of_length_le (by rw [List.length_drop, ← Lib.size_eq]; exact Nat.le_refl _)]
theorem linesL_nil (cur : List UInt8) : linesL cur [] = [cur] := by rw [linesL]; simp
theorem linesL_nl (cur l : List UInt8) (h : l ≠ []) (hn : 0 < nl l) : linesL cur l = cur :: linesL [] (l.drop (nl l)) := by rw [linesL, dif_neg h, if_pos hn]
theorem linesL_on (cur l : List UInt8) (h : l ≠ []) (hn : ¬ 0 < nl l) : linesL cur l = linesL (cur ++ [l.getD 0 0]) (l.drop 1) := by rw [linesL, dif_neg h, if_neg hn]
theorem take_on (l : List UInt8) (a i : Nat) (ha : a ≤ i) (hi : i < l.length) : (l.drop a).take (i - a) ++ [(l.drop i).getD 0 0] = (l.drop a).take (i + 1 - a) := by
  rw [show i + 1 - a = (i - a) + 1 from by omega, List.take_add_one, getD_drop, List.getElem?_drop, show a + (i - a) = i from by omega, List.getD_eq_getElem?_getD, Nat.add_zero, List.getElem?_eq_getElem hi]
  rfl

theorem str_info : ∃ i, Tryd.prog.info? 9 = some i ∧ i.zero = some (.string ⟨#[]⟩) ∧ i.size = 1 ∧ i.bytes = 16 := by
  have h : (Tryd.prog.info? 9).map (fun i => (i.zero, i.size, i.bytes)) = some (some (.string ⟨#[]⟩), 1, 16) := by kernel_rfl
  cases e : Tryd.prog.info? 9 with
  | none => rw [e] at h; cases h
  | some i =>
    rw [e] at h
    simp only [Option.map_some, Option.some.injEq, Prod.mk.injEq] at h
    exact ⟨i, rfl, h.1, h.2.1, h.2.2⟩

/-- A row of texts that is the call's own. -/
def OwnsT (w : World) (B : Nat) (v : Value) (ls : List (List UInt8)) : Prop := w.ownsRow B 9 1 v ls.length (ls.map strV)

theorem OwnsT.more {w : World} {B : Nat} {v : Value} {ls : List (List UInt8)} {l : List UInt8} {n : Nat} (hn : n = ls.length + 1) (h : w.ownsRow B 9 1 v n (ls.map strV ++ [strV l])) : OwnsT w B v (ls ++ [l]) := by
  subst hn
  unfold OwnsT
  rw [List.length_append, List.map_append]
  exact h

theorem new_row (w : World) (x y : Value) (t : TypeId) (h : x = y) : ∀ j u, [y][j]? = some u → (w.alloc (.cells #[x] t)).cell? ((⟨w.heap.size, 0, none⟩ : Addr).add j) = some u := by
  subst h
  intro j u hj
  match j, hj with
  | 0, hj => simp at hj; subst hj; simp [Addr.add]
theorem one_row (l : List UInt8) : ∀ u ∈ [strV l], u.oneCell' = true := by
  intro u hu; simp at hu; subst hu; rfl

set_option maxHeartbeats 1000000 in
theorem lines_any (s : ByteArray) (w : World) (hs : s.size ≤ 8796093022206) :
    Calls Tryd.prog 30 #[.string s] w fun e w' => ∃ v, e = .returned v ∧ OwnsT w' w.heap.size v (linesL [] s.data.toList) ∧ Below w.heap.size w w' := by
  obtain ⟨R, hR⟩ : ∃ R, linesL [] s.data.toList = R := ⟨_, rfl⟩
  rw [hR]
  have HR := Lib.hid hR
  obtain ⟨i0, hi0, hz0, hz1, hz2⟩ := str_info
  clear hR
  go_enter Tryd.func30, Tryd.ntmps30
  go_wp2_with fail
  go_loopw [3, 4, 5] (fun v a b wr => ∃ (fr i : Nat) (ls : List (List UInt8)), a = .int .i64 fr ∧ b = .int .i64 i ∧ fr ≤ i ∧ i ≤ s.size ∧ ls.length ≤ i ∧ OwnsT wr w.heap.size v ls ∧ Below w.heap.size w wr ∧ ls ++ linesL ((s.data.toList.drop fr).take (i - fr)) (s.data.toList.drop i) = R) (fun _ _ b _ => s.size - (intOf b).toNat)
  case atStart =>
    refine ⟨0, 0, [], rfl, rfl, by omega, by omega, by simp, ?_, (Below.refl _ _).alloc (Nat.le_refl _) _, by simpa using HR.out⟩
    exact World.ownsRow_made _ #[] 0 (Nat.le_refl _) (by decide) rfl
  case round =>
    obtain ⟨fr, i, ls, rfl, rfl, hfi, his, hll, hown, hb, hO⟩ := hrel
    have HOWN := Lib.hid hown
    have HB := Lib.hid hb
    have HO := Lib.hid hO
    have hst := hb.size
    clear hown hb hO
    by_cases hi : i < s.size
    · have hne : s.data.toList.drop i ≠ [] := dropB_ne s i hi
      have n1 := fun w => newline_any s i w hi (by omega)
      have hub := nl_le (s.data.toList.drop i)
      rw [List.length_drop, ← Lib.size_eq] at hub
      have h1 := linesL_nl ((s.data.toList.drop fr).take (i - fr)) _ hne
      have h2 := linesL_on ((s.data.toList.drop fr).take (i - fr)) _ hne
      rw [take_on _ _ _ hfi (by rw [← Lib.size_eq]; exact hi), List.drop_drop] at h2
      rw [List.drop_drop] at h1
      generalize nl (s.data.toList.drop i) = U at *
      have N1 := Lib.hid n1; have H1 := Lib.hid h1; have H2 := Lib.hid h2
      clear n1 h1 h2 hne
      by_cases hn : 0 < U
      · have t0 : decide ((0 : Int) < U) = true := by simp; omega
        have t1 : max (U : Int) 1 = U := by omega
        go_wp2_with fail
        refine (N1.out _).mono ?_
        rintro e w1 ⟨rfl, rfl⟩
        go_wp2_with (at_builtin; refine wpList_append_own _ rfl _ _ 29 rfl w.heap.size 9 i0 (.string ⟨#[]⟩) 1 16 Tryd.underlying29 hi0 hz0 hz1 hz2 rfl (by decide) _ _ _ rfl (HOWN.out.alloc _) ⟨wr.heap.size, 0, none⟩ 1 1 [strV ((s.data.toList.drop fr).take (i - fr))] rfl rfl (new_row _ _ _ _ (strV_ext _ _ _)) (one_row _) (by simp only [maxLen]; omega) (by omega) (by rw [alloc_size]; omega) ?_; rintro v' w1 hown' hgrow -)
        have hb1 : Below w.heap.size w w1 := (HB.out.alloc (by omega) _).grown hgrow (by rw [alloc_size]; omega) (fun k hk => (HOWN.out.lt k hk).1)
        have HB1 := Lib.hid hb1
        have HOWN1 := Lib.hid (OwnsT.more rfl hown')
        clear hb1 hown' hgrow
        go_wp2_with fail
        go_roundw
        case rel =>
          refine ⟨i + U, i + U, ls ++ [_], by go_num, by go_num, Nat.le_refl _, by omega, by simp; omega, HOWN1.out, HB1.out, ?_⟩
          rw [Nat.sub_self, List.take_zero, List.append_assoc]
          have := H1.out hn
          rw [← HO.out, this]; rfl
        case measure => simp [intOf]; omega
      · have t0 : decide ((0 : Int) < U) = false := by simp; omega
        have t1 : max (U : Int) 1 = 1 := by omega
        go_wp2_with fail
        refine (N1.out _).mono ?_
        rintro e w1 ⟨rfl, rfl⟩
        go_wp2_with fail
        go_roundw
        case rel =>
          refine ⟨fr, i + 1, ls, rfl, by go_num, by omega, by omega, by omega, HOWN.out, HB.out, ?_⟩
          have := H2.out hn
          rw [← HO.out, this]
        case measure => simp [intOf]; omega
    · have t3 : decide ((i : Int) < s.size) = false := by simp; omega
      have he : R = ls ++ [s.data.toList.drop fr] := by
        rw [← HO.out, show s.data.toList.drop i = [] from List.drop_eq_nil_of_le (by rw [← Lib.size_eq]; omega), linesL_nil, List.take_of_length_le (by rw [List.length_drop, ← Lib.size_eq]; omega)]
      subst he
      go_wp2_with (at_builtin; refine wpList_append_own _ rfl _ _ 29 rfl w.heap.size 9 i0 (.string ⟨#[]⟩) 1 16 Tryd.underlying29 hi0 hz0 hz1 hz2 rfl (by decide) _ _ _ rfl (HOWN.out.alloc _) ⟨wr.heap.size, 0, none⟩ 1 1 [strV (s.data.toList.drop fr)] rfl rfl (new_row _ _ _ _ (strV_end _ _)) (one_row _) (by simp only [maxLen]; omega) (by omega) (by rw [alloc_size]; omega) ?_; rintro v' w1 hown' hgrow -)
      have hb1 : Below w.heap.size w w1 := (HB.out.alloc (by omega) _).grown hgrow (by rw [alloc_size]; omega) (fun k hk => (HOWN.out.lt k hk).1)
      have HB1 := Lib.hid hb1
      have HOWN1 := Lib.hid (OwnsT.more rfl hown')
      clear hb1 hown' hgrow
      go_wp2_with fail
      go_ret
      exact ⟨_, rfl, HOWN1.out, HB1.out⟩
end Go.Proofs.YthhlnahehpigeaaDoor
