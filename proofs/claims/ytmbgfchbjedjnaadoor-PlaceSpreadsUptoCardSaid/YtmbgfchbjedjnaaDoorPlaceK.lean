/- DERIVED. The walk of the reference's Spread. -/
import Derived.Test.YtmbgfchbjedjnaaDoorPlaceJ
import Derived.Lib.BufSteps
set_option linter.unusedSimpArgs false
set_option linter.unusedVariables false
namespace Go.Proofs.YtmbgfchbjedjnaaDoor
open Go.RowKit

theorem byte_info : ∃ i, Tryd.prog.info? 5 = some i ∧ i.zero = some (.int .u8 0) ∧ i.size = 1 ∧ i.bytes = 1 := by
  have h : (Tryd.prog.info? 5).map (fun i => (i.zero, i.size, i.bytes)) = some (some (.int .u8 0), 1, 1) := by kernel_rfl
  cases e : Tryd.prog.info? 5 with
  | none => rw [e] at h; cases h
  | some i =>
    rw [e] at h
    simp only [Option.map_some, Option.some.injEq, Prod.mk.injEq] at h
    exact ⟨i, rfl, h.1, h.2.1, h.2.2⟩

/-- A buffer that the call owns, as a text. -/
theorem buf_text (w W0 : World) (B : Nat) (v : Value) (l : List UInt8) (h : Lib.OwnBuf B 5 v l.length (Lib.byteCells l) W0 w) :
    (convert 42 9 v).run Tryd.prog w = .ok (strV l) w := by
  obtain ⟨⟨_, ⟨rfl, h0⟩ | ⟨g, cap, cur, fz, rfl, _, hg, _, _, _, hcs, htake⟩⟩, _, _⟩ := h
  · have : l = [] := List.eq_nil_of_length_eq_zero h0
    subst this
    rfl
  · refine run_convert_bytes_back (P := Tryd.prog) w _ _ 5 ⟨g, 0, none⟩ cap l Tryd.underlying42 Tryd.underlying5 Tryd.underlying9 (fun j hj => ?_)
    have h1 : w.cell? ⟨g, j, none⟩ = cur[j]? := cell_of_row _ _ _ _ _ _ hg
    have h2 : (cur.toList.take (l.length * 1))[j]? = (Lib.byteCells l)[j]? := by rw [htake]
    rw [List.getElem?_take, if_pos (by omega)] at h2
    have h3 : (⟨g, 0, none⟩ : Addr).add j = ⟨g, j, none⟩ := by simp [Addr.add]; intro h; subst h; rfl
    rw [h3, h1, ← Array.getElem?_toList, h2]
    simp [Lib.byteCells, List.getElem?_eq_getElem hj]

theorem buf_more {w W0 : World} {B n m : Nat} {v : Value} {l p : List UInt8} {xs : List Value} (h : Lib.OwnBuf B 5 v m (Lib.byteCells l ++ xs) W0 w) (hx : xs = Lib.byteCells p) (hm : m = l.length + n) (hn : n = p.length) :
    Lib.OwnBuf B 5 v (l ++ p).length (Lib.byteCells (l ++ p)) W0 w := by
  subst hx hm hn
  rw [List.length_append, Lib.byteCells_append]; exact h

set_option maxHeartbeats 2000000 in
theorem refSpread_any (s : ByteArray) (w : World) (hs : s.size ≤ 1048576) :
    Calls Tryd.prog 19 #[.string s] w fun e w' => e = .returned (strV (spreadL s.data.toList 1)) ∧ Below w.heap.size w w' := by
  obtain ⟨R, hR⟩ : ∃ R, spreadL s.data.toList 1 = R := ⟨_, rfl⟩
  rw [hR]
  have HR := Lib.hid hR
  obtain ⟨i0, hi0, hz0, hz1, hz2⟩ := byte_info
  clear hR
  go_enter Tryd.func19, Tryd.ntmps19
  go_wp2_with fail
  go_loopw [3, 4, 5] (fun v c a wr => ∃ (i : Nat) (col : Int) (acc : List UInt8), a = .int .i64 i ∧ c = .int .i64 col ∧ Lib.OwnBuf w.heap.size 5 v acc.length (Lib.byteCells acc) w wr ∧ i ≤ s.size ∧ (1 ≤ col ∧ col ≤ 1 + 8 * i) ∧ acc.length ≤ 8 * i ∧ acc ++ spreadL (s.data.toList.drop i) col = R) (fun _ _ a _ => s.size - (intOf a).toNat)
  case atStart =>
    exact ⟨0, 1, [], rfl, rfl, ⟨World.ownsRowF_nil _ _ _ _, Below.refl _ _, Nat.le_refl _⟩, by omega, by omega, by simp, by simpa using HR.out⟩
  case round =>
    obtain ⟨i, col, acc, rfl, rfl, hob, his, hc, hal, hO⟩ := hrel
    have HOB := Lib.hid hob
    have HO := Lib.hid hO
    clear hob hO
    by_cases hi : i < s.size
    · have hne := drop_ne s i hi
      have n1 := fun w => end_any s i w hi (by omega)
      have x1 := fun w => refNext_any s i w (by omega)
      rw [nextL_at s i hi] at x1
      have hub := unit_bd _ hne
      rw [List.length_drop, ← Lib.size_eq] at hub
      have c9 : ((s[i].toNat : Int) == 9) = (s[i] == 9) := toNat_beq _ 9
      have hb9 : (s.data.toList.drop i).getD 0 0 = s[i] := by rw [getD_drop, Nat.add_zero, ← byte_at s i hi]
      by_cases hn : 0 < nl (s.data.toList.drop i)
      · have hon := spreadL_on (s.data.toList.drop i) col hne (.inl hn)
        have hcs : colS (s.data.toList.drop i) col = 1 := by unfold colS; rw [if_pos hn]
        have hu : unit (s.data.toList.drop i) = nl (s.data.toList.drop i) := by unfold unit; rw [if_pos hn]
        rw [List.drop_drop, hu, hcs] at hon
        rw [hu] at hub
        clear hu hcs hb9 c9 x1 hne
        generalize nl (s.data.toList.drop i) = U at *
        have N1 := Lib.hid n1; have HON := Lib.hid hon
        have t0 : decide ((0 : Int) < U) = true := by simp; omega
        clear n1 hon
        go_wp2_with fail
        refine (N1.out _).mono ?_
        rintro e w1 ⟨rfl, rfl⟩
        go_wp2_with (at_builtin; refine Lib.wpList_append_text rfl _ _ 42 9 rfl w.heap.size 5 i0 Tryd.underlying42 Tryd.underlying9 hi0 hz0 hz1 hz2 _ _ _ rfl w HOB.out (s.extract i (i + U)) rfl (by have := ext_size s i (i + U); omega) ?_; rintro v' w1 hob1)
        have HOB1 := Lib.hid (buf_more hob1 (p := (s.data.toList.drop i).take U) (by rw [Lib.strCells_eq, Lib.extract_data, Nat.add_sub_cancel_left]) rfl (by rw [List.length_take, List.length_drop, ← Lib.size_eq]; simp [ByteArray.size_extract]; omega))
        clear hob1
        go_wp2_with fail
        go_roundw
        case rel =>
          refine ⟨i + U, 1, _, by go_num, rfl, HOB1.out, by omega, by omega, ?_, ?_⟩
          · rw [List.length_append, List.length_take]; omega
          · rw [← HO.out, HON.out, List.append_assoc]
        case measure => simp [intOf]; omega
      · have hu : unit (s.data.toList.drop i) = (dec (s.data.toList.drop i)).2 := by unfold unit; rw [if_neg hn]
        have hun : ¬ 0 < nl (s.data.toList.drop i) := hn
        rw [hu] at hub
        by_cases h9 : s[i] = 9
        · have hon := spreadL_tab (s.data.toList.drop i) col hne (by rw [hb9]; exact h9)
          rw [List.drop_drop, hu] at hon
          rw [beq_iff_eq.2 h9] at c9
          have hsb := stopC_bd col
          have hst8 : (stopC col) % 8 = 1 ∧ stopC col = (col - 1) / 8 * 8 + 9 := by unfold stopC; omega
          clear hu hb9 hne h9 hun
          generalize stopC col = C at *
          generalize nl (s.data.toList.drop i) = n at *
          generalize dec (s.data.toList.drop i) = D at *
          obtain ⟨d, U⟩ := D
          simp only at *
          have N1 := Lib.hid n1; have HON := Lib.hid hon; have X1 := Lib.hid x1
          have t0 : decide ((0 : Int) < n) = false := by simp; omega
          clear n1 x1 hon
          go_wp2_with fail
          refine (N1.out _).mono ?_
          rintro e w1 ⟨rfl, rfl⟩
          go_wp2_with fail
          refine (X1.out _).mono ?_
          rintro e w1 ⟨rfl, rfl⟩
          go_wp2_with (at_builtin; refine Lib.wpList_append_byte rfl _ _ 42 rfl w.heap.size 5 i0 Tryd.underlying42 hi0 hz0 hz1 hz2 _ _ _ ?hs w _ 32 HOB.out ?hx (by omega) ?_; (case hs => rfl); (case hx => rfl); rintro v' w1 hob1)
          have HOB1 := Lib.hid (buf_more hob1 (p := [32]) rfl rfl rfl)
          clear hob1
          go_wp2_with fail
          go_loopw [3, 4] (fun v c wr => ∃ (k : Nat), c = .int .i64 (col + k) ∧ 1 ≤ k ∧ col + k ≤ C ∧ Lib.OwnBuf w.heap.size 5 v (acc ++ List.replicate k 32).length (Lib.byteCells (acc ++ List.replicate k 32)) w wr) (fun _ c _ => (C - intOf c).toNat)
          case atStart => exact ⟨1, rfl, by omega, by omega, HOB1.out⟩
          case round =>
            obtain ⟨k, rfl, hk1, hkC, hob2⟩ := hrel
            have HOB2 := Lib.hid hob2
            clear hob2
            by_cases hk : (col + k) % 8 = 1
            · have hkk : C = col + k := by omega
              have hkN : (C - col).toNat = k := by omega
              have t4 : ((col + (k : Int)) % 8 == 1) = true := by simp; exact hk
              go_wp2_with fail
              go_roundw
              case rel =>
                refine ⟨i + U, C, _, by go_num, by rw [hkk], HOB2.out, by omega, by omega, ?_, ?_⟩
                · rw [List.length_append, List.length_replicate]; omega
                · rw [← HO.out, HON.out, hkN, List.append_assoc]
              case measure => simp [intOf]; omega
            · have t4 : ((col + (k : Int)) % 8 == 1) = false := by simp; exact hk
              go_wp2_with (at_builtin; refine Lib.wpList_append_byte rfl _ _ 42 rfl w.heap.size 5 i0 Tryd.underlying42 hi0 hz0 hz1 hz2 _ _ _ ?hs w _ 32 HOB2.out ?hx (by rw [List.length_append, List.length_replicate]; omega) ?_; (case hs => rfl); (case hx => rfl); rintro v' w1 hob1)
              have HOB3 := Lib.hid (buf_more hob1 (p := [32]) rfl rfl rfl)
              clear hob1
              go_wp2_with fail
              go_roundw
              case rel =>
                refine ⟨k + 1, by go_num, by omega, by omega, ?_⟩
                have := HOB3.out
                rw [List.append_assoc, ← List.replicate_succ'] at this
                exact this
              case measure => simp [intOf]; omega
        · have hon := spreadL_on (s.data.toList.drop i) col hne (.inr (by rw [hb9]; exact h9))
          have hcs : colS (s.data.toList.drop i) col = col + 1 := colS_not s i hi col hn h9
          rw [List.drop_drop, hu, hcs] at hon
          rw [beq_eq_false_iff_ne.2 h9] at c9
          clear hu hcs hb9 hne h9 hun
          generalize nl (s.data.toList.drop i) = n at *
          generalize dec (s.data.toList.drop i) = D at *
          obtain ⟨d, U⟩ := D
          simp only at *
          have N1 := Lib.hid n1; have HON := Lib.hid hon; have X1 := Lib.hid x1
          have t0 : decide ((0 : Int) < n) = false := by simp; omega
          clear n1 x1 hon
          go_wp2_with fail
          refine (N1.out _).mono ?_
          rintro e w1 ⟨rfl, rfl⟩
          go_wp2_with fail
          refine (X1.out _).mono ?_
          rintro e w1 ⟨rfl, rfl⟩
          go_wp2_with (at_builtin; refine Lib.wpList_append_text rfl _ _ 42 9 rfl w.heap.size 5 i0 Tryd.underlying42 Tryd.underlying9 hi0 hz0 hz1 hz2 _ _ _ rfl w HOB.out (s.extract i (i + U)) rfl (by have := ext_size s i (i + U); omega) ?_; rintro v' w1 hob1)
          have HOB1 := Lib.hid (buf_more hob1 (p := (s.data.toList.drop i).take U) (by rw [Lib.strCells_eq, Lib.extract_data, Nat.add_sub_cancel_left]) rfl (by rw [List.length_take, List.length_drop, ← Lib.size_eq]; simp [ByteArray.size_extract]; omega))
          clear hob1
          go_wp2_with fail
          go_roundw
          case rel =>
            refine ⟨i + U, col + 1, _, by go_num, rfl, HOB1.out, by omega, by omega, ?_, ?_⟩
            · rw [List.length_append, List.length_take]; omega
            · rw [← HO.out, HON.out, List.append_assoc]
          case measure => simp [intOf]; omega
    · have hd : s.data.toList.drop i = [] := List.drop_eq_nil_of_le (by rw [← Lib.size_eq]; omega)
      have he : R = acc := by rw [← HO.out, hd, spreadL_nil, List.append_nil]
      subst he
      have t3 : decide ((i : Int) < s.size) = false := by simp; omega
      have hcv := buf_text _ _ _ _ _ HOB.out
      go_wp2_with fail
      go_ret
      exact ⟨rfl, HOB.out.2.1⟩
end Go.Proofs.YtmbgfchbjedjnaaDoor
