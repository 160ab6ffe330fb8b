/- DERIVED. The walk of the document's Tidy of comments. -/
import Derived.Test.YthhlnahehpigeaaDoorRefNoteD
import Derived.Test.YthhlnahehpigeaaDoorNoteF
set_option linter.unusedSimpArgs false
set_option linter.unusedVariables false
namespace Go.Proofs.YthhlnahehpigeaaDoor
open Go.RowKit

/-- What is laid of the first lines. -/
def laidAt (cn : Nat) (ls : List (List UInt8)) (i : Nat) : List UInt8 := Lib.join (indentN cn (ls.take i)) [10]
theorem laidAt_zero (cn : Nat) (ls : List (List UInt8)) : laidAt cn ls 0 = [] := by unfold laidAt; rw [List.take_zero]; rfl
theorem laidAt_end (cn : Nat) (ls : List (List UInt8)) : laidAt cn ls ls.length = Lib.join (indentN cn ls) [10] := by unfold laidAt; rw [List.take_length]
theorem laidAt_one (cn : Nat) (ls : List (List UInt8)) (h : 0 < ls.length) : laidAt cn ls 1 = ls[0] := by
  cases ls with
  | nil => simp at h
  | cons x r => exact Lib.join_one x [10]
theorem laidAt_step (cn : Nat) (ls : List (List UInt8)) (i : Nat) (h : i < ls.length) (h0 : 0 < i) : laidAt cn ls (i + 1) = laidAt cn ls i ++ [10] ++ indF cn ls[i] := by
  cases ls with
  | nil => simp at h
  | cons x r =>
    cases i with
    | zero => omega
    | succ i =>
      have h' : i < r.length := by simp at h; omega
      have e : ∀ k, laidAt cn (x :: r) (k + 1) = x ++ Lib.joinTail [10] ((r.map (indF cn)).take k) := by
        intro k
        unfold laidAt
        rw [List.take_succ_cons]
        show Lib.join (x :: (r.take k).map (indF cn)) [10] = _
        rw [Lib.join_cons, List.map_take]
      rw [e, e, Lib.joinTail_take_succ [10] _ i (indF cn r[i]) (by rw [List.getElem?_map, List.getElem?_eq_getElem h']; rfl)]
      simp only [List.append_assoc, List.getElem_cons_succ]
theorem laidAt_mono (cn : Nat) (ls : List (List UInt8)) (d : Nat) : ∀ i, i + d ≤ ls.length → (laidAt cn ls i).length ≤ (laidAt cn ls (i + d)).length := by
  induction d with
  | zero => intro i _; exact Nat.le_refl _
  | succ d ih =>
    intro i hi
    refine Nat.le_trans (ih i (by omega)) ?_
    by_cases h0 : 0 < i + d
    · rw [← Nat.add_assoc, laidAt_step cn ls (i + d) (by omega) h0, List.length_append, List.length_append]; omega
    · obtain rfl : i = 0 := by omega
      obtain rfl : d = 0 := by omega
      rw [laidAt_zero]; simp
theorem laidAt_le (cn : Nat) (ls : List (List UInt8)) (i : Nat) (h : i ≤ ls.length) : (laidAt cn ls i).length ≤ (Lib.join (indentN cn ls) [10]).length := by
  rw [← laidAt_end]
  have := laidAt_mono cn ls (ls.length - i) i (by omega)
  rwa [show i + (ls.length - i) = ls.length from by omega] at this
set_option maxRecDepth 20000 in
set_option maxHeartbeats 4000000 in
theorem refNoteTidy_any (s : ByteArray) (col : Int) (w : World) (hs : s.size ≤ 8796093022206) (ht : (tidyN s.data.toList col).1.length ≤ 140737488355327) :
    Calls Tryd.prog 20 #[.string s, .int .i64 col] w fun e w' => e = .returned (tidyV (tidyN s.data.toList col)) ∧ Below w.heap.size w w' := by
  obtain ⟨i0, hi0, hz0, hz1, hz2⟩ := byte_info
  have L1 := refNoteLines_any s w hs
  obtain ⟨R, hR⟩ : ∃ R, tidyN s.data.toList col = R := ⟨_, rfl⟩
  rw [hR] at ht
  rw [hR]
  unfold tidyN at hR
  by_cases hc : col < 1 ∨ 65536 < col
  · rw [if_pos hc] at hR
    subst hR
    clear L1 ht
    have e : tidyV ([], 1) = .tuple #[.string ⟨#[]⟩, .int .i64 1] := rfl
    rw [e]
    rcases hc with hc | hc
    all_goals
      go_enter Tryd.func20, Tryd.ntmps20
      go_wp2_with fail
      go_ret2
      exact ⟨rfl, Below.refl _ _⟩
  · rw [if_neg hc] at hR
    have t1 : decide (col < 1) = false := by simp; omega
    have t2 : decide (65536 < col) = false := by simp; omega
    have hl := linesL_le _ s.data.toList [] (Nat.le_refl _)
    rw [← Lib.size_eq, List.length_nil, Nat.zero_add] at hl
    cases hln : linesN s.data.toList with
    | none =>
      rw [hln] at L1 hR
      simp only at hR
      subst hR
      have L1 := Lib.hid L1
      have e : tidyV ([], 60) = .tuple #[.string ⟨#[]⟩, .int .i64 60] := rfl
      rw [e]
      clear ht hln hc hl
      go_enter Tryd.func20, Tryd.ntmps20
      go_wp2_with fail
      refine L1.out.mono ?_
      rintro e w1 ⟨v, rfl, rfl, hb1⟩
      have HB1 := Lib.hid hb1
      clear hb1
      go_wp2_with fail
      go_ret2
      exact ⟨rfl, HB1.out⟩
    | some ls =>
      have hlx := linesN_len _ ls _ hln hl
      rw [hln] at L1 hR
      simp only at hR
      have HLX := Lib.hid hlx
      clear hl hlx
      obtain ⟨cn, rfl⟩ := Int.eq_ofNat_of_zero_le (show 0 ≤ col by omega)
      rw [Int.toNat_natCast] at hR
      have L1 := Lib.hid L1
      have HR2 := Lib.hid hR
      rw [← hR] at ht
      have hT : (Lib.join (indentN cn ls) [10]).length ≤ 140737488355327 := ht
      have HLE := Lib.hid fun (i : Nat) (h : i ≤ ls.length) => Nat.le_trans (laidAt_le cn ls i h) hT
      clear ht hR hln hT
      have hc1 : 1 ≤ cn ∧ cn ≤ 65536 := by omega
      clear hc
      go_enter Tryd.func20, Tryd.ntmps20
      go_wp2_with fail
      refine L1.out.mono ?_
      rintro e w1 ⟨v, rfl, v1, rfl, hO, hb1⟩
      have HB1 := Lib.hid hb1
      have HO := Lib.hid hO
      obtain ⟨a, cap, rfl⟩ := HO.out.shape
      have hfew := HO.out.few
      clear hb1 hO
      go_wp2_with fail
      go_loopw [8, 9] (fun v iv wr => ∃ (i : Nat), iv = .int .i64 i ∧ i ≤ ls.length ∧ Lib.OwnBuf w1.heap.size 5 v (laidAt cn ls i).length (Lib.byteCells (laidAt cn ls i)) w1 wr) (fun _ iv _ => ls.length - (intOf iv).toNat)
      case atStart => exact ⟨0, rfl, Nat.zero_le _, by rw [laidAt_zero]; exact ⟨World.ownsRowF_nil _ _ _ _, Below.refl _ _, Nat.le_refl _⟩⟩
      case round =>
        obtain ⟨i, rfl, hi, hob⟩ := hrel
        have HOB := Lib.hid hob
        have HB := Lib.hid HOB.out.2.1
        clear hob
        by_cases hin : i < ls.length
        · obtain ⟨g, rfl, hBg, hgl, hgc, hcell⟩ := HO.out.form rfl (by omega)
          obtain ⟨hc0, _⟩ := hcell i ls[i] (List.getElem?_eq_getElem hin)
          clear hcell
          have hxl := HLX.out ls[i] (List.getElem_mem hin)
          have hle := HLE.out (i + 1) (by omega)
          by_cases hpos : 0 < i
          · have t5 : decide ((0 : Int) < i) = true := by simp; omega
            have hS := laidAt_step cn ls i hin hpos
            have hS0 := hS
            generalize ls[i] = x at *
            unfold strV at hc0
            have e1 : (⟨x.toArray⟩ : ByteArray).toList = x := by rw [Lib.toList_data]
            have HXS := Lib.hid (show (⟨x.toArray⟩ : ByteArray).size = x.length by simp only [ByteArray.size, List.size_toArray])
            have HXC := Lib.hid (show Lib.strCells ⟨x.toArray⟩ = Lib.byteCells x from by rw [Lib.strCells_eq])
            have hq : ((⟨x.toArray⟩ : ByteArray).toList == []) = decide (x = []) := by rw [e1, Bool.eq_iff_iff]; simp
            have hq2 : (⟨x.toArray⟩ : ByteArray).toList.isEmpty = decide (x = []) := by rw [e1, Bool.eq_iff_iff]; simp
            rw [hS, List.length_append, List.length_append] at hle
            have HS := Lib.hid hS
            have HC0 := Lib.hid hc0
            have HLE2 := Lib.hid hle
            clear hS hS0 hle e1 hc0
            generalize hX : (⟨x.toArray⟩ : ByteArray) = X at *
            have HX := Lib.hid hX
            clear hX
            generalize hA : laidAt cn ls i = A at *
            clear hA
            have hAl : A.length + 1 ≤ 140737488355327 := by have := HLE2.out; simp only [List.length_cons, List.length_nil] at this; omega
            go_wp2_with (at_builtin; refine Lib.wpList_append_byte rfl _ _ 44 rfl w1.heap.size 5 i0 Tryd.underlying44 hi0 hz0 hz1 hz2 _ _ _ ?hs w1 _ 10 HOB.out ?hx (by omega) ?_; (case hs => rfl); (case hx => rfl); rintro v' w2 hob1)
            have HOB1 := Lib.hid (buf_more hob1 (p := [10]) rfl rfl rfl)
            clear hob1
            go_wp2_with fail
            go_loopw [8, 10] (fun v kv wr => ∃ (k : Nat), kv = .int .i64 k ∧ k ≤ cn + 2 ∧ (x = [] → k = 0) ∧ Lib.OwnBuf w1.heap.size 5 v (A ++ [10] ++ List.replicate k 32).length (Lib.byteCells (A ++ [10] ++ List.replicate k 32)) w1 wr) (fun _ kv _ => cn + 2 - (intOf kv).toNat)
            case atStart => exact ⟨0, rfl, Nat.zero_le _, fun _ => rfl, by rw [List.replicate_zero, List.append_nil]; exact HOB1.out⟩
            case round =>
              obtain ⟨k, rfl, hk, hk0, hob2⟩ := hrel
              have HOB2 := Lib.hid hob2
              have hcx : wr.cell? ⟨g, i, none⟩ = some (.string X) := by rw [HOB2.out.2.1.cell (by exact hgl)]; exact HC0.out
              have HK0 := Lib.hid hk0
              clear hob2 hk0
              have hAk : (A ++ [10] ++ List.replicate k 32).length = A.length + 1 + k := by rw [List.length_append, List.length_append, List.length_replicate]; rfl
              by_cases hx : x = []
              · rw [decide_eq_true hx] at hq hq2
                have hk00 := HK0.out hx
                have t6 : decide ((k : Int) < (cn : Int) + 2) = true := by simp; omega
                have hfin : A ++ [10] ++ List.replicate k 32 ++ x = A ++ [10] ++ indF cn x := by rw [hk00]; unfold indF; rw [if_pos hx, hx]; simp
                have HF := Lib.hid hfin
                have hxl0 : x.length = 0 := by rw [hx]; rfl
                have HBN := Lib.hid (show (A ++ [10] ++ List.replicate k 32).length + X.size ≤ 140737488355328 from by rw [hAk, HXS.out, hxl0, hk00]; omega)
                clear hk00 hfin hxl0 hx
                go_wp2_with (at_builtin; refine Lib.wpList_append_text rfl _ _ 44 9 rfl w1.heap.size 5 i0 Tryd.underlying44 Tryd.underlying9 hi0 hz0 hz1 hz2 _ _ _ ?hs4 w1 HOB2.out X ?hx4 HBN.out ?_; (case hs4 => rfl); (case hx4 => rfl); rintro v' w2 hob1)
                have HOB3 := Lib.hid (buf_more hob1 (p := x) (HX.out ▸ HXC.out) rfl HXS.out)
                clear hob1
                go_wp2_with fail
                go_roundw
                case rel => exact ⟨i + 1, by go_num, by omega, by have := HOB3.out; rw [HF.out, ← HS.out] at this; exact this⟩
                case measure => simp [intOf]; omega
              · rw [decide_eq_false hx] at hq hq2
                have hif : indF cn x = List.replicate (cn + 2) 32 ++ x := by unfold indF; rw [if_neg hx]
                have hle := HLE2.out
                rw [hif, List.length_append, List.length_replicate] at hle
                simp only [List.length_cons, List.length_nil] at hle
                by_cases hkc : k < cn + 2
                · have t6 : decide ((k : Int) < (cn : Int) + 2) = true := by simp; omega
                  go_wp2_with (at_builtin; refine Lib.wpList_append_byte rfl _ _ 44 rfl w1.heap.size 5 i0 Tryd.underlying44 hi0 hz0 hz1 hz2 _ _ _ ?hs2 w1 _ 32 HOB2.out ?hx2 (by omega) ?_; (case hs2 => rfl); (case hx2 => rfl); rintro v' w2 hob1)
                  have HOB3 := Lib.hid (buf_more hob1 (p := [32]) rfl rfl rfl)
                  clear hob1
                  go_wp2_with fail
                  go_roundw
                  case rel =>
                    refine ⟨k + 1, by go_num, by omega, fun h => absurd h hx, ?_⟩
                    have := HOB3.out
                    rw [List.append_assoc, ← List.replicate_succ'] at this
                    exact this
                  case measure => simp [intOf]; omega
                · have t6 : decide ((k : Int) < (cn : Int) + 2) = false := by simp; omega
                  have hkk : k = cn + 2 := by omega
                  have hfin : A ++ [10] ++ List.replicate k 32 ++ x = A ++ [10] ++ indF cn x := by rw [hif, hkk, List.append_assoc _ _ x]
                  have HF := Lib.hid hfin
                  clear hif hkk hfin
                  go_wp2_with (at_builtin; refine Lib.wpList_append_text rfl _ _ 44 9 rfl w1.heap.size 5 i0 Tryd.underlying44 Tryd.underlying9 hi0 hz0 hz1 hz2 _ _ _ ?hs3 w1 HOB2.out X ?hx3 (by have := HXS.out; omega) ?_; (case hs3 => rfl); (case hx3 => rfl); rintro v' w2 hob1)
                  have HOB3 := Lib.hid (buf_more hob1 (p := x) (HX.out ▸ HXC.out) rfl HXS.out)
                  clear hob1
                  go_wp2_with fail
                  go_roundw
                  case rel => exact ⟨i + 1, by go_num, by omega, by have := HOB3.out; rw [HF.out, ← HS.out] at this; exact this⟩
                  case measure => simp [intOf]; omega
          · have hi00 : i = 0 := by omega
            have t5 : decide ((0 : Int) < i) = false := by simp; omega
            have hone := laidAt_one cn ls (by omega)
            have hz : laidAt cn ls i = [] := by rw [hi00, laidAt_zero]
            have hgx : ls[i] = ls[0] := by congr 1
            rw [← hgx] at hone
            generalize ls[i] = x at *
            unfold strV at hc0
            have hno : laidAt cn ls (i + 1) = x := by rw [hi00]; exact hone
            rw [hz] at HOB
            rw [hno] at hle
            have HXS := Lib.hid (show (⟨x.toArray⟩ : ByteArray).size = x.length by simp only [ByteArray.size, List.size_toArray])
            have HXC := Lib.hid (show Lib.strCells ⟨x.toArray⟩ = Lib.byteCells x from by rw [Lib.strCells_eq])
            have HNO := Lib.hid hno
            have hcx : wr.cell? ⟨g, i, none⟩ = some (.string ⟨x.toArray⟩) := by rw [HB.out.cell (by exact hgl)]; exact hc0
            clear hno hz hone hgx hi00 hc0
            generalize (⟨x.toArray⟩ : ByteArray) = X at *
            go_wp2_with (at_builtin; refine Lib.wpList_append_text rfl _ _ 44 9 rfl w1.heap.size 5 i0 Tryd.underlying44 Tryd.underlying9 hi0 hz0 hz1 hz2 _ _ _ ?hs5 w1 HOB.out X ?hx5 (by have := HXS.out; simp only [List.length_nil]; omega) ?_; (case hs5 => rfl); (case hx5 => rfl); rintro v' w2 hob1)
            have HOB3 := Lib.hid (buf_more (l := []) hob1 (p := x) HXC.out rfl HXS.out)
            clear hob1
            go_wp2_with fail
            go_roundw
            case rel => exact ⟨i + 1, by go_num, by omega, by have := HOB3.out; rw [List.nil_append, ← HNO.out] at this; exact this⟩
            case measure => simp [intOf]; omega
        · have hi' : i = ls.length := by omega
          have hfin := laidAt_end cn ls
          rw [← hi'] at hfin
          rw [hfin] at HOB
          have t3 : decide (i < ls.length) = false := by simp; omega
          have HR3 := Lib.hid (show R = (Lib.join (indentN cn ls) [10], 0) from by rw [← HR2.out])
          clear hfin hi'
          generalize Lib.join (indentN cn ls) [10] = Z at *
          have hcv := buf_text _ _ _ _ _ HOB.out
          go_wp2_with fail
          go_ret2
          exact ⟨by rw [HR3.out]; rfl, Below.then HB1.out HB.out⟩
end Go.Proofs.YthhlnahehpigeaaDoor
