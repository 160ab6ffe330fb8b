/- DERIVED. The walk of the document's tidy. -/
import Derived.Test.YthhlnahehpigeaaDoorRefNoteB
import Derived.Test.YthhlnahehpigeaaDoorNoteE
import Derived.Lib.BufSteps
set_option linter.unusedSimpArgs false
set_option linter.unusedVariables false
namespace Go.Proofs.YthhlnahehpigeaaDoor
open Go.RowKit

theorem byte_info : ∃ i, Tryd.prog.info? 5 = some i ∧ i.zero = some (.int .u8 0) ∧ i.size = 1 ∧ i.bytes = 1 := by
  have h : (Tryd.prog.info? 5).map (fun i => (i.zero, i.size, i.bytes)) = some (some (.int .u8 0), 1, 1) := by kernel_rfl
  cases e : Tryd.prog.info? 5 with
  | none => rw [e] at h; cases h
  | some i =>
    rw [e] at h
    simp only [Option.map_some, Option.some.injEq, Prod.mk.injEq] at h
    exact ⟨i, rfl, h.1, h.2.1, h.2.2⟩
theorem buf_text (w W0 : World) (B : Nat) (v : Value) (l : List UInt8) (h : Lib.OwnBuf B 5 v l.length (Lib.byteCells l) W0 w) :
    (convert 44 9 v).run Tryd.prog w = .ok (.string ⟨l.toArray⟩) w := by
  obtain ⟨⟨_, ⟨rfl, h0⟩ | ⟨g, cap, cur, fz, rfl, _, hg, _, _, _, hcs, htake⟩⟩, _, _⟩ := h
  · have : l = [] := List.eq_nil_of_length_eq_zero h0
    subst this
    rfl
  · refine run_convert_bytes_back (P := Tryd.prog) w _ _ 5 ⟨g, 0, none⟩ cap l Tryd.underlying44 Tryd.underlying5 Tryd.underlying9 (fun j hj => ?_)
    have h1 : w.cell? ⟨g, j, none⟩ = cur[j]? := cell_of_row _ _ _ _ _ _ hg
    have h2 : (cur.toList.take (l.length * 1))[j]? = (Lib.byteCells l)[j]? := by rw [htake]
    rw [List.getElem?_take, if_pos (by omega)] at h2
    have h3 : (⟨g, 0, none⟩ : Addr).add j = ⟨g, j, none⟩ := by simp [Addr.add]; intro h; subst h; rfl
    rw [h3, h1, ← Array.getElem?_toList, h2]
    simp [Lib.byteCells, List.getElem?_eq_getElem hj]
theorem buf_more {w W0 : World} {B n m : Nat} {v : Value} {l p : List UInt8} {xs : List Value} (h : Lib.OwnBuf B 5 v m (Lib.byteCells l ++ xs) W0 w) (hx : xs = Lib.byteCells p) (hm : m = l.length + n) (hn : n = p.length) :
    Lib.OwnBuf B 5 v (l ++ p).length (Lib.byteCells (l ++ p)) W0 w := by
  subst hx hm hn
  rw [List.length_append, Lib.byteCells_append]; exact h
theorem tw_drop (p : UInt8 → Bool) (l : List UInt8) (i : Nat) (hi : i ≤ l.length) (h : ∀ j, j < i → ∀ b, l[j]? = some b → p b = true) (he : ∀ b, l[i]? = some b → p b = false) : l.dropWhile p = l.drop i := by
  induction l generalizing i with
  | nil => simp
  | cons a t ih =>
    cases i with
    | zero => rw [List.dropWhile_cons, if_neg (by rw [he a rfl]; simp)]; rfl
    | succ i =>
      rw [List.dropWhile_cons, if_pos (h 0 (by omega) a rfl), List.drop_succ_cons]
      exact ih i (by simp at hi; omega) (fun j hj b hb => h (j + 1) (by omega) b hb) (fun b hb => he b hb)
set_option maxRecDepth 20000 in
set_option maxHeartbeats 4000000 in
theorem refLine_any (s : ByteArray) (w : World) (hs : s.size ≤ 8796093022206) :
    Calls Tryd.prog 33 #[.string s] w fun e w' => e = .returned (strV (tidyL s.data.toList)) ∧ Below w.heap.size w w' := by
  obtain ⟨i0, hi0, hz0, hz1, hz2⟩ := byte_info
  obtain ⟨R, hR⟩ : ∃ R, tidyL s.data.toList = R := ⟨_, rfl⟩
  rw [hR]
  unfold tidyL at hR
  have HR := Lib.hid hR
  have HLS := Lib.hid (Lib.size_eq s)
  clear hR
  go_enter Tryd.func33, Tryd.ntmps33
  go_wp2_with fail
  go_loopw [3, 4] (fun v a wr => ∃ (i : Nat) (acc : List UInt8), a = .int .i64 i ∧ acc = (s.data.toList.take i).map spB ∧ acc.length = i ∧ Lib.OwnBuf w.heap.size 5 v acc.length (Lib.byteCells acc) w wr ∧ i ≤ s.size) (fun _ a _ => s.size - (intOf a).toNat)
  case atStart =>
    exact ⟨0, [], rfl, by simp, rfl, ⟨World.ownsRowF_nil _ _ _ _, Below.refl _ _, Nat.le_refl _⟩, by omega⟩
  case round =>
    obtain ⟨i, acc, rfl, hacc, hal, hob, his⟩ := hrel
    have HOB := Lib.hid hob
    have HAC := Lib.hid hacc
    clear hob hacc
    by_cases hi : i < s.size
    · have t3 : decide (i < s.size) = true := by simp; omega
      obtain ⟨y9, n9⟩ := byteKN s[i] 9 9 rfl (by decide)
      obtain ⟨y11, n11⟩ := byteKN s[i] 11 11 rfl (by decide)
      have htk : acc ++ [spB s[i]] = (s.data.toList.take (i + 1)).map spB := by
        rw [List.take_add_one, at_get s i hi, List.map_append, HAC.out]; rfl
      by_cases hb : s[i] = 9 ∨ s[i] = 11
      · have hsp : spB s[i] = 32 := by unfold spB; rw [if_pos hb]
        rw [hsp] at htk
        have HTK := Lib.hid htk
        have hq : ((s[i].toNat : Int) == 9) = true ∨ ((s[i].toNat : Int) == 9) = false ∧ ((s[i].toNat : Int) == 11) = true := by
          by_cases h9 : s[i] = 9
          · exact .inl (y9 h9)
          · exact .inr ⟨n9 h9, y11 (hb.resolve_left h9)⟩
        clear htk hb hsp y9 n9 y11 n11
        rcases hq with q1 | ⟨q1, q2⟩
        all_goals
          go_wp2_with (at_builtin; refine Lib.wpList_append_byte rfl _ _ 44 rfl w.heap.size 5 i0 Tryd.underlying44 hi0 hz0 hz1 hz2 _ _ _ ?hs w _ 32 HOB.out ?hx (by omega) ?_; (case hs => rfl); (case hx => rfl); rintro v' w1 hob1)
          have HOB1 := Lib.hid (buf_more hob1 (p := [32]) rfl rfl rfl)
          clear hob1
          go_wp2_with fail
          go_roundw
          case rel => exact ⟨i + 1, _, by go_num, HTK.out, by simp; omega, HOB1.out, by omega⟩
          case measure => simp [intOf]; omega
      · have hsp : spB s[i] = s[i] := by unfold spB; rw [if_neg hb]
        rw [hsp] at htk
        have HTK := Lib.hid htk
        have q1 := n9 (fun h => hb (.inl h))
        have q2 := n11 (fun h => hb (.inr h))
        clear htk hb hsp y9 n9 y11 n11
        go_wp2_with (at_builtin; refine Lib.wpList_append_byte rfl _ _ 44 rfl w.heap.size 5 i0 Tryd.underlying44 hi0 hz0 hz1 hz2 _ _ _ ?hs w _ s[i].toNat HOB.out ?hx (by omega) ?_; (case hs => rfl); (case hx => rfl); rintro v' w1 hob1)
        have HOB1 := Lib.hid (buf_more hob1 (p := [s[i]]) rfl rfl rfl)
        clear hob1
        go_wp2_with fail
        go_roundw
        case rel => exact ⟨i + 1, _, by go_num, HTK.out, by simp; omega, HOB1.out, by omega⟩
        case measure => simp [intOf]; omega
    · have t3 : decide (i < s.size) = false := by simp; omega
      have hcv := buf_text _ _ _ _ _ HOB.out
      have HB := Lib.hid HOB.out.2.1
      have hac := HAC.out
      rw [List.take_of_length_le (by rw [← HLS.out]; omega)] at hac
      have HR2 := HR.out
      rw [← hac] at HR2
      have T1 := fun w => refTrim_any ⟨acc.toArray⟩ w (by simp only [ByteArray.size, List.size_toArray]; omega)
      rw [show (⟨acc.toArray⟩ : ByteArray).data.toList = acc from rfl] at T1
      have htl : (Lib.trimRightS acc blanksL).length ≤ acc.length := by
        unfold Lib.trimRightS
        rw [List.length_reverse]
        exact Nat.le_trans (dropW_len _ _) (by rw [List.length_reverse]; exact Nat.le_refl _)
      generalize Lib.trimRightS acc blanksL = t at *
      have hts : (⟨t.toArray⟩ : ByteArray).size = t.length := by simp only [ByteArray.size, List.size_toArray]
      obtain ⟨y, hy⟩ : ∃ y, (⟨t.toArray⟩ : ByteArray) = y := ⟨_, rfl⟩
      unfold strV at T1
      rw [hy] at T1 hts
      have HY := Lib.hid (show y.data.toList = t from by rw [← hy])
      have T1 := Lib.hid T1
      have HR3 := Lib.hid HR2
      have hym : y.size ≤ 8796093022206 := by omega
      have HTS := Lib.hid hts
      clear hac HR2 htl hy hts
      go_wp2_with fail
      refine (T1.out _).mono ?_
      rintro e w1 ⟨rfl, rfl⟩
      go_wp2_with fail
      go_loop [6] (fun a => ∃ (i : Nat), a = .int .i64 i ∧ i ≤ y.size ∧ ∀ j, j < i → ∀ b, t[j]? = some b → (b == 32) = true) (fun a => y.size - (intOf a).toNat)
      case atStart => exact ⟨0, rfl, Nat.zero_le _, fun j hj => by omega⟩
      case round =>
        obtain ⟨k, rfl, hk, hA⟩ := hrel
        have HA := Lib.hid hA
        clear hA
        by_cases hky : k < y.size
        · have t4 : decide (k < y.size) = true := by simp; omega
          have hgk := at_get y k hky
          rw [HY.out] at hgk
          obtain ⟨y32, n32⟩ := byteKN y[k] 32 32 rfl (by decide)
          by_cases h32 : y[k] = 32
          · have q := y32 h32
            rw [h32] at hgk
            have HK := Lib.hid (show ∀ j, j < k + 1 → ∀ b, t[j]? = some b → (b == 32) = true from by
              intro j hj b hb
              by_cases hjk : j = k
              · subst hjk
                rw [hgk] at hb
                injection hb with hb
                subst hb; rfl
              · exact HA.out j (by omega) b hb)
            clear hgk y32 n32 h32
            go_wp2_with fail
            go_round
            case rel => exact ⟨k + 1, by go_num, by omega, HK.out⟩
            case measure => simp [intOf]; omega
          · have q := n32 h32
            have HK := Lib.hid (tw_drop (· == 32) t k (by rw [← HTS.out]; omega) HA.out (by intro b hb; rw [hgk] at hb; injection hb with hb; subst hb; simpa using h32))
            clear hgk y32 n32 h32
            go_wp2_with fail
            go_ret
            exact ⟨by rw [← HR3.out, HK.out, strV_end, HY.out]; rfl, HB.out⟩
        · have t4 : decide (k < y.size) = false := by simp; omega
          have HK := Lib.hid (tw_drop (· == 32) t k (by rw [← HTS.out]; omega) HA.out (by intro b hb; rw [List.getElem?_eq_none (by rw [← HTS.out]; omega)] at hb; cases hb))
          go_wp2_with fail
          go_ret
          exact ⟨by rw [← HR3.out, HK.out, strV_end, HY.out]; rfl, HB.out⟩
end Go.Proofs.YthhlnahehpigeaaDoor
