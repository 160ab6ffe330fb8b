/- DERIVED. The walk of layer 5's awake. -/
import Derived.Test.YtmgnpgbganjgfaaDoorQuoB
import Derived.Test.YtmgnpgbganjgfaaDoorQuoA
import Derived.Test.YtmgnpgbganjgfaaDoorQuoV
set_option linter.unusedSimpArgs false
set_option linter.unusedVariables false
namespace Go.Proofs.YtmgnpgbganjgfaaDoor
open Go.RowKit

theorem aw_scan : readP (⟨#[39, 97, 39, 32, 98]⟩ : ByteArray).data.toList 0 = (13, ⟨0, 3, [97], []⟩) := by
  show readP [39, 97, 39, 32, 98] 0 = _
  have h : readC [39, 97, 39, 32, 98] 1 = ⟨0, 1 + 1 + 1, [97], []⟩ := readC_mk _ 1 97 1 (by decide) (by rfl) (by decide)
  unfold readP
  rw [if_neg (by decide), if_pos (by decide), show (0 : Int).toNat + 1 = 1 from rfl, h]
theorem aw_runes : readP (⟨#[34, 92, 83, 79, 72, 92, 83, 79, 92, 38, 72, 34]⟩ : ByteArray).data.toList 0 = (14, ⟨0, 12, [1, 14, 72], []⟩) := by
  show readP [34, 92, 83, 79, 72, 92, 83, 79, 92, 38, 72, 34] 0 = _
  unfold readP
  rw [if_pos (by decide), show (0 : Int).toNat + 1 = 1 from rfl]
  rw [readT_on _ 1 1 4 (by decide) (by decide) (by kernel_rfl), readT_on _ (1 + 4) 14 3 (by decide) (by decide) (by kernel_rfl), readT_on _ (1 + 4 + 3) (-2) 2 (by decide) (by decide) (by kernel_rfl), readT_on _ (1 + 4 + 3 + 2) 72 1 (by decide) (by decide) (by kernel_rfl), readT_quote _ (1 + 4 + 3 + 2 + 1) (by decide)]
  rfl
theorem aw_whole : wholeE (⟨#[34, 92, 83, 79, 72, 92, 83, 79, 92, 38, 72, 34]⟩ : ByteArray).data.toList = 0 := by
  unfold wholeE
  rw [aw_runes]
  rfl
theorem aw_write : writeX [7, 200, 49] = ([34, 92, 97, 92, 50, 48, 48, 92, 38, 49, 34], 0) := by
  have hd : Lib.decDigits 200 = [50, 48, 48] := by rw [Lib.decDigits, Lib.decDigits, Lib.decDigits]; rfl
  have hp : pieceW 200 = [92, 50, 48, 48] := by
    unfold pieceW
    rw [if_neg (by decide), if_pos (by decide), show (200 : Int).toNat = 200 from rfl, hd]
  unfold writeX writeP
  rw [if_pos (by decide)]
  simp only [bodyW, hp]
  rfl
theorem ints_new (w : World) (a b c : Int) (t : TypeId) : IntsAt (w.alloc (.cells #[.int .i64 a, .int .i64 b, .int .i64 c] t)) (.slice (some ⟨w.heap.size, 0, none⟩) 3 3) [a, b, c] := by
  refine ⟨_, _, rfl, fun _ => ⟨_, _, rfl, by simp, Nat.le_refl _, fun i u hu => ?_⟩⟩
  have hi := (List.getElem?_eq_some_iff.1 hu).1
  have hi3 : i = 0 ∨ i = 1 ∨ i = 2 := by simp at hi; omega
  have hg : (w.alloc (.cells #[.int .i64 a, .int .i64 b, .int .i64 c] t)).heap[w.heap.size]? = some (.cells #[.int .i64 a, .int .i64 b, .int .i64 c] t) := by
    show (w.heap.push _)[w.heap.size]? = _
    rw [Array.getElem?_push_size]
  unfold World.cell?
  simp only [Option.isSome_none, Nat.zero_add]
  rcases hi3 with rfl | rfl | rfl <;> (simp at hu; subst hu; simp only [hg]; rfl)
set_option maxHeartbeats 1000000 in
theorem awake_any (w : World) (hT : Tabs5 w) :
    Calls Tryd.prog 12 #[] w fun e w' => e = .returned (.bool true) ∧ Below w.heap.size w w' := by
  have s1 := fun w hT => quoteScan_any ⟨#[39, 97, 39, 32, 98]⟩ 0 w (by decide) hT
  rw [aw_scan] at s1
  have r1 := fun w hT => runes_any ⟨#[34, 92, 83, 79, 72, 92, 83, 79, 92, 38, 72, 34]⟩ w (by decide) hT
  unfold RunesPost at r1
  rw [aw_runes, aw_whole] at r1
  have t1 := fun v w hL hT => write_any v [7, 200, 49] w hL (by decide) hT
  rw [aw_write] at t1
  have HT := Lib.hid hT; have S1 := Lib.hid s1; have R1 := Lib.hid r1; have T1 := Lib.hid t1
  clear hT s1 t1 r1
  unfold scanV5 at S1
  unfold textV at T1
  go_enter Tryd.func12, Tryd.ntmps12
  go_wp2_with fail
  refine (S1.out _ HT.out).mono ?_
  rintro e w1 ⟨rfl, hb1⟩
  have HB1 := Lib.hid hb1; have HT1 := Lib.hid (HT.out.below hb1)
  clear hb1
  go_wp2_with fail
  refine (R1.out _ HT1.out).mono ?_
  rintro e w2 ⟨hb2, ⟨_, v, rfl, ho⟩ | ⟨h0, _⟩⟩
  rotate_left
  · exact absurd rfl h0
  obtain ⟨hi, hf⟩ := ints_own ho
  have HB2 := Lib.hid (Below.then HB1.out hb2); have HT2 := Lib.hid (HT1.out.below hb2)
  have HI := Lib.hid hi
  clear hb2 ho hi
  go_wp2_with fail
  refine (T1.out _ _ (ints_new w2 7 200 49 _) (HT2.out.below ((Below.refl _ _).alloc (Nat.le_refl _) _))).mono ?_
  rintro e w3 ⟨rfl, hb3⟩
  have HB3 := Lib.hid (Below.then (Below.alloc HB2.out HB2.out.size _) hb3)
  have HI3 := Lib.hid ((HI.out.keep ((Below.refl _ _).alloc (Nat.le_refl _) _)).keep hb3)
  clear hb3
  go_wp2_with fail
  refine (sameI_any _ _ [1, 14, 72] [1, 14, 72] _ (HI3.out.keep ((Below.refl _ _).alloc (Nat.le_refl _) _)) (ints_new w3 1 14 72 _) hf hf).mono ?_
  rintro e w4 ⟨rfl, hb4⟩
  have HB4 := Lib.hid (Below.then (Below.alloc HB3.out HB3.out.size _) hb4)
  clear hb4
  go_wp2_with fail
  go_ret
  exact ⟨rfl, HB4.out⟩
end Go.Proofs.YtmgnpgbganjgfaaDoor
