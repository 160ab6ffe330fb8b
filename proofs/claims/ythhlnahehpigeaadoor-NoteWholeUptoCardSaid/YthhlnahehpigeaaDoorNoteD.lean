/- DERIVED. The walks of note's line and Lines. -/
import Derived.Test.YthhlnahehpigeaaDoorNoteC
import Derived.Test.YthhlnahehpigeaaDoorNoteV
import Derived.Lib.ReplaceLaws
set_option linter.unusedSimpArgs false
set_option linter.unusedVariables false
namespace Go.Proofs.YthhlnahehpigeaaDoor
open Go.RowKit

/-- The greatest length that the library's search has set itself: a variable that is laid. -/
def Len0 (w : World) : Prop := ∃ m, w.cell? ⟨0, 0, none⟩ = some (.int .i64 m)
theorem Len0.pos {w : World} (h : Len0 w) : 0 < w.heap.size := lt_of_cell h.choose_spec
theorem Len0.below {w w' : World} {B : Nat} (h : Len0 w) (h0 : 0 < B) (hb : Below B w w') : Len0 w' := by
  obtain ⟨m, hm⟩ := h
  exact ⟨m, by rw [hb.cell (by exact h0)]; exact hm⟩
theorem one_replaced (s : ByteArray) (c : UInt8) (hc : c ≠ 32) (w : World) (hs : s.size ≤ 4294967280) (h0 : Len0 w) :
    Calls Tryd.prog 43 #[.string s, .string ⟨#[c]⟩, .string ⟨#[32]⟩] w fun e w' => e = .returned (strV (s.data.toList.map (fun b => if b = c then 32 else b))) ∧ Below w.heap.size w w' := by
  obtain ⟨m, hm⟩ := h0
  have hc1 := Lib.countB_mul_le ⟨#[c]⟩ (Nat.le_refl _) s.size s (Nat.le_refl _)
  have e1 : (⟨#[c]⟩ : ByteArray).size = 1 := rfl
  have e2 : (⟨#[32]⟩ : ByteArray).size = 1 := rfl
  rw [e1] at hc1
  have h := Tryd.strings_ReplaceAll s ⟨#[c]⟩ ⟨#[32]⟩ m w (by omega) hm (Nat.le_refl _) (by rw [e2]; omega)
  refine h.mono ?_
  rintro e w' ⟨he, hb⟩
  refine ⟨?_, hb⟩
  rw [he, ← replace_one c 32 hc]
  rfl
set_option maxHeartbeats 1000000 in
theorem line_any (s : ByteArray) (w : World) (hs : s.size ≤ 4294967280) (h0 : Len0 w) :
    Calls Tryd.prog 31 #[.string s] w fun e w' => e = .returned (strV (tidyL s.data.toList)) ∧ Below w.heap.size w w' := by
  have A1 := Lib.hid (one_replaced s 9 (by decide) w hs h0)
  have A2 := Lib.hid fun (x : ByteArray) (w1 : World) (hx : x.size ≤ 4294967280) (h1 : Len0 w1) => one_replaced x 11 (by decide) w1 hx h1
  have A3 := Lib.hid fun (x : ByteArray) (w1 : World) (hx : x.size ≤ 4294967280) => trim_any x w1 (by omega)
  have A4 := Lib.hid fun (x : ByteArray) (w1 : World) => Tryd.strings_TrimLeft_one x 32 (by decide) w1
  have hsz := Lib.size_eq s
  obtain ⟨R, hR⟩ : ∃ R, tidyL s.data.toList = R := ⟨_, rfl⟩
  rw [hR]
  unfold tidyL at hR
  rw [← spB_two] at hR
  have HR := Lib.hid hR
  have HS := Lib.hid h0
  have HZ := Lib.hid hsz
  clear hR hsz
  obtain ⟨x1, hx1⟩ : ∃ x, (s.data.toList.map (fun b => if b = 9 then (32 : UInt8) else b)) = x := ⟨_, rfl⟩
  rw [hx1] at A1 HR
  have X1 := Lib.hid hx1
  have hl1 : x1.length = s.size := by rw [← hx1, List.length_map, HZ.out]
  obtain ⟨x2, hx2⟩ : ∃ x, (x1.map (fun b => if b = 11 then (32 : UInt8) else b)) = x := ⟨_, rfl⟩
  rw [hx2] at HR
  have hl2 : x2.length = s.size := by rw [← hx2, List.length_map, hl1]
  have X2 := Lib.hid hx2
  have z1 : (⟨x1.toArray⟩ : ByteArray).size ≤ 4294967280 := by simp only [ByteArray.size, List.size_toArray]; omega
  have z2 : (⟨x2.toArray⟩ : ByteArray).size ≤ 4294967280 := by simp only [ByteArray.size, List.size_toArray]; omega
  unfold strV at *
  have Z1 := Lib.hid z1
  have Z2 := Lib.hid z2
  clear hx1 hx2 hl1 hl2 z1 z2 X1
  go_enter Tryd.func31, Tryd.ntmps31
  go_wp2_with fail
  refine A1.out.mono ?_
  rintro e w1 ⟨rfl, hb1⟩
  have HB1 := Lib.hid hb1
  clear hb1
  go_wp2_with fail
  refine (A2.out _ w1 Z1.out (HS.out.below HS.out.pos HB1.out)).mono ?_
  rintro e w2 ⟨rfl, hb2⟩
  have HB2 := Lib.hid (Below.then HB1.out hb2)
  clear hb2
  simp only [X2.out]
  go_wp2_with fail
  refine (A3.out _ w2 Z2.out).mono ?_
  rintro e w3 ⟨rfl, hb3⟩
  have HB3 := Lib.hid (Below.then HB2.out hb3)
  clear hb3
  go_wp2_with fail
  refine (A4.out _ w3).mono ?_
  rintro e w4 ⟨rfl, rfl⟩
  go_wp2_with fail
  go_ret
  exact ⟨by rw [← HR.out]; rfl, HB3.out⟩
end Go.Proofs.YthhlnahehpigeaaDoor
