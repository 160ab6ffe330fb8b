/- DERIVED. The walks of the document's Lines and Same of comments. -/
import Derived.Test.YthhlnahehpigeaaDoorRefNoteC
import Derived.Test.YthhlnahehpigeaaDoorPlaceI
set_option linter.unusedSimpArgs false
set_option linter.unusedVariables false
namespace Go.Proofs.YthhlnahehpigeaaDoor
open Go.RowKit

set_option maxRecDepth 20000 in
set_option maxHeartbeats 4000000 in
theorem refNoteLines_any (s : ByteArray) (w : World) (hs : s.size ≤ 8796093022206) :
    Calls Tryd.prog 17 #[.string s] w fun e w' => ∃ v, e = .returned v ∧ LinesPost w (linesN s.data.toList) w' v := by
  have K1 := refNoteKind_any s w hs
  obtain ⟨R, hR⟩ : ∃ R, linesN s.data.toList = R := ⟨_, rfl⟩
  rw [hR]
  unfold linesN at hR
  by_cases hk : kindN s.data.toList = 0
  · rw [hk] at K1
    rw [if_pos hk] at hR
    subst hR
    have K1 := Lib.hid K1
    clear hk
    go_enter Tryd.func17, Tryd.ntmps17
    go_wp2_with fail
    refine K1.out.mono ?_
    rintro e w1 ⟨rfl, rfl⟩
    go_wp2_with fail
    go_ret2
    exact ⟨_, rfl, rfl, Below.refl _ _⟩
  · rw [if_neg hk] at hR
    subst hR
    have q1 : (kindN s.data.toList == 0) = false := beq_eq_false_iff_ne.2 hk
    generalize kindN s.data.toList = k at *
    have L1 := refLines_any s w hs
    have hl := linesL_le _ s.data.toList [] (Nat.le_refl _)
    rw [← Lib.size_eq, List.length_nil, Nat.zero_add] at hl
    obtain ⟨ls, hls⟩ : ∃ ls, linesL [] s.data.toList = ls := ⟨_, rfl⟩
    rw [hls] at L1 hl
    rw [hls]
    have K1 := Lib.hid K1
    have L1 := Lib.hid L1
    have HL := Lib.hid hl
    have N1 := Lib.hid fun (x : ByteArray) (w1 : World) (hx : x.size ≤ 8796093022206) => refLine_any x w1 hx
    clear hls hl hk
    go_enter Tryd.func17, Tryd.ntmps17
    go_wp2_with fail
    refine K1.out.mono ?_
    rintro e w1 ⟨rfl, rfl⟩
    go_wp2_with fail
    refine L1.out.mono ?_
    rintro e w2 ⟨v, rfl, hO, hb2⟩
    have HB2 := Lib.hid hb2
    have HO := Lib.hid hO
    clear hO hb2
    obtain ⟨a, cap, rfl⟩ := HO.out.shape
    have hfew := HO.out.few
    go_wp2_with fail
    go_loopw [5] (fun iv wr => ∃ (i : Nat), iv = .int .i64 i ∧ i ≤ ls.length ∧ OwnsT wr w.heap.size (.slice a ls.length cap) (MapAt tidyL ls i) ∧ Below w.heap.size w wr) (fun iv _ => ls.length - (intOf iv).toNat)
    case atStart => exact ⟨0, rfl, Nat.zero_le _, HO.out, HB2.out⟩
    case round =>
      obtain ⟨i, rfl, hi, hR, hBl⟩ := hrel
      have HR := Lib.hid hR
      have HBl := Lib.hid hBl
      clear hR hBl
      by_cases hin : i < ls.length
      · have hlt := mapAt_len tidyL ls i hi
        obtain ⟨g, rfl, hBg, hgl, hgc, hcell⟩ := HR.out.form hlt (by omega)
        obtain ⟨hc0, hz⟩ := hcell i ls[i] (mapAt_get tidyL ls i hin)
        have hS := mapAt_step tidyL ls i hin
        have hx := HL.out ls[i] (List.getElem_mem hin)
        generalize ls[i] = x at *
        unfold strV at hc0
        have HS2 := Lib.hid hS
        have n1 := N1.out ⟨x.toArray⟩ wr (by simp only [ByteArray.size, List.size_toArray] at *; omega)
        have NN := Lib.hid n1
        clear hcell hS hlt n1
        go_wp2_with fail
        refine NN.out.mono ?_
        rintro e w3 ⟨rfl, hb3⟩
        have hc0' : w3.cell? ⟨g, i, none⟩ = some (.string ⟨x.toArray⟩) := by rw [hb3.cell (by exact hgl)]; exact hc0
        have hz' : w3.frozen? ⟨g, i, none⟩ = false := by rw [hb3.frozen (by exact hgl)]; exact hz
        have HRS := Lib.hid ((HR.out.below hb3).set (mapAt_len tidyL ls i hi) i (tidyL x))
        rw [HS2.out] at HRS
        have HBS := Lib.hid ((Below.then HBl.out hb3).setCell (p := ⟨g, i, none⟩) hBg (strV (tidyL x)))
        clear hb3 hc0 hz
        unfold strV at HRS HBS
        unfold strV
        go_wp2_with fail
        go_roundw
        case rel => exact ⟨i + 1, by go_num, by omega, HRS.out, HBS.out⟩
        case measure => simp [intOf]; omega
      · have hi' : i = ls.length := by omega
        subst hi'
        have hT : MapAt tidyL ls ls.length = ls.map tidyL := by unfold MapAt; rw [List.take_length, List.drop_length, List.append_nil]
        rw [hT] at HR
        have t3 : decide (ls.length < ls.length) = false := by simp
        go_wp2_with fail
        go_ret2
        exact ⟨_, rfl, _, rfl, HR.out, HBl.out⟩
end Go.Proofs.YthhlnahehpigeaaDoor
