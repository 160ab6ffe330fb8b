/- DERIVED. The walk of note's Lines. -/
import Derived.Test.YthhlnahehpigeaaDoorNoteD
set_option linter.unusedSimpArgs false
set_option linter.unusedVariables false
namespace Go.Proofs.YthhlnahehpigeaaDoor
open Go.RowKit

theorem OwnsT.shape {w : World} {B : Nat} {v : Value} {l : List (List UInt8)} (h : OwnsT w B v l) : ∃ a c, v = .slice a l.length c := by
  rcases h.2 with ⟨rfl, h0⟩ | ⟨g, cap, cur, rfl, _⟩
  · exact ⟨none, 0, by rw [h0]⟩
  · exact ⟨_, _, rfl⟩
theorem OwnsT.form {w : World} {B n : Nat} {a : Option Addr} {c : Nat} {l : List (List UInt8)} (h : OwnsT w B (.slice a n c) l) (hn : l.length = n) (h0 : 0 < n) :
    ∃ g, a = some ⟨g, 0, none⟩ ∧ B ≤ g ∧ g < w.heap.size ∧ n ≤ c ∧ ∀ i x, l[i]? = some x → w.cell? ⟨g, i, none⟩ = some (strV x) ∧ w.frozen? ⟨g, i, none⟩ = false := by
  subst hn
  rcases id h.2 with ⟨_, h1⟩ | ⟨g, cap, cur, hv, hg, hgg, hnc, hcm, _⟩
  · omega
  · simp only [Value.slice.injEq, true_and] at hv
    obtain ⟨rfl, rfl⟩ := hv
    refine ⟨g, rfl, hg, (Array.getElem?_eq_some_iff.1 hgg).1, by omega, fun i x hx => ⟨?_, frozen_of_row _ _ _ _ _ hgg⟩⟩
    have hi := (List.getElem?_eq_some_iff.1 hx).1
    rw [World.ownsRow.cellAt h i (by omega), List.getElem?_map, hx]; rfl
theorem OwnsT.set {w : World} {B g n c : Nat} {l : List (List UInt8)} (h : OwnsT w B (.slice (some ⟨g, 0, none⟩) n c) l) (hn : l.length = n) (i : Nat) (x : List UInt8) :
    OwnsT (w.setCell ⟨g, i, none⟩ (strV x)) B (.slice (some ⟨g, 0, none⟩) n c) (l.set i x) := by
  subst hn
  rcases h.2 with ⟨h1, _⟩ | ⟨g', cap, cur, hv, hg, hgg, hnc, hcm, hsz, ht⟩
  · simp at h1
  · simp only [Value.slice.injEq, Option.some.injEq, Addr.mk.injEq, and_true, true_and] at hv
    obtain ⟨rfl, rfl⟩ := hv
    unfold OwnsT
    rw [List.length_set]
    refine ⟨by simp, .inr ⟨g, c, _, rfl, hg, heap_setCell_same _ _ i _ _ _ hgg, hnc, hcm, by simpa using hsz, ?_⟩⟩
    rw [Array.toList_setIfInBounds, List.take_set, ht, List.map_set]
theorem OwnsT.few {w : World} {B : Nat} {v : Value} {l : List (List UInt8)} (h : OwnsT w B v l) : l.length ≤ 9223372036854775807 := by
  rcases h.2 with ⟨_, h1⟩ | ⟨g, cap, cur, hv, hg, hgg, hnc, hcm, _⟩
  · omega
  · have : maxLen ≤ 9223372036854775807 := by decide
    omega
theorem OwnsT.lower {w : World} {B B' : Nat} {v : Value} {l : List (List UInt8)} (h : OwnsT w B v l) (hB : B' ≤ B) : OwnsT w B' v l := by
  obtain ⟨e, ⟨a, b⟩ | ⟨g, cap, cur, a, b, c, d⟩⟩ := h
  · exact ⟨e, .inl ⟨a, b⟩⟩
  · exact ⟨e, .inr ⟨g, cap, cur, a, by omega, c, d⟩⟩
theorem OwnsT.keep {w w' : World} {B : Nat} {v : Value} {l : List (List UInt8)} (h : OwnsT w B v l) (hb : Below w.heap.size w w') : OwnsT w' B v l := h.below hb
/-- The rows as far as they have been gone over. -/
def MapAt (f : List UInt8 → List UInt8) (l : List (List UInt8)) (i : Nat) : List (List UInt8) := (l.take i).map f ++ l.drop i
theorem mapAt_len (f : List UInt8 → List UInt8) (l : List (List UInt8)) (i : Nat) (h : i ≤ l.length) : (MapAt f l i).length = l.length := by
  unfold MapAt; rw [List.length_append, List.length_map, List.length_take, List.length_drop]; omega
theorem mapAt_get (f : List UInt8 → List UInt8) (l : List (List UInt8)) (i : Nat) (h : i < l.length) : (MapAt f l i)[i]? = some l[i] := by
  unfold MapAt
  rw [List.getElem?_append_right (by rw [List.length_map, List.length_take]; omega), List.length_map, List.length_take, show i - min i l.length = 0 from by omega, List.getElem?_drop, Nat.add_zero, List.getElem?_eq_getElem h]
theorem mapAt_step (f : List UInt8 → List UInt8) (l : List (List UInt8)) (i : Nat) (h : i < l.length) : (MapAt f l i).set i (f l[i]) = MapAt f l (i + 1) := by
  unfold MapAt
  rw [List.take_succ_eq_append_getElem h, List.map_append]
  rw [List.set_append_right _ _ (by rw [List.length_map, List.length_take]; omega), List.length_map, List.length_take, List.drop_eq_getElem_cons h, show i - min i l.length = 0 from by omega, List.set_cons_zero, List.append_assoc]
  rfl
theorem strV_keep (x : List UInt8) : strV x = .string ⟨x.toArray⟩ := rfl
theorem dropW_len (p : UInt8 → Bool) (l : List UInt8) : (l.dropWhile p).length ≤ l.length := by
  induction l with
  | nil => simp
  | cons a t ih => rw [List.dropWhile_cons]; split <;> simp <;> omega
theorem tidy_len (x : List UInt8) : (tidyL x).length ≤ x.length := by
  unfold tidyL Lib.trimRightS
  refine Nat.le_trans (dropW_len _ _) ?_
  rw [List.length_reverse]
  refine Nat.le_trans (dropW_len _ _) ?_
  rw [List.length_reverse, List.length_map]
  exact Nat.le_refl _
theorem linesN_len (l : List UInt8) (ls : List (List UInt8)) (n : Nat) (h : linesN l = some ls) (hl : ∀ x ∈ linesL [] l, x.length ≤ n) : ∀ x ∈ ls, x.length ≤ n := by
  unfold linesN at h
  split at h
  · cases h
  · injection h with h
    subst h
    intro x hx
    rw [List.mem_map] at hx
    obtain ⟨y, hy, rfl⟩ := hx
    exact Nat.le_trans (tidy_len y) (hl y hy)
/-- What Lines of a comment gives back. -/
def LinesPost (w : World) (R : Option (List (List UInt8))) (w' : World) (e : Value) : Prop :=
  match R with
  | some l => ∃ v, e = .tuple #[v, .int .i64 0] ∧ OwnsT w' w.heap.size v l ∧ Below w.heap.size w w'
  | none => e = .tuple #[.slice none 0 0, .int .i64 60] ∧ Below w.heap.size w w'
set_option maxRecDepth 20000 in
set_option maxHeartbeats 4000000 in
theorem noteLines_any (s : ByteArray) (w : World) (hs : s.size ≤ 8796093022206) (hl : ∀ x ∈ linesL [] s.data.toList, x.length ≤ 4294967280) (h0 : Len0 w) :
    Calls Tryd.prog 16 #[.string s] w fun e w' => ∃ v, e = .returned v ∧ LinesPost w (linesN s.data.toList) w' v := by
  have K1 := noteKind_any s w hs
  obtain ⟨R, hR⟩ : ∃ R, linesN s.data.toList = R := ⟨_, rfl⟩
  rw [hR]
  unfold linesN at hR
  by_cases hk : kindN s.data.toList = 0
  · rw [hk] at K1
    rw [if_pos hk] at hR
    subst hR
    have K1 := Lib.hid K1
    clear hk hl
    go_enter Tryd.func16, Tryd.ntmps16
    go_wp2_with fail
    refine K1.out.mono ?_
    rintro e w1 ⟨rfl, hb1⟩
    have HB1 := Lib.hid hb1
    clear hb1
    go_wp2_with fail
    go_ret2
    exact ⟨_, rfl, rfl, HB1.out⟩
  · rw [if_neg hk] at hR
    subst hR
    have q1 : (kindN s.data.toList == 0) = false := beq_eq_false_iff_ne.2 hk
    generalize kindN s.data.toList = k at *
    have L1 := fun w => lines_any s w hs
    obtain ⟨ls, hls⟩ : ∃ ls, linesL [] s.data.toList = ls := ⟨_, rfl⟩
    rw [hls] at L1 hl
    rw [hls]
    have K1 := Lib.hid K1
    have L1 := Lib.hid L1
    have HL := Lib.hid hl
    have HS := Lib.hid h0
    have N1 := Lib.hid fun (x : ByteArray) (w1 : World) (hx : x.size ≤ 4294967280) (h1 : Len0 w1) => line_any x w1 hx h1
    clear hls hl hk
    go_enter Tryd.func16, Tryd.ntmps16
    go_wp2_with fail
    refine K1.out.mono ?_
    rintro e w1 ⟨rfl, hb1⟩
    have HB1 := Lib.hid hb1
    clear hb1
    go_wp2_with fail
    refine (L1.out _).mono ?_
    rintro e w2 ⟨v, rfl, hO, hb2⟩
    have HB2 := Lib.hid (Below.then HB1.out hb2)
    have hst := HB1.out.size
    have HO := Lib.hid (hO.lower hst)
    clear hO hb2
    obtain ⟨a, cap, rfl⟩ := HO.out.shape
    have hfew := HO.out.few
    go_wp2_with fail
    go_loopw [13, 5] (fun iv jv wr => ∃ (i : Nat), iv = .int .i64 i ∧ i ≤ ls.length ∧ OwnsT wr w.heap.size (.slice a ls.length cap) (MapAt tidyL ls i) ∧ Below w.heap.size w wr) (fun iv _ _ => ls.length - (intOf iv).toNat)
    case atStart => exact ⟨0, rfl, Nat.zero_le _, HO.out, HB2.out⟩
    case round =>
      obtain ⟨i, rfl, hi, hR, hBl⟩ := hrel
      have HR := Lib.hid hR
      have HBl := Lib.hid hBl
      clear hR hBl
      by_cases hin : i < ls.length
      · have hlt := mapAt_len tidyL ls i hi
        obtain ⟨g, rfl, hBg, hgl, hgc, hcell⟩ := HR.out.form hlt (by omega)
        obtain ⟨hc0, hz⟩ := hcell i ls[i] (mapAt_get tidyL ls i hin)
        have hS := mapAt_step tidyL ls i hin
        have hx := HL.out ls[i] (List.getElem_mem hin)
        generalize ls[i] = x at *
        unfold strV at hc0
        have HS2 := Lib.hid hS
        have n1 := N1.out ⟨x.toArray⟩ wr (by simp only [ByteArray.size, List.size_toArray]; omega) (HS.out.below HS.out.pos HBl.out)
        have NN := Lib.hid n1
        clear hcell hS hlt n1
        go_wp2_with fail
        refine NN.out.mono ?_
        rintro e w3 ⟨rfl, hb3⟩
        have hc0' : w3.cell? ⟨g, i, none⟩ = some (.string ⟨x.toArray⟩) := by rw [hb3.cell (by exact hgl)]; exact hc0
        have hz' : w3.frozen? ⟨g, i, none⟩ = false := by rw [hb3.frozen (by exact hgl)]; exact hz
        have HRS := Lib.hid ((HR.out.below hb3).set (mapAt_len tidyL ls i hi) i (tidyL x))
        rw [HS2.out] at HRS
        have HBS := Lib.hid ((Below.then HBl.out hb3).setCell (p := ⟨g, i, none⟩) hBg (strV (tidyL x)))
        clear hb3 hc0 hz
        unfold strV at HRS HBS
        unfold strV
        go_wp2_with fail
        go_roundw
        case rel => exact ⟨i + 1, by go_num, by omega, HRS.out, HBS.out⟩
        case measure => simp [intOf]; omega
      · have hi' : i = ls.length := by omega
        subst hi'
        have hT : MapAt tidyL ls ls.length = ls.map tidyL := by unfold MapAt; rw [List.take_length, List.drop_length, List.append_nil]
        rw [hT] at HR
        have t3 : decide (ls.length < ls.length) = false := by simp
        go_wp2_with fail
        go_ret2
        exact ⟨_, rfl, _, rfl, HR.out, HBl.out⟩
end Go.Proofs.YthhlnahehpigeaaDoor
