/- DERIVED. The walks of the reference's Depth and Size, and of Size. -/
import Derived.Test.YtjdpbfjfcbjlfaaDoorTreeA
set_option linter.unusedSimpArgs false
set_option linter.unusedVariables false
namespace Go.Proofs.YtjdpbfjfcbjlfaaDoor
open Go.RowKit

/-- A parameter that lies in a block of its own. -/
structure Boxed (w : World) (b : Nat) (t : Tr) (kv : Value) : Prop where
  c0 : w.cell? ⟨b, 0, none⟩ = some (.int .i64 t.kind)
  c1 : w.cell? ⟨b, 1, none⟩ = some (.int .i64 t.form)
  c2 : w.cell? ⟨b, 2, none⟩ = some (.string t.text)
  c3 : w.cell? ⟨b, 3, none⟩ = some (.int .i64 t.line)
  c4 : w.cell? ⟨b, 4, none⟩ = some (.int .i64 t.col)
  c5 : w.cell? ⟨b, 5, none⟩ = some kv
theorem Boxed.below {w w' : World} {b : Nat} {t : Tr} {kv : Value} (h : Boxed w b t kv) (hb : Below w.heap.size w w') : Boxed w' b t kv := by
  have hl : b < w.heap.size := lt_of_cell h.c0
  exact ⟨(hb.cell (by exact hl)).trans h.c0, (hb.cell (by exact hl)).trans h.c1, (hb.cell (by exact hl)).trans h.c2, (hb.cell (by exact hl)).trans h.c3, (hb.cell (by exact hl)).trans h.c4, (hb.cell (by exact hl)).trans h.c5⟩
theorem Boxed.alloc {w : World} {b : Nat} {t : Tr} {kv : Value} (h : Boxed w b t kv) (o : Obj) : Boxed (w.alloc o) b t kv := h.below ((Below.refl _ _).alloc (Nat.le_refl _) _)
theorem Boxed.lt {w : World} {b : Nat} {t : Tr} {kv : Value} (h : Boxed w b t kv) : b < w.heap.size := lt_of_cell h.c0
theorem boxed_new (w : World) (t : Tr) (kv : Value) (n : Nat) (hn : n = w.heap.size) : Boxed (w.alloc (.cells #[.int .i64 t.kind, .int .i64 t.form, .string t.text, .int .i64 t.line, .int .i64 t.col, kv] 24)) n t kv := by
  subst hn
  exact ⟨World.cell?_alloc_new _ _ _ _, World.cell?_alloc_new _ _ _ _, World.cell?_alloc_new _ _ _ _, World.cell?_alloc_new _ _ _ _, World.cell?_alloc_new _ _ _ _, World.cell?_alloc_new _ _ _ _⟩

theorem sizes_append (a b : List Tr) : sizes (a ++ b) = sizes a + sizes b := by
  induction a with
  | nil => simp [sizes]
  | cons k r ih => simp only [List.cons_append, sizes, ih]; omega
theorem sizes_take (ks : List Tr) (i : Nat) (h : i < ks.length) : sizes (ks.take (i + 1)) = sizes (ks.take i) + (ks[i]).size := by
  rw [List.take_add_one, List.getElem?_eq_getElem h, Option.toList_some, sizes_append]; simp [sizes]
theorem sizes_take_le (ks : List Tr) (i : Nat) : sizes (ks.take i) ≤ sizes ks := by
  have := sizes_append (ks.take i) (ks.drop i)
  rw [List.take_append_drop] at this; omega

set_option maxHeartbeats 1000000 in
theorem refDepth_any (n : Nat) : ∀ (t : Tr) (kv : Value) (w : World), t.size ≤ n → t.size ≤ 1152921504606846976 → Lies w t kv →
    Calls Tryd.prog 16 #[nodeV t kv] w fun e w' => e = .returned (.int .i64 t.depth) ∧ Below w.heap.size w w' := by
  induction n with
  | zero => intro t kv w h; rw [Tr.size_def] at h; omega
  | succ n ih =>
    intro t kv w hn hs hl
    obtain ⟨xa, cap, b, o, K, rfl, hxa, hk⟩ := hl.kidsOf
    have hsz := Tr.size_def t
    have hlen := sizes_len t.kids
    have IH := Lib.hid ih
    have HK := Lib.hid hk
    have HX := Lib.hid hxa
    clear ih hk hl hxa
    unfold nodeV
    go_enter Tryd.func16, Tryd.ntmps16
    go_wp2_with fail
    go_loopw [3, 4] (fun v a wr => ∃ i : Nat, v = .int .i64 (depths (t.kids.take i) : Nat) ∧ a = .int .i64 i ∧ i ≤ t.kids.length ∧ Below w.heap.size w wr ∧ Boxed wr w.heap.size t (.slice xa t.kids.length cap)) (fun _ a _ => t.kids.length - (intOf a).toNat)
    case atStart => exact ⟨0, rfl, rfl, by omega, (Below.refl _ _).alloc (Nat.le_refl _) _, boxed_new _ _ _ _ rfl⟩
    case round =>
      obtain ⟨i, rfl, rfl, hi, hb, hB⟩ := hrel
      have HB := Lib.hid hb
      have HX6 := Lib.hid hB
      have hst := hb.size
      have b5 := hB.c5
      by_cases hin : i < t.kids.length
      · have hx := HX.out (by omega)
        subst hx
        obtain ⟨x, c, hc', hl, hlt⟩ := kid_at HK.out hb hin
        have c0 := hc'.c0; have c1 := hc'.c1; have c2 := hc'.c2; have c3 := hc'.c3; have c4 := hc'.c4; have c5 := hc'.c5
        have HL := Lib.hid hl
        have hsk := Tr.size_kid t i hin
        have hdk := depth_le_size _ _ (Nat.le_refl t.kids[i].size)
        have hd := depths_take t.kids i hin
        clear hc' hl hb hB
        generalize hk : t.kids[i] = k at *
        go_wp2_with fail
        refine (IH.out k _ _ (by omega) (by omega) HL.out).mono ?_
        rintro e w1 ⟨rfl, hb1⟩
        have HB1 := Lib.hid (Below.then HB.out hb1)
        have HX7 := Lib.hid (HX6.out.below hb1)
        clear hb1
        by_cases hm : depths (t.kids.take i) < k.depth
        · have t4 : decide (((depths (t.kids.take i) : Nat) : Int) < (k.depth : Int)) = true := by simp; omega
          go_wp2_with fail
          go_roundw
          case rel => exact ⟨i + 1, by rw [hd]; congr 1; omega, by go_num, by omega, HB1.out, HX7.out⟩
          case measure => simp [intOf]; omega
        · have t4 : decide (((depths (t.kids.take i) : Nat) : Int) < (k.depth : Int)) = false := by simp; omega
          go_wp2_with fail
          go_roundw
          case rel => exact ⟨i + 1, by rw [hd]; congr 1; omega, by go_num, by omega, HB1.out, HX7.out⟩
          case measure => simp [intOf]; omega
      · have hi' : i = t.kids.length := by omega
        subst hi'
        have hdd := Tr.depth_def t
        have hds := depth_le_size _ t (Nat.le_refl t.size)
        rw [List.take_length]
        have t3 : decide ((t.kids.length : Int) < t.kids.length) = false := by simp
        clear hb hB
        go_wp2_with fail
        go_ret
        exact ⟨ret_int (by omega), HB.out⟩

set_option maxHeartbeats 1000000 in
theorem refSize_any (n : Nat) : ∀ (t : Tr) (kv : Value) (w : World), t.size ≤ n → t.size ≤ 1152921504606846976 → Lies w t kv →
    Calls Tryd.prog 14 #[nodeV t kv] w fun e w' => e = .returned (.int .i64 t.size) ∧ Below w.heap.size w w' := by
  induction n with
  | zero => intro t kv w h; rw [Tr.size_def] at h; omega
  | succ n ih =>
    intro t kv w hn hs hl
    obtain ⟨xa, cap, b, o, K, rfl, hxa, hk⟩ := hl.kidsOf
    have hsz := Tr.size_def t
    have hlen := sizes_len t.kids
    have IH := Lib.hid ih
    have HK := Lib.hid hk
    have HX := Lib.hid hxa
    clear ih hk hl hxa
    unfold nodeV
    go_enter Tryd.func14, Tryd.ntmps14
    go_wp2_with fail
    go_loopw [3, 4] (fun v a wr => ∃ i : Nat, v = .int .i64 (1 + (sizes (t.kids.take i) : Nat)) ∧ a = .int .i64 i ∧ i ≤ t.kids.length ∧ Below w.heap.size w wr ∧ Boxed wr w.heap.size t (.slice xa t.kids.length cap)) (fun _ a _ => t.kids.length - (intOf a).toNat)
    case atStart => exact ⟨0, rfl, rfl, by omega, (Below.refl _ _).alloc (Nat.le_refl _) _, boxed_new _ _ _ _ rfl⟩
    case round =>
      obtain ⟨i, rfl, rfl, hi, hb, hB⟩ := hrel
      have HB := Lib.hid hb
      have HX6 := Lib.hid hB
      have hst := hb.size
      have b5 := hB.c5
      by_cases hin : i < t.kids.length
      · have hx := HX.out (by omega)
        subst hx
        obtain ⟨x, c, hc', hl, hlt⟩ := kid_at HK.out hb hin
        have c0 := hc'.c0; have c1 := hc'.c1; have c2 := hc'.c2; have c3 := hc'.c3; have c4 := hc'.c4; have c5 := hc'.c5
        have HL := Lib.hid hl
        have hsk := Tr.size_kid t i hin
        have hd := sizes_take t.kids i hin
        have hd2 := sizes_take_le t.kids (i + 1)
        clear hc' hl hb hB
        generalize hk : t.kids[i] = k at *
        go_wp2_with fail
        refine (IH.out k _ _ (by omega) (by omega) HL.out).mono ?_
        rintro e w1 ⟨rfl, hb1⟩
        have HB1 := Lib.hid (Below.then HB.out hb1)
        have HX7 := Lib.hid (HX6.out.below hb1)
        clear hb1
        go_wp2_with fail
        go_roundw
        case rel => exact ⟨i + 1, by rw [hd]; congr 1; omega, by go_num, by omega, HB1.out, HX7.out⟩
        case measure => simp [intOf]; omega
      · have hi' : i = t.kids.length := by omega
        subst hi'
        rw [List.take_length]
        have t3 : decide ((t.kids.length : Int) < t.kids.length) = false := by simp
        clear hb hB
        go_wp2_with fail
        go_ret
        exact ⟨ret_int (by omega), HB.out⟩
end Go.Proofs.YtjdpbfjfcbjlfaaDoor
