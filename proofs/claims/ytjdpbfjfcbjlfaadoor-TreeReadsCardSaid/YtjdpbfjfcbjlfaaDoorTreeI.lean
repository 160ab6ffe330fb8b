/- DERIVED. The walks of the reference's Leaves, and of SameAll of tokens. -/
import Derived.Test.YtjdpbfjfcbjlfaaDoorTreeH
import Derived.Test.YtjdpbfjfcbjlfaaDoorTreeB
set_option linter.unusedSimpArgs false
set_option linter.unusedVariables false
namespace Go.Proofs.YtjdpbfjfcbjlfaaDoor
open Go.RowKit

/-- What a row of tokens is, as the source of an append. -/
theorem OwnsK.src {w : World} {B : Nat} {v : Value} {l : List Tk} (h : OwnsK w B v l) :
    (v = .slice none 0 0 ∧ l = []) ∨ ∃ g cap, v = .slice (some ⟨g, 0, none⟩) l.length cap ∧ B ≤ g ∧ g < w.heap.size ∧ ∀ j u, (l.flatMap tkCells)[j]? = some u → w.cell? ((⟨g, 0, none⟩ : Addr).add j) = some u := by
  obtain ⟨e, ⟨a, b⟩ | ⟨g, cap, cur, a, b, c, d⟩⟩ := id h
  · exact .inl ⟨a, List.eq_nil_of_length_eq_zero b⟩
  · refine .inr ⟨g, cap, a, b, (Array.getElem?_eq_some_iff.1 c).1, fun j u hj => ?_⟩
    subst a
    have h3 : (⟨g, 0, none⟩ : Addr).add j = ⟨g, j, none⟩ := by simp [Addr.add]; intro h; subst h; rfl
    rw [h3, World.ownsRow.cellAt h j (by have := (List.getElem?_eq_some_iff.1 hj).1; omega), hj]

theorem OwnsK.base {w : World} {B B' : Nat} {v : Value} {l : List Tk} (h : OwnsK w B v l) (hB : B' ≤ B) : OwnsK w B' v l := by
  obtain ⟨e, ⟨a, b⟩ | ⟨g, cap, cur, a, b, c, d⟩⟩ := h
  · exact ⟨e, .inl ⟨a, b⟩⟩
  · exact ⟨e, .inr ⟨g, cap, cur, a, by omega, c, d⟩⟩
theorem made_tok (w : World) (x : Tk) (B n : Nat) (hB : B ≤ w.heap.size) (hn : n = w.heap.size) : OwnsK (w.alloc (.cells #[.int .i64 x.kind, .string x.text, .int .i64 x.line, .int .i64 x.col] 42)) B (.slice (some ⟨n, 0, none⟩) 1 1) [x] := by
  subst hn
  exact ⟨rfl, .inr ⟨_, 1, _, rfl, hB, heap_alloc_new _ _, Nat.le_refl _, by decide, rfl, rfl⟩⟩
theorem Boxed.grown {w w1 : World} {b : Nat} {t : Tr} {kv : Value} {row : Option Nat} (h : Boxed w b t kv) (hg : w.grownBy w1 row) (hr : some b ≠ row) : Boxed w1 b t kv := by
  have hb := hg.block b h.lt hr
  exact ⟨(World.cell?_of_block (w := w) hb).trans h.c0, (World.cell?_of_block (w := w) hb).trans h.c1, (World.cell?_of_block (w := w) hb).trans h.c2, (World.cell?_of_block (w := w) hb).trans h.c3, (World.cell?_of_block (w := w) hb).trans h.c4, (World.cell?_of_block (w := w) hb).trans h.c5⟩

set_option maxHeartbeats 2000000 in
theorem refLeaves_any (n : Nat) : ∀ (t : Tr) (kv : Value) (w : World), t.size ≤ n → t.size ≤ 3518437208883 → Lies w t kv →
    Calls Tryd.prog 19 #[nodeV t kv] w fun e w' => ∃ v, e = .returned v ∧ OwnsK w' w.heap.size v t.leaves ∧ Below w.heap.size w w' := by
  induction n with
  | zero => intro t kv w h; rw [Tr.size_def] at h; omega
  | succ n ih =>
    intro t kv w hn hs hl
    obtain ⟨xa, cap, b, o, K, rfl, hxa, hk⟩ := hl.kidsOf
    obtain ⟨i0, z0, hi0, hz0, hz1, hz2, hz3⟩ := tok_info
    have hsz := Tr.size_def t
    have hlen := sizes_len t.kids
    have IH := Lib.hid ih
    have HK := Lib.hid hk
    have HX := Lib.hid hxa
    clear ih hk hl hxa
    unfold nodeV
    by_cases h1 : t.kind = 1
    · have t1 : (t.kind == 1) = true := by simp; exact h1
      have hlf : t.leaves = [⟨t.form, t.text, t.line, t.col⟩] := by rw [Tr.leaves_def, if_pos h1]
      rw [hlf]
      clear h1
      go_enter Tryd.func19, Tryd.ntmps19
      go_wp2_with fail
      go_ret
      refine ⟨_, rfl, ?_, ((Below.refl _ _).alloc (Nat.le_refl _) _).alloc (by simp) _⟩
      exact made_tok _ ⟨t.form, t.text, t.line, t.col⟩ _ _ (by simp) (by simp)
    · have t1 : (t.kind == 1) = false := by simp; exact h1
      have hlf : t.leaves = leavesL t.kids := by rw [Tr.leaves_def, if_neg h1]
      rw [hlf]
      clear h1
      go_enter Tryd.func19, Tryd.ntmps19
      go_wp2_with fail
      go_loopw [3, 4] (fun v a wr => ∃ i : Nat, a = .int .i64 i ∧ i ≤ t.kids.length ∧ Below w.heap.size w wr ∧ Boxed wr w.heap.size t (.slice xa t.kids.length cap) ∧ OwnsK wr (w.heap.size + 1) v (leavesL (t.kids.take i))) (fun _ a _ => t.kids.length - (intOf a).toNat)
      case atStart => exact ⟨0, rfl, by omega, (Below.refl _ _).alloc (Nat.le_refl _) _, boxed_new _ _ _ _ rfl, rfl, .inl ⟨rfl, rfl⟩⟩
      case round =>
        obtain ⟨i, rfl, hi, hb, hB, hO⟩ := hrel
        have HB := Lib.hid hb
        have X1 := Lib.hid hB
        have b5 := hB.c5
        have HO := Lib.hid hO
        obtain ⟨va, vc, rfl⟩ := hO.shape
        have hst := hb.size
        have hbl := hB.lt
        clear hO hB
        by_cases hin : i < t.kids.length
        · have hx := HX.out (by omega)
          subst hx
          obtain ⟨x, cp, hc', hl, hlt⟩ := kid_at HK.out hb hin
          have c0 := hc'.c0; have c1 := hc'.c1; have c2 := hc'.c2; have c3 := hc'.c3; have c4 := hc'.c4; have c5 := hc'.c5
          have HL := Lib.hid hl
          have hsk := Tr.size_kid t i hin
          have HD := Lib.hid (leavesL_take t.kids i hin)
          have hd2 := sizes_take_le t.kids (i + 1)
          have hd3 := sizes_take t.kids i hin
          have hd4 : (leavesL (t.kids.take i)).length ≤ sizes (t.kids.take i) := leavesL_le _
          have hd5 := leaves_size _ t.kids[i] (Nat.le_refl _)
          clear hc' hl hb
          generalize hk : t.kids[i] = k at *
          go_wp2_with fail
          refine (IH.out k _ _ (by omega) (by omega) HL.out).mono ?_
          rintro e w1 ⟨v, rfl, hO1, hb1⟩
          have HB1 := Lib.hid (Below.then HB.out hb1)
          have X2 := Lib.hid (X1.out.below hb1)
          have HO1 := Lib.hid (HO.out.below hb1)
          have hst1 := hb1.size
          clear hb1
          rcases hO1.src with ⟨rfl, hk0⟩ | ⟨g, gc, rfl, hg, hglt, hcell⟩
          · go_wp2_with (at_builtin; refine wpList_append_own_none rfl _ _ 29 rfl (w.heap.size + 1) 42 i0 4 Tryd.underlying29 hi0 _ _ _ rfl HO1.out rfl ?_)
            go_roundw
            case rel => exact ⟨i + 1, by go_num, by omega, HB1.out, X2.out, by rw [HD.out, hk0, List.append_nil]; exact HO1.out⟩
            case measure => simp [intOf]; omega
          · have hcl := cells_len k.leaves
            have HC := Lib.hid hcell
            clear hcell
            go_wp2_with (at_builtin; refine wpList_append_own _ rfl _ _ 29 rfl (w.heap.size + 1) 42 i0 z0 4 40 Tryd.underlying29 hi0 hz0 hz1 hz2 hz3 (by decide) _ _ _ rfl HO1.out ⟨g, 0, none⟩ k.leaves.length gc (k.leaves.flatMap tkCells) rfl hcl HC.out (tok_one _) (by simp only [maxLen]; omega) (by omega) (by omega) ?_; rintro v' w2 hown' hgrow -)
            have HO2 := Lib.hid (OwnsK.more hown' rfl)
            have HB2 := Lib.hid (HB1.out.grown hgrow (by omega) (fun k hk => by have := (HO1.out.lt k hk).1; omega))
            have X3 := Lib.hid (X2.out.grown hgrow (fun e => by have := (HO1.out.lt _ e.symm).1; omega))
            clear hown' hgrow
            go_roundw
            case rel => exact ⟨i + 1, by go_num, by omega, HB2.out, X3.out, by rw [HD.out]; exact HO2.out⟩
            case measure => simp [intOf]; omega
        · have hi' : i = t.kids.length := by omega
          subst hi'
          have t3 : decide ((t.kids.length : Int) < t.kids.length) = false := by simp
          clear hb
          go_wp2_with fail
          go_ret
          exact ⟨_, rfl, by have := HO.out.base (Nat.le_succ _); rw [List.take_length] at this; simpa using this, HB.out⟩
end Go.Proofs.YtjdpbfjfcbjlfaaDoor
