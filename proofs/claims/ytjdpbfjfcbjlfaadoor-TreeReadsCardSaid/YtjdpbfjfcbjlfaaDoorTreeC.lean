/- DERIVED. The walk of Size: a closure that counts. -/
import Derived.Test.YtjdpbfjfcbjlfaaDoorTreeB
import Derived.Laws.EntriesVeiled
set_option linter.unusedSimpArgs false
set_option linter.unusedVariables false
namespace Go.Proofs.YtjdpbfjfcbjlfaaDoor
open Go.RowKit

def countF (bs bc : Nat) : Value := .func (.func 26) #[] #[.pointer (some ⟨bs, 0, none⟩), .pointer (some ⟨bc, 0, none⟩)]
/-- The counter and the closure's own variable. -/
structure Cnt (w : World) (bs bc : Nat) (c : Int) : Prop where
  hs : w.heap[bs]? = some (.cells #[.int .i64 c] 3 (0, 0))
  hc : w.heap[bc]? = some (.cells #[countF bs bc] 40 (0, 0))
theorem Cnt.ne {w : World} {bs bc : Nat} {c : Int} (h : Cnt w bs bc c) : bc ≠ bs := by
  intro e
  have h1 := h.hc
  rw [e, h.hs] at h1
  injection h1 with h1; injection h1 with _ h1; cases h1
theorem Cnt.alloc {w : World} {bs bc : Nat} {c : Int} (h : Cnt w bs bc c) (o : Obj) : Cnt (w.alloc o) bs bc c :=
  ⟨(Below.heap_alloc w o bs (Array.getElem?_eq_some_iff.1 h.hs).1).trans h.hs, (Below.heap_alloc w o bc (Array.getElem?_eq_some_iff.1 h.hc).1).trans h.hc⟩
theorem Cnt.set {w : World} {bs bc : Nat} {c : Int} (h : Cnt w bs bc c) (d : Int) : Cnt (w.setCell ⟨bs, 0, none⟩ (.int .i64 d)) bs bc d :=
  ⟨heap_setCell_same _ _ 0 _ _ (.int .i64 d) h.hs, (Below.heap_setCell w ⟨bs, 0, none⟩ (.int .i64 d) bc (by have := h.ne; simpa using this)).trans h.hc⟩
theorem Cnt.c0 {w : World} {bs bc : Nat} {c : Int} (h : Cnt w bs bc c) : w.cell? ⟨bs, 0, none⟩ = some (.int .i64 c) := cell_of_row _ _ _ _ _ _ h.hs
theorem Cnt.c1 {w : World} {bs bc : Nat} {c : Int} (h : Cnt w bs bc c) : w.cell? ⟨bc, 0, none⟩ = some (.func (.func 26) #[] #[.pointer (some ⟨bs, 0, none⟩), .pointer (some ⟨bc, 0, none⟩)]) := cell_of_row _ _ _ _ _ _ h.hc
theorem Cnt.f0 {w : World} {bs bc : Nat} {c : Int} (h : Cnt w bs bc c) : w.frozen? ⟨bs, 0, none⟩ = false := frozen_of_row _ _ _ _ _ h.hs
theorem Cnt.lt {w : World} {bs bc : Nat} {c : Int} (h : Cnt w bs bc c) : bs < w.heap.size ∧ bc < w.heap.size := ⟨(Array.getElem?_eq_some_iff.1 h.hs).1, (Array.getElem?_eq_some_iff.1 h.hc).1⟩

set_option maxHeartbeats 1000000 in
theorem count_any (n : Nat) : ∀ (t : Tr) (kv : Value) (W0 w : World) (bs bc c : Nat), t.size ≤ n → c + t.size ≤ 1152921504606846976 → Lies W0 t kv → Below W0.heap.size W0 w → W0.heap.size ≤ bs → Cnt w bs bc c →
    Calls Tryd.prog 26 #[nodeV t kv, .pointer (some ⟨bs, 0, none⟩), .pointer (some ⟨bc, 0, none⟩)] w fun e w' => e = .returned (.tuple #[]) ∧ Below W0.heap.size W0 w' ∧ Cnt w' bs bc ((c + t.size : Nat) : Int) := by
  induction n with
  | zero => intro t kv W0 w bs bc c h; rw [Tr.size_def] at h; omega
  | succ n ih =>
    intro t kv W0 w bs bc c hn hs hl hbw hbs hcnt
    obtain ⟨xa, cap, b, o, K, rfl, hxa, hk⟩ := hl.kidsOf
    have hsz := Tr.size_def t
    have hlen := sizes_len t.kids
    have IH := Lib.hid ih
    have HK := Lib.hid hk
    have HX := Lib.hid hxa
    have HW := Lib.hid hbw
    have HN := Lib.hid hcnt
    have d0 := fun o => (HN.out.alloc o).c0
    have f0 := fun o => (HN.out.alloc o).f0
    have hws := hbw.size
    clear ih hk hl hxa hbw hcnt
    unfold nodeV
    go_enter Tryd.func26, Tryd.ntmps26
    go_wp2_with fail
    go_loopw [11] (fun a wr => ∃ i : Nat, a = .int .i64 i ∧ i ≤ t.kids.length ∧ Below W0.heap.size W0 wr ∧ Cnt wr bs bc ((c + 1 + sizes (t.kids.take i) : Nat) : Int)) (fun a _ => t.kids.length - (intOf a).toNat)
    case atStart => exact ⟨0, rfl, by omega, (HW.out.alloc (by omega) _).setCell (p := ⟨bs, 0, none⟩) hbs _, (HN.out.alloc _).set _⟩
    case round =>
      obtain ⟨i, rfl, hi, hb, hN⟩ := hrel
      have HB := Lib.hid hb
      have HN2 := Lib.hid hN
      have hst := hb.size
      by_cases hin : i < t.kids.length
      · have hx := HX.out (by omega)
        subst hx
        obtain ⟨x, cp, hcW, hl, hlt⟩ := kid_at HK.out (Below.refl _ _) hin
        have hc' := hcW.below hb
        have c0 := hc'.c0; have c1 := hc'.c1; have c2 := hc'.c2; have c3 := hc'.c3; have c4 := hc'.c4; have c5 := hc'.c5
        have e1 := fun o => (hN.alloc o).c1
        have HL := Lib.hid hl
        have hsk := Tr.size_kid t i hin
        have hd := sizes_take t.kids i hin
        have hd2 := sizes_take_le t.kids (i + 1)
        clear hcW hc' hl hb hN
        generalize hk : t.kids[i] = k at *
        go_wp2_with fail
        refine (IH.out k _ W0 _ bs bc (c + 1 + sizes (t.kids.take i)) (by omega) (by omega) HL.out (HB.out.alloc (by omega) _) hbs (HN2.out.alloc _)).mono ?_
        rintro e w1 ⟨rfl, hb1, hN1⟩
        have HB1 := Lib.hid hb1
        have HN3 := Lib.hid hN1
        have hst1 := hN1.lt
        clear hb1 hN1
        go_wp2_with fail
        go_roundw
        case rel => exact ⟨i + 1, by go_num, by omega, HB1.out, by rw [hd, ← Nat.add_assoc]; exact HN3.out⟩
        case measure => simp [intOf]; omega
      · have hi' : i = t.kids.length := by omega
        subst hi'
        have t3 : decide ((t.kids.length : Int) < t.kids.length) = false := by simp
        rw [List.take_length] at HN2
        clear hb hN
        go_wp2_with fail
        go_end0
        refine ⟨rfl, HB.out, ?_⟩
        have := HN2.out
        rw [show c + t.size = c + 1 + sizes t.kids from by omega]; exact this
theorem cnt_new (w : World) (bs : Nat) (h : bs = w.heap.size) : Cnt ((w.alloc (.cells #[.int .i64 0] 3)).alloc (.cells #[countF bs (bs + 1)] 40)) bs (bs + 1) 0 := by
  subst h
  refine ⟨?_, ?_⟩
  · rw [Below.heap_alloc _ _ _ (by simp)]; exact heap_alloc_new _ _
  · have := heap_alloc_new (w.alloc (.cells #[.int .i64 0] 3)) (.cells #[countF w.heap.size (w.heap.size + 1)] 40 (0, 0))
    simpa using this
set_option maxHeartbeats 1000000 in
theorem size_any (t : Tr) (kv : Value) (w : World) (hs : t.size ≤ 1152921504606846976) (hl : Lies w t kv) :
    Calls Tryd.prog 13 #[nodeV t kv] w fun e w' => e = .returned (.int .i64 t.size) ∧ Below w.heap.size w w' := by
  have hmf : ∀ (fn : Fn) (first cap : Array Value) (w : World), (Instr.makeFunc fn first cap).run Tryd.prog w = .ok (.func fn first cap) w := fun _ _ _ _ => rfl
  obtain ⟨xa, cap, rfl⟩ := hl.shape
  have HL := Lib.hid hl
  clear hl
  unfold nodeV
  go_enter Tryd.func13, Tryd.ntmps13
  go_wp2_with fail
  refine (count_any t.size t _ w _ (w.heap.size + 1) (w.heap.size + 1 + 1) 0 (Nat.le_refl _) (by omega) HL.out ?hbel (by omega) ?hcnt).mono ?_
  case hbel => exact (((Below.refl _ _).alloc (Nat.le_refl _) _).alloc (by simp) _).alloc (by simp; omega) _
  case hcnt => exact cnt_new _ _ (by simp)
  rintro e w1 ⟨rfl, hb1, hN1⟩
  have d0 := hN1.c0
  have HB1 := Lib.hid hb1
  clear hb1 hN1
  go_wp2_with fail
  go_ret
  exact ⟨ret_int (by omega), HB1.out⟩
end Go.Proofs.YtjdpbfjfcbjlfaaDoor
