/- DERIVED. Rows of tokens; the walk of Leaves: a closure that appends. -/
import Derived.Test.YtikkdkacflkifaaDoorTreeD
import Derived.Laws.EntriesVeiled
import Derived.Laws.AppendOwnNone
set_option linter.unusedSimpArgs false
set_option linter.unusedVariables false
namespace Go.Proofs.YtikkdkacflkifaaDoor
open Go.RowKit

structure Tk where
  kind : Int
  text : ByteArray
  line : Int
  col : Int
def tkCells (x : Tk) : List Value := [.int .i64 x.kind, .string x.text, .int .i64 x.line, .int .i64 x.col]
mutual
/-- A tree's leaves. -/
def Tr.leaves : Tr → List Tk
  | .mk k f t l c ks => if k = 1 then [⟨f, t, l, c⟩] else leavesL ks
def leavesL : List Tr → List Tk
  | [] => []
  | k :: r => k.leaves ++ leavesL r
end
theorem Tr.leaves_def (t : Tr) : t.leaves = if t.kind = 1 then [⟨t.form, t.text, t.line, t.col⟩] else leavesL t.kids := by cases t; rw [Tr.leaves]; rfl
theorem leavesL_append (a b : List Tr) : leavesL (a ++ b) = leavesL a ++ leavesL b := by
  induction a with
  | nil => rfl
  | cons k r ih => rw [List.cons_append, leavesL, leavesL, ih, List.append_assoc]
theorem leavesL_take (ks : List Tr) (i : Nat) (h : i < ks.length) : leavesL (ks.take (i + 1)) = leavesL (ks.take i) ++ (ks[i]).leaves := by
  rw [List.take_add_one, List.getElem?_eq_getElem h, Option.toList_some, leavesL_append]; simp [leavesL]
theorem leaves_size (n : Nat) : ∀ t : Tr, t.size ≤ n → t.leaves.length ≤ t.size := by
  induction n with
  | zero => intro t h; rw [Tr.size_def] at h; omega
  | succ n ih =>
    intro t h
    rw [Tr.size_def] at h ⊢
    have key : ∀ ks : List Tr, sizes ks ≤ n → (leavesL ks).length ≤ sizes ks := by
      intro ks
      induction ks with
      | nil => intro _; simp [leavesL]
      | cons k r ihr =>
        intro hs
        rw [sizes] at hs ⊢
        rw [leavesL, List.length_append]
        have := ih k (by omega)
        have := ihr (by omega)
        omega
    have := key t.kids (by omega)
    rw [Tr.leaves_def]
    split
    · simp
    · omega

theorem leavesL_le (ks : List Tr) : (leavesL ks).length ≤ sizes ks := by
  induction ks with
  | nil => simp [leavesL]
  | cons k r ih =>
    rw [sizes, leavesL, List.length_append]
    have := leaves_size _ k (Nat.le_refl _)
    omega
/-- A row of tokens that the call has made. -/
def OwnsK (w : World) (B : Nat) (v : Value) (l : List Tk) : Prop := w.ownsRow B 74 4 v l.length (l.flatMap tkCells)
theorem OwnsK.alloc {w : World} {B : Nat} {v : Value} {l : List Tk} (h : OwnsK w B v l) (o : Obj) : OwnsK (w.alloc o) B v l := World.ownsRow.alloc h o
theorem cells_len (l : List Tk) : (l.flatMap tkCells).length = l.length * 4 := by
  induction l with
  | nil => rfl
  | cons x r ih => rw [List.flatMap_cons, List.length_append, ih]; simp [tkCells]; omega
theorem OwnsK.more {w : World} {B n : Nat} {v : Value} {l m : List Tk} (h : w.ownsRow B 74 4 v n (l.flatMap tkCells ++ m.flatMap tkCells)) (hn : n = l.length + m.length) : OwnsK w B v (l ++ m) := by
  subst hn
  unfold OwnsK
  rw [List.length_append, List.flatMap_append]; exact h
theorem OwnsK.shape {w : World} {B : Nat} {v : Value} {l : List Tk} (h : OwnsK w B v l) : ∃ a c, v = .slice a l.length c := by
  rcases h.2 with ⟨rfl, h0⟩ | ⟨g, cap, cur, rfl, _⟩
  · exact ⟨none, 0, by rw [h0]⟩
  · exact ⟨_, _, rfl⟩
theorem OwnsK.below {w w' : World} {B : Nat} {v : Value} {l : List Tk} (h : OwnsK w B v l) (hb : Below w.heap.size w w') : OwnsK w' B v l := by
  obtain ⟨e, ⟨a, b⟩ | ⟨g, cap, cur, a, b, c, d⟩⟩ := h
  · exact ⟨e, .inl ⟨a, b⟩⟩
  · exact ⟨e, .inr ⟨g, cap, cur, a, b, (hb.block g (Array.getElem?_eq_some_iff.1 c).1).trans c, d⟩⟩
/-- A store into a block of another type. -/
theorem OwnsK.off {w w' : World} {B k : Nat} {v : Value} {l : List Tk} {cs : Array Value} {t : TypeId} {fz : Nat × Nat} (h : OwnsK w B v l) (hk : w.heap[k]? = some (.cells cs t fz)) (h1 : t ≠ 74) (ho : ∀ j, j ≠ k → w'.heap[j]? = w.heap[j]?) : OwnsK w' B v l := by
  obtain ⟨e, ⟨a, b⟩ | ⟨g, cap, cur, a, b, c, d⟩⟩ := h
  · exact ⟨e, .inl ⟨a, b⟩⟩
  · have hkg : g ≠ k := by
      intro e1
      rw [e1, hk] at c
      injection c with c
      injection c with _ c
      exact h1 c
    exact ⟨e, .inr ⟨g, cap, cur, a, b, (ho g hkg).trans c, d⟩⟩
/-- A row of tokens is in no block of another type. -/
theorem OwnsK.ne {w : World} {B k : Nat} {v : Value} {l : List Tk} {cs : Array Value} {t : TypeId} {fz : Nat × Nat} (h : OwnsK w B v l) (hk : w.heap[k]? = some (.cells cs t fz)) (h1 : t ≠ 74) : some k ≠ v.ownBlock := by
  rcases h.2 with ⟨rfl, _⟩ | ⟨g, cap, cur, rfl, b, c, d⟩
  · simp [Value.ownBlock]
  · simp only [Value.ownBlock]
    intro e
    have e := Option.some.inj e
    subst e
    rw [hk] at c
    injection c with c
    injection c with _ c
    exact h1 c

theorem tok_info : ∃ i z, Tryd.prog.info? 74 = some i ∧ i.zero = some z ∧ i.size = 4 ∧ i.bytes = 40 ∧ z.cells.size = 4 := by
  have h : (Tryd.prog.info? 74).map (fun i => (i.zero.map (·.cells.size), i.size, i.bytes)) = some (some 4, 4, 40) := by kernel_rfl
  cases e : Tryd.prog.info? 74 with
  | none => rw [e] at h; cases h
  | some i =>
    rw [e] at h
    simp only [Option.map_some, Option.some.injEq, Prod.mk.injEq] at h
    cases hz : i.zero with
    | none => rw [hz] at h; simp at h
    | some z =>
      rw [hz] at h
      exact ⟨i, z, rfl, hz, h.2.1, h.2.2, by simpa using h.1⟩
theorem new_tok (w : World) (x : Tk) (n : Nat) (hn : n = w.heap.size) : ∀ j u, (tkCells x)[j]? = some u → (w.alloc (.cells #[.int .i64 x.kind, .string x.text, .int .i64 x.line, .int .i64 x.col] 74)).cell? ((⟨n, 0, none⟩ : Addr).add j) = some u := by
  subst hn
  intro j u hj
  match j, hj with
  | 0, hj => simp [tkCells] at hj; subst hj; simp [Addr.add]
  | 1, hj => simp [tkCells] at hj; subst hj; simp [Addr.add]
  | 2, hj => simp [tkCells] at hj; subst hj; simp [Addr.add]
  | 3, hj => simp [tkCells] at hj; subst hj; simp [Addr.add]
  | j + 4, hj => simp [tkCells] at hj
theorem new_tok1 (w : World) (x : Tk) (n : Nat) (hn : n = w.heap.size) : ∀ j u, ([x].flatMap tkCells)[j]? = some u → (w.alloc (.cells #[.int .i64 x.kind, .string x.text, .int .i64 x.line, .int .i64 x.col] 74)).cell? ((⟨n, 0, none⟩ : Addr).add j) = some u := by
  intro j u hj
  exact new_tok w x n hn j u (by simpa using hj)
theorem tok_one (l : List Tk) : ∀ u ∈ l.flatMap tkCells, u.oneCell' = true := by
  intro u hu
  rw [List.mem_flatMap] at hu
  obtain ⟨x, _, hx⟩ := hu
  simp [tkCells] at hx
  rcases hx with rfl | rfl | rfl | rfl <;> rfl

def leavesF (bo bw : Nat) : Value := .func (.func 42) #[] #[.pointer (some ⟨bo, 0, none⟩), .pointer (some ⟨bw, 0, none⟩)]
/-- The row's variable and the closure's own. -/
structure Lv (w : World) (B bo bw : Nat) (l : List Tk) (v : Value) : Prop where
  ho : w.heap[bo]? = some (.cells #[v] 48 (0, 0))
  hw : w.heap[bw]? = some (.cells #[leavesF bo bw] 75 (0, 0))
  hr : OwnsK w B v l
theorem Lv.ne {w : World} {B bo bw : Nat} {l : List Tk} {v : Value} (h : Lv w B bo bw l v) : bw ≠ bo := by
  intro e
  have h1 := h.hw
  rw [e, h.ho] at h1
  injection h1 with h1; injection h1 with _ h1; cases h1
theorem Lv.alloc {w : World} {B bo bw : Nat} {l : List Tk} {v : Value} (h : Lv w B bo bw l v) (o : Obj) : Lv (w.alloc o) B bo bw l v :=
  ⟨(Below.heap_alloc w o bo (Array.getElem?_eq_some_iff.1 h.ho).1).trans h.ho, (Below.heap_alloc w o bw (Array.getElem?_eq_some_iff.1 h.hw).1).trans h.hw, h.hr.alloc o⟩
theorem Lv.c0 {w : World} {B bo bw : Nat} {l : List Tk} {v : Value} (h : Lv w B bo bw l v) : w.cell? ⟨bo, 0, none⟩ = some v := cell_of_row _ _ _ _ _ _ h.ho
theorem Lv.c1 {w : World} {B bo bw : Nat} {l : List Tk} {v : Value} (h : Lv w B bo bw l v) : w.cell? ⟨bw, 0, none⟩ = some (.func (.func 42) #[] #[.pointer (some ⟨bo, 0, none⟩), .pointer (some ⟨bw, 0, none⟩)]) := cell_of_row _ _ _ _ _ _ h.hw
theorem Lv.f0 {w : World} {B bo bw : Nat} {l : List Tk} {v : Value} (h : Lv w B bo bw l v) : w.frozen? ⟨bo, 0, none⟩ = false := frozen_of_row _ _ _ _ _ h.ho
theorem Lv.lt {w : World} {B bo bw : Nat} {l : List Tk} {v : Value} (h : Lv w B bo bw l v) : bo < w.heap.size ∧ bw < w.heap.size := ⟨(Array.getElem?_eq_some_iff.1 h.ho).1, (Array.getElem?_eq_some_iff.1 h.hw).1⟩
/-- Behind an append: the row is new; it is stored. -/
theorem Lv.grown {w w1 : World} {B bo bw n : Nat} {l m : List Tk} {v v' : Value} (h : Lv w B bo bw l v) (ho : w1.ownsRow B 74 4 v' n (l.flatMap tkCells ++ m.flatMap tkCells)) (hn : n = l.length + m.length) (hg : w.grownBy w1 v.ownBlock) :
    w1.cell? ⟨bo, 0, none⟩ = some v ∧ w1.frozen? ⟨bo, 0, none⟩ = false ∧ Lv (w1.setCell ⟨bo, 0, none⟩ v') B bo bw (l ++ m) v' := by
  have h1 := (hg.block bo h.lt.1 (h.hr.ne h.ho (by decide))).trans h.ho
  have h2 := (hg.block bw h.lt.2 (h.hr.ne h.hw (by decide))).trans h.hw
  refine ⟨cell_of_row _ _ _ _ _ _ h1, frozen_of_row _ _ _ _ _ h1, heap_setCell_same _ _ 0 _ _ v' h1, (Below.heap_setCell w1 ⟨bo, 0, none⟩ v' bw (by have := h.ne; simpa using this)).trans h2, ?_⟩
  exact (OwnsK.more ho hn).off h1 (by decide) (fun j hj => Below.heap_setCell w1 ⟨bo, 0, none⟩ v' j hj)

set_option maxHeartbeats 2000000 in
theorem leaves1_any (n : Nat) : ∀ (t : Tr) (kv v : Value) (W0 w : World) (bo bw : Nat) (l : List Tk), t.size ≤ n → l.length + t.size ≤ 3518437208883 → Lies W0 t kv → Below W0.heap.size W0 w → W0.heap.size ≤ bo → Lv w W0.heap.size bo bw l v →
    Calls Tryd.prog 42 #[nodeV t kv, .pointer (some ⟨bo, 0, none⟩), .pointer (some ⟨bw, 0, none⟩)] w fun e w' => e = .returned (.tuple #[]) ∧ Below W0.heap.size W0 w' ∧ ∃ v', Lv w' W0.heap.size bo bw (l ++ t.leaves) v' := by
  induction n with
  | zero => intro t kv v W0 w bo bw l h; rw [Tr.size_def] at h; omega
  | succ n ih =>
    intro t kv v W0 w bo bw l hn hs hl hbw hbo hlv
    obtain ⟨xa, cap, b, o, K, rfl, hxa, hk⟩ := hl.kidsOf
    obtain ⟨i0, z0, hi0, hz0, hz1, hz2, hz3⟩ := tok_info
    have hsz := Tr.size_def t
    have hlen := sizes_len t.kids
    have IH := Lib.hid ih
    have HK := Lib.hid hk
    have HX := Lib.hid hxa
    have HW := Lib.hid hbw
    have HV := Lib.hid hlv
    have d0 := fun o => (HV.out.alloc o).c0
    have hws := hbw.size
    clear ih hk hl hxa hbw hlv
    unfold nodeV
    by_cases h1 : t.kind = 1
    · have t1 : (t.kind == 1) = true := by simp; exact h1
      have hlf : t.leaves = [⟨t.form, t.text, t.line, t.col⟩] := by rw [Tr.leaves_def, if_pos h1]
      rw [hlf]
      clear h1
      obtain ⟨sa, sc, rfl⟩ := HV.out.hr.shape
      go_enter Tryd.func42, Tryd.ntmps42
      go_wp2_with (at_builtin; refine wpList_append_own _ rfl _ _ 48 rfl W0.heap.size 74 i0 z0 4 40 Tryd.underlying48 hi0 hz0 hz1 hz2 hz3 (by decide) _ _ _ rfl ((HV.out.hr.alloc _).alloc _) ⟨w.heap.size + 1, 0, none⟩ 1 1 ([(⟨t.form, t.text, t.line, t.col⟩ : Tk)].flatMap tkCells) rfl rfl (new_tok1 _ ⟨t.form, t.text, t.line, t.col⟩ _ (by simp)) (tok_one _) (by simp only [maxLen]; omega) (by omega) (by simp; omega) ?_; rintro v' w1 hown' hgrow -; obtain ⟨sa', sc', hsv⟩ := (OwnsK.more hown' rfl).shape; subst hsv; have HBL := Lib.hid (((HW.out.alloc (by omega) _).alloc (by simp; omega) _).grown hgrow (by simp; omega) (fun k hk => (HV.out.hr.lt k hk).1)); obtain ⟨e0, e1, hL⟩ := ((HV.out.alloc _).alloc _).grown hown' rfl hgrow; have HL := Lib.hid hL; clear hown' hgrow hL)
      go_wp2_with fail
      refine bodyPost_ret (results_none rfl _ _ _) rfl ?_
      exact ⟨rfl, HBL.out.setCell (p := ⟨bo, 0, none⟩) hbo _, _, by have := HL.out; rw [List.length_append] at this; exact this⟩
    · have t1 : (t.kind == 1) = false := by simp; exact h1
      have hlf : t.leaves = leavesL t.kids := by rw [Tr.leaves_def, if_neg h1]
      rw [hlf]
      clear h1
      go_enter Tryd.func42, Tryd.ntmps42
      go_wp2_with fail
      go_loopw [24] (fun a wr => ∃ (i : Nat) (v : Value), a = .int .i64 i ∧ i ≤ t.kids.length ∧ Below W0.heap.size W0 wr ∧ Lv wr W0.heap.size bo bw (l ++ leavesL (t.kids.take i)) v) (fun a _ => t.kids.length - (intOf a).toNat)
      case atStart => exact ⟨0, v, rfl, by omega, HW.out.alloc (by omega) _, by simpa [leavesL] using HV.out.alloc _⟩
      case round =>
        obtain ⟨i, v2, rfl, hi, hb, hN⟩ := hrel
        have HB := Lib.hid hb
        have HN2 := Lib.hid hN
        have hst := hb.size
        by_cases hin : i < t.kids.length
        · have hx := HX.out (by omega)
          subst hx
          obtain ⟨x, cp, hcW, hl, hlt⟩ := kid_at HK.out (Below.refl _ _) hin
          have hc' := hcW.below hb
          have c0 := hc'.c0; have c1 := hc'.c1; have c2 := hc'.c2; have c3 := hc'.c3; have c4 := hc'.c4; have c5 := hc'.c5
          have e1 := fun o => (hN.alloc o).c1
          have HL := Lib.hid hl
          have hsk := Tr.size_kid t i hin
          have hd := leavesL_take t.kids i hin
          have hd2 := sizes_take_le t.kids (i + 1)
          have hd3 := sizes_take t.kids i hin
          have hd4 : (leavesL (t.kids.take i)).length ≤ sizes (t.kids.take i) := leavesL_le _
          have HD := Lib.hid hd
          clear hcW hc' hl hb hN hd
          generalize hk : t.kids[i] = k at *
          go_wp2_with fail
          refine (IH.out k _ v2 W0 _ bo bw (l ++ leavesL (t.kids.take i)) (by omega) (by rw [List.length_append]; omega) HL.out (HB.out.alloc (by omega) _) hbo (HN2.out.alloc _)).mono ?_
          rintro e w1 ⟨rfl, hb1, v3, hN1⟩
          have HB1 := Lib.hid hb1
          have HN3 := Lib.hid hN1
          clear hb1 hN1
          go_wp2_with fail
          go_roundw
          case rel => exact ⟨i + 1, v3, by go_num, by omega, HB1.out, by rw [HD.out, ← List.append_assoc]; exact HN3.out⟩
          case measure => simp [intOf]; omega
        · have hi' : i = t.kids.length := by omega
          subst hi'
          have t3 : decide ((t.kids.length : Int) < t.kids.length) = false := by simp
          rw [List.take_length] at HN2
          clear hb hN
          go_wp2_with fail
          go_end0
          exact ⟨rfl, HB.out, v2, HN2.out⟩

theorem lv_new (w : World) (B bo g : Nat) (hb : bo = w.heap.size) (hg : OwnsK w B (.slice (some ⟨g, 0, none⟩) 0 0) []) : Lv ((w.alloc (.cells #[.slice (some ⟨g, 0, none⟩) 0 0] 48)).alloc (.cells #[leavesF bo (bo + 1)] 75)) B bo (bo + 1) [] (.slice (some ⟨g, 0, none⟩) 0 0) := by
  subst hb
  refine ⟨?_, ?_, (hg.alloc _).alloc _⟩
  · rw [Below.heap_alloc _ _ _ (by simp)]; exact heap_alloc_new _ _
  · have := heap_alloc_new (w.alloc (.cells #[.slice (some ⟨g, 0, none⟩) 0 0] 48)) (.cells #[leavesF w.heap.size (w.heap.size + 1)] 75 (0, 0))
    simpa using this
set_option maxHeartbeats 1000000 in
theorem leaves_any (t : Tr) (kv : Value) (w : World) (hs : t.size ≤ 3518437208883) (hl : Lies w t kv) :
    Calls Tryd.prog 26 #[nodeV t kv] w fun e w' => ∃ v, e = .returned v ∧ OwnsK w' w.heap.size v t.leaves ∧ Below w.heap.size w w' := by
  have hmf : ∀ (fn : Fn) (first cap : Array Value) (w : World), (Instr.makeFunc fn first cap).run Tryd.prog w = .ok (.func fn first cap) w := fun _ _ _ _ => rfl
  obtain ⟨xa, cap, rfl⟩ := hl.shape
  have HL := Lib.hid hl
  clear hl
  unfold nodeV
  go_enter Tryd.func26, Tryd.ntmps26
  go_wp2_with fail
  refine (leaves1_any t.size t _ (.slice (some ⟨w.heap.size + 1, 0, none⟩) 0 0) w _ (w.heap.size + 1 + 1) (w.heap.size + 1 + 1 + 1) [] (Nat.le_refl _) (by simpa using hs) HL.out ?hbel (by omega) ?hlv).mono ?_
  case hbel => exact ((((Below.refl _ _).alloc (Nat.le_refl _) _).alloc (by simp) _).alloc (by simp; omega) _).alloc (by simp; omega) _
  case hlv => exact lv_new _ _ _ _ (by simp) (by have := World.ownsRow_made (base := w.heap.size) (e := 74) (size := 4) (w.alloc (.cells #[.int .i64 t.kind, .int .i64 t.form, .string t.text, .int .i64 t.line, .int .i64 t.col, .slice xa t.kids.length cap] 32)) #[] 0 (by simp) (by decide) rfl; unfold OwnsK; simpa using this)
  rintro e w1 ⟨rfl, hb1, v, hN1⟩
  have d0 := hN1.c0
  have HB1 := Lib.hid hb1
  have HN1 := Lib.hid hN1
  clear hb1 hN1
  go_wp2_with fail
  go_ret
  exact ⟨_, rfl, HN1.out.hr, HB1.out⟩
end Go.Proofs.YtikkdkacflkifaaDoor
