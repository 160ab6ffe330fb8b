/- DERIVED. The walk of the law FixityLefts. -/
import Derived.Test.YtikkdkacflkifaaDoorL16Awake
import Derived.Test.YtikkdkacflkifaaDoorFixLe
import Derived.Test.YtikkdkacflkifaaDoorOwnN
import Derived.Deep.RegionWith
set_option linter.unusedSimpArgs false
set_option linter.unusedVariables false
namespace Go.Proofs.YtikkdkacflkifaaDoor
open Go.RowKit

/-- What oper answers: in blocks of its own. -/
def OperNew (s : ByteArray) (w : World) (e : Ending) (w' : World) : Prop := ∃ x c, e = .returned (nodeV (operT s) (.slice x 1 c)) ∧ LiesP (fun k => w.heap.size ≤ k) w' (operT s) (.slice x 1 c) ∧ Below w.heap.size w w'
set_option maxHeartbeats 1000000 in
theorem oper_new (s : ByteArray) (w : World) : Calls Tryd.prog 23 #[.string s] w (OperNew s w) := by
  have HZ := Lib.hid (rowN_new w zeroT (.slice none 0 0))
  have HB := Lib.hid ((Below.refl w.heap.size w).alloc (Nat.le_refl _) (.cells #[.int .i64 0, .int .i64 0, .string ⟨#[]⟩, .int .i64 0, .int .i64 0, .slice none 0 0] 32))
  go_enter Tryd.func23, Tryd.ntmps23
  go_wp2_with fail
  refine (leaf_any 5 s _).mono ?_
  rintro e w1 ⟨rfl, hb1⟩
  have HZ1 := Lib.hid (show RowN w1 w.heap.size zeroT (.slice none 0 0) from HZ.out.keep (hb1.block w.heap.size (by simp)))
  have HB1 := Lib.hid (Below.then HB.out hb1)
  have hlt : w.heap.size < w1.heap.size := HZ1.out.lt
  obtain ⟨e0, e1, e2, e3, e4, e5⟩ := HZ1.out.cells
  have z := HZ1.out.frozen
  clear hb1
  unfold nodeV
  go_wp2_with fail
  obtain ⟨wN, hwN, hR9, ho9, hz9, ho1, ho2, ho3⟩ := store_node HZ1.out 18 0 0 0 ⟨#[]⟩ (.slice (some ⟨w1.heap.size, 0, none⟩) 1 1)
  rw [hwN]
  have HN9 := (hR9 (operT s) rfl rfl rfl rfl rfl).alloc (.cells #[.int .i64 (leafT 5 s).kind, .int .i64 (leafT 5 s).form, .string (leafT 5 s).text, .int .i64 (leafT 5 s).line, .int .i64 (leafT 5 s).col, .slice none 0 0] 32)
  have hB9 := (below_fresh HB1.out (g := w.heap.size) (Nat.le_refl _) ho9 hz9 ho1 ho2 ho3).alloc (by rw [hz9]; omega) (.cells #[.int .i64 (leafT 5 s).kind, .int .i64 (leafT 5 s).form, .string (leafT 5 s).text, .int .i64 (leafT 5 s).line, .int .i64 (leafT 5 s).col, .slice none 0 0] 32)
  have hL9 : LiesP (fun k => w.heap.size ≤ k) (wN.alloc (.cells #[.int .i64 (leafT 5 s).kind, .int .i64 (leafT 5 s).form, .string (leafT 5 s).text, .int .i64 (leafT 5 s).line, .int .i64 (leafT 5 s).col, .slice none 0 0] 32)) (operT s) (.slice (some ⟨w1.heap.size, 0, none⟩) 1 1) := by
    have h := one_lies (P := fun k => w.heap.size ≤ k) 32 18 (show LiesP (fun k => w.heap.size ≤ k) wN (leafT 5 s) (.slice none (leafT 5 s).kids.length 0) from LiesP.leaf 1 5 s 0 0) (by rw [hz9]; omega)
    rw [hz9] at h
    exact h
  refine bodyPost_ret (results_cell_row rfl _ _ w.heap.size 32 _ (0, 0) _ rfl HN9 Tryd.underlying32 rfl (by kernel_rfl)) rfl ?_
  exact ⟨some ⟨w1.heap.size, 0, none⟩, 1, rfl, hL9, hB9⟩
/-- A slice of texts. -/
structure NamesAt (w : World) (b o : Nat) (l : List ByteArray) : Prop where
  len : l.length ≤ 9223372036854775807
  at_ : ∀ i (h : i < l.length), w.cell? ⟨b, o + i, none⟩ = some (.string l[i])
theorem NamesAt.below {w w' : World} {b o : Nat} {l : List ByteArray} (h : NamesAt w b o l) (hb : Below w.heap.size w w') : NamesAt w' b o l := ⟨h.len, fun i hi => (hb.cell (p := ⟨b, o + i, none⟩) (lt_of_cell (h.at_ i hi))).trans (h.at_ i hi)⟩
theorem made_node (w : World) (t : Tr) (kv : Value) (B b n : Nat) (hb : b ≤ w.heap.size) (hn : n = w.heap.size) (hl : LiesP (fun k => B ≤ k ∧ some k ≠ some n) w t kv) : OwnsN (w.alloc (.cells #[.int .i64 t.kind, .int .i64 t.form, .string t.text, .int .i64 t.line, .int .i64 t.col, kv] 32)) B b (.slice (some ⟨n, 0, none⟩) 1 1) [(t, kv)] := by
  subst hn
  refine ⟨⟨rfl, .inr ⟨_, 1, _, rfl, hb, heap_alloc_new _ _, Nat.le_refl _, by decide, rfl, rfl⟩⟩, fun x hx => ?_⟩
  obtain rfl : x = (t, kv) := by simpa using hx
  exact hl.keep (fun j hj _ => Below.heap_alloc _ _ _ hj)
/-- Where the loop stands. -/
structure BaseAt (w wr : World) (bw : Nat) (v : Value) (ts : List (Tr × Value)) (W : Tr) (x : Option Addr) (c : Nat) : Prop where
  row : OwnsN wr (bw + 1) w.heap.size v ts
  box : RowN wr bw W (.slice x W.kids.length c)
  lies : LiesP (fun k => bw + 1 ≤ k ∧ some k ≠ v.ownBlock) wr W (.slice x W.kids.length c)
  far : v.ownBlock ≠ some bw
theorem BaseAt.below {w wr w' : World} {bw : Nat} {v : Value} {ts : List (Tr × Value)} {W : Tr} {x : Option Addr} {c : Nat} (h : BaseAt w wr bw v ts W x c) (hb : Below wr.heap.size wr w') : BaseAt w w' bw v ts W x c :=
  ⟨h.row.below hb, h.box.keep (hb.block bw h.box.lt), h.lies.keep (fun k hk _ => hb.block k hk), h.far⟩
theorem BaseAt.alloc {w wr : World} {bw : Nat} {v : Value} {ts : List (Tr × Value)} {W : Tr} {x : Option Addr} {c : Nat} (h : BaseAt w wr bw v ts W x c) (o : Obj) : BaseAt w (wr.alloc o) bw v ts W x c := h.below ((Below.refl _ _).alloc (Nat.le_refl _) _)
/-- Behind an append. -/
theorem BaseAt.pushed {w wr w' : World} {bw g cap H n : Nat} {v : Value} {ts : List (Tr × Value)} {W : Tr} {x : Option Addr} {c : Nat} {y : Tr × Value} (h : BaseAt w wr bw v ts W x c)
    (hr : w'.ownsRow w.heap.size 32 6 (.slice (some ⟨g, 0, none⟩) n cap) n (ts.flatMap nodeCells ++ [y].flatMap nodeCells)) (hn : n = ts.length + 1)
    (hg : wr.grownBy w' v.ownBlock) (hat : v.ownBlock = some g ∨ g = H) (hH : wr.heap.size = H) (hx : LiesP (fun k => bw + 1 ≤ k ∧ some k ≠ v.ownBlock) wr y.1 y.2) :
    BaseAt w w' bw (.slice (some ⟨g, 0, none⟩) n cap) (ts ++ [y]) W x c :=
  ⟨OwnsN.more h.row hr hn hg hat hH hx, h.box.keep (hg.block bw h.box.lt (fun e => h.far e.symm)), lies_grown h.lies hg hat hH, fun e => by
    have hl := h.box.lt
    simp only [Value.ownBlock, Option.some.injEq] at e
    rcases hat with hat | hat
    · exact h.far (by rw [hat, e])
    · omega⟩
/-- Behind the store of a whole node into the box. -/
theorem BaseAt.stored {w wA wN : World} {bw : Nat} {v : Value} {ts : List (Tr × Value)} {W W2 : Tr} {x y : Option Addr} {c d : Nat} (h : BaseAt w wA bw v ts W x c)
    (hR : RowN wN bw W2 (.slice y W2.kids.length d)) (ho : ∀ j, j ≠ bw → wN.heap[j]? = wA.heap[j]?) (hl : LiesP (fun k => bw + 1 ≤ k ∧ some k ≠ v.ownBlock) wA W2 (.slice y W2.kids.length d)) :
    BaseAt w wN bw v ts W2 y d :=
  ⟨h.row.keepAt (fun k _ hk => ho k (fun e => h.far (by rw [hk, e]))) (fun k _ hk => ho k (by omega)), hR, hl.keep (fun k _ hk => ho k (by have := hk.1; omega)), h.far⟩
/-- The names behind the first, so far. -/
def rj (names : List ByteArray) (j : Nat) : List ByteArray := (names.take j).drop 1
theorem rj_one (names : List ByteArray) (h : 1 ≤ names.length) : rj names 1 = [] := by
  unfold rj; exact List.drop_eq_nil_of_le (by simp; omega)
theorem rj_succ (names : List ByteArray) (j : Nat) (h1 : 1 ≤ j) (h : j < names.length) : rj names (j + 1) = rj names j ++ [names[j]] := by
  unfold rj
  rw [List.take_succ_eq_append_getElem h, List.drop_append_of_le_length (by simp; omega)]
theorem rj_len (names : List ByteArray) (j : Nat) : (rj names j).length ≤ j := by unfold rj; simp; omega
theorem mids_lefts (n0 : ByteArray) (r : List ByteArray) : ∀ t ∈ leafT 1 n0 :: flatK r, t.mid.text.size ≤ 1152921504606846976 := by
  have hl : ∀ s, (leafT 1 s).mid.text.size ≤ 1152921504606846976 := fun s => by
    have : (leafT 1 s).mid.text = ⟨#[]⟩ := rfl
    rw [this]; decide
  have ho : (operT opP).mid.text.size ≤ 1152921504606846976 := by
    have : (operT opP).mid.text = opP := rfl
    rw [this]; decide
  have hf : ∀ r : List ByteArray, ∀ t ∈ flatK r, t.mid.text.size ≤ 1152921504606846976 := by
    intro r
    induction r with
    | nil => intro t h; cases h
    | cons s r ih =>
      intro t h
      rw [flatK, List.mem_cons, List.mem_cons] at h
      rcases h with rfl | rfl | h
      · exact ho
      · exact hl s
      · exact ih t h
  intro t h
  rw [List.mem_cons] at h
  rcases h with rfl | h
  · exact hl n0
  · exact hf r t h
theorem lefts_res {W0 W : World} {n0 : ByteArray} {r : List ByteArray} {ts : List (Tr × Value)} {va : Option Addr} {vc : Nat} (hK : ts.map (·.1) = leafT 1 n0 :: flatK r) (hTab : Tabs16 W0) (hb : Below W0.heap.size W0 W)
    (hl : Lies W (.mk 17 0 ⟨#[]⟩ 0 0 (ts.map (·.1))) (.slice va ts.length vc)) :
    Calls Tryd.prog 18 #[.slice none 0 0, .agg #[.int .i64 17, .int .i64 0, .string ⟨#[]⟩, .int .i64 0, .int .i64 0, .slice va ts.length vc]] W (ResPost (leftT (leafT 1 n0) r, 0) W) :=
  res_any (T := .mk 17 0 ⟨#[]⟩ 0 0 (ts.map (·.1))) (by rw [hK]; exact resolve_lefts n0 r) (fun i h => by
    have := mids_lefts n0 r (ts.map (·.1))[i] (by rw [← hK]; exact List.getElem_mem h)
    exact this) hTab hb hl
end Go.Proofs.YtikkdkacflkifaaDoor
