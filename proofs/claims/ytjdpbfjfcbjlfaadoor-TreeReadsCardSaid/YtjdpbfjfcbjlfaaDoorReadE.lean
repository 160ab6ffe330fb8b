/- DERIVED. The walk of node. -/
import Derived.Test.YtjdpbfjfcbjlfaaDoorReadD
set_option linter.unusedSimpArgs false
set_option linter.unusedVariables false
namespace Go.Proofs.YtjdpbfjfcbjlfaaDoor
open Go.RowKit

theorem results_ct_row {P : Program} {fn : Func} {p u : Tmp} {ty : TypeId} (h : fn.results = #[.cell p ty, .tmp u]) (tmps : Array Value) (w : World) (g : Nat) (t : TypeId) (cs : Array Value) (fr : Nat × Nat) (d : TypeDesc)
    (hp : tmps.getD p undef = .pointer (some ⟨g, 0, none⟩)) (hg : w.heap[g]? = some (.cells cs t fr))
    (hu : P.underlying ty = some d) (hd : (match d with | .struct _ | .array _ _ => true | _ => false) = true) (hi : (P.info? ty).map (·.size) = some cs.size) :
    (results fn tmps).run P w = .ok (.tuple #[.agg cs, tmps.getD u undef]) w := by
  rw [results_cell_tmp h]
  have hp' : tmps[p]?.getD undef = .pointer (some ⟨g, 0, none⟩) := by simpa using hp
  simp [hp', asAddr, run_loadVar_row w g t ty cs fr d hg hu hd hi, Result.andThen]

/-- A block that holds one node. -/
def RowN (w : World) (g : Nat) (t : Tr) (kv : Value) : Prop := w.heap[g]? = some (.cells #[.int .i64 t.kind, .int .i64 t.form, .string t.text, .int .i64 t.line, .int .i64 t.col, kv] 24 (0, 0))
def zeroT : Tr := .mk 0 0 ⟨#[]⟩ 0 0 []
theorem RowN.lt {w : World} {g : Nat} {t : Tr} {kv : Value} (h : RowN w g t kv) : g < w.heap.size := (Array.getElem?_eq_some_iff.1 h).1
theorem RowN.cells {w : World} {g : Nat} {t : Tr} {kv : Value} (h : RowN w g t kv) :
    w.cell? ⟨g, 0, none⟩ = some (.int .i64 t.kind) ∧ w.cell? ⟨g, 1, none⟩ = some (.int .i64 t.form) ∧ w.cell? ⟨g, 2, none⟩ = some (.string t.text) ∧ w.cell? ⟨g, 3, none⟩ = some (.int .i64 t.line) ∧ w.cell? ⟨g, 4, none⟩ = some (.int .i64 t.col) ∧ w.cell? ⟨g, 5, none⟩ = some kv :=
  ⟨cell_of_row _ _ _ _ _ _ h, cell_of_row _ _ _ _ _ _ h, cell_of_row _ _ _ _ _ _ h, cell_of_row _ _ _ _ _ _ h, cell_of_row _ _ _ _ _ _ h, cell_of_row _ _ _ _ _ _ h⟩
theorem RowN.frozen {w : World} {g : Nat} {t : Tr} {kv : Value} (h : RowN w g t kv) (j : Nat) : w.frozen? ⟨g, j, none⟩ = false := frozen_of_row _ _ _ _ _ h
theorem RowN.keep {w w' : World} {g : Nat} {t : Tr} {kv : Value} (h : RowN w g t kv) (hb : w'.heap[g]? = w.heap[g]?) : RowN w' g t kv := hb.trans h
theorem RowN.but {w w' : World} {b g : Nat} {t : Tr} {kv : Value} (h : RowN w g t kv) (hb : But b w w') (hg : g ≠ b) : RowN w' g t kv := (hb.block g h.lt hg).trans h
theorem RowN.alloc {w : World} {g : Nat} {t : Tr} {kv : Value} (h : RowN w g t kv) (o : Obj) : RowN (w.alloc o) g t kv := (Below.heap_alloc w o g h.lt).trans h
theorem rowN_new (w : World) (t : Tr) (kv : Value) : RowN (w.alloc (.cells #[.int .i64 t.kind, .int .i64 t.form, .string t.text, .int .i64 t.line, .int .i64 t.col, kv] 24)) w.heap.size t kv := heap_alloc_new _ _
/-- The world behind the store of a whole node. -/
def set6 (w : World) (g : Nat) (t : Tr) (kv : Value) : World :=
  (((((w.setCell ⟨g, 0, none⟩ (.int .i64 t.kind)).setCell ⟨g, 1, none⟩ (.int .i64 t.form)).setCell ⟨g, 2, none⟩ (.string t.text)).setCell ⟨g, 3, none⟩ (.int .i64 t.line)).setCell ⟨g, 4, none⟩ (.int .i64 t.col)).setCell ⟨g, 5, none⟩ kv
theorem RowN.set {w : World} {g : Nat} {t : Tr} {kv : Value} (h : RowN w g t kv) (u : Tr) (jv : Value) : RowN (set6 w g u jv) g u jv := by
  have h0 := heap_setCell_same _ _ 0 _ _ (.int .i64 u.kind) h
  have h1 := heap_setCell_same _ _ 1 _ _ (.int .i64 u.form) h0
  have h2 := heap_setCell_same _ _ 2 _ _ (.string u.text) h1
  have h3 := heap_setCell_same _ _ 3 _ _ (.int .i64 u.line) h2
  have h4 := heap_setCell_same _ _ 4 _ _ (.int .i64 u.col) h3
  exact heap_setCell_same _ _ 5 _ _ jv h4
theorem set6_other (w : World) (g : Nat) (t : Tr) (kv : Value) (k : Nat) (hk : k ≠ g) : (set6 w g t kv).heap[k]? = w.heap[k]? := by
  unfold set6
  rw [Below.heap_setCell _ _ _ _ hk, Below.heap_setCell _ _ _ _ hk, Below.heap_setCell _ _ _ _ hk, Below.heap_setCell _ _ _ _ hk, Below.heap_setCell _ _ _ _ hk, Below.heap_setCell _ _ _ _ hk]
theorem set6_below {B : Nat} {w w1 : World} (h : Below B w w1) (g : Nat) (hg : B ≤ g) (t : Tr) (kv : Value) : Below B w (set6 w1 g t kv) :=
  (((((h.setCell (p := ⟨g, 0, none⟩) hg _).setCell (p := ⟨g, 1, none⟩) hg _).setCell (p := ⟨g, 2, none⟩) hg _).setCell (p := ⟨g, 3, none⟩) hg _).setCell (p := ⟨g, 4, none⟩) hg _).setCell (p := ⟨g, 5, none⟩) hg _

theorem node_info : ∃ i z, Tryd.prog.info? 24 = some i ∧ i.zero = some z ∧ i.size = 6 ∧ i.bytes = 72 ∧ z.cells.size = 6 := by
  have h : (Tryd.prog.info? 24).map (fun i => (i.zero.map (·.cells.size), i.size, i.bytes)) = some (some 6, 6, 72) := by kernel_rfl
  cases e : Tryd.prog.info? 24 with
  | none => rw [e] at h; cases h
  | some i =>
    rw [e] at h
    simp only [Option.map_some, Option.some.injEq, Prod.mk.injEq] at h
    cases hz : i.zero with
    | none => rw [hz] at h; simp at h
    | some z =>
      rw [hz] at h
      exact ⟨i, z, rfl, hz, h.2.1, h.2.2, by simpa using h.1⟩
theorem new_node (w : World) (t : Tr) (kv : Value) (n : Nat) (hn : n = w.heap.size) : ∀ j u, ([(t, kv)].flatMap nodeCells)[j]? = some u → (w.alloc (.cells #[.int .i64 t.kind, .int .i64 t.form, .string t.text, .int .i64 t.line, .int .i64 t.col, kv] 24)).cell? ((⟨n, 0, none⟩ : Addr).add j) = some u := by
  subst hn
  intro j u hj
  exact World.news_of_block (heap_alloc_new w (.cells #[.int .i64 t.kind, .int .i64 t.form, .string t.text, .int .i64 t.line, .int .i64 t.col, kv] 24 (0, 0))) j u (by simpa [nodeCells] using hj)
theorem node_one (t : Tr) (x : Option Addr) (n c : Nat) : ∀ u ∈ [(t, Value.slice x n c)].flatMap nodeCells, u.oneCell' = true := by
  intro u hu
  simp [nodeCells] at hu
  rcases hu with rfl | rfl | rfl | rfl | rfl | rfl <;> rfl
/-- What the loop of node has read so far. -/
def KInv (K0 : Except Int (List Tr × List UInt8)) (f : List UInt8 → Except Int (Tr × List UInt8)) (n : Nat) (l : List UInt8) (ts : List (Tr × Value)) : Prop :=
  K0 = match kidsGo f n l with
    | .error e => .error e
    | .ok (us, q) => .ok (ts.map (·.1) ++ us, q)
theorem KInv.stop {K0 : Except Int (List Tr × List UInt8)} {f : List UInt8 → Except Int (Tr × List UInt8)} {n : Nat} {l : List UInt8} {ts : List (Tr × Value)} (h : KInv K0 f n l ts) (hl : l[0]? ≠ some 32) : K0 = .ok (ts.map (·.1), l) := by
  unfold KInv at h
  rw [h]
  cases n with
  | zero => simp [kidsGo]
  | succ n => rw [kidsGo, if_neg hl]; simp
theorem KInv.err {K0 : Except Int (List Tr × List UInt8)} {f : List UInt8 → Except Int (Tr × List UInt8)} {n : Nat} {l : List UInt8} {ts : List (Tr × Value)} {e : Int} (h : KInv K0 f n l ts) (hn : 0 < n) (hl : l[0]? = some 32) (hf : f (l.drop 1) = .error e) : K0 = .error e := by
  unfold KInv at h
  rw [h]
  obtain ⟨m, rfl⟩ : ∃ m, n = m + 1 := ⟨n - 1, by omega⟩
  rw [kidsGo, if_pos hl, hf]
theorem KInv.next {K0 : Except Int (List Tr × List UInt8)} {f : List UInt8 → Except Int (Tr × List UInt8)} {n : Nat} {l : List UInt8} {ts : List (Tr × Value)} {t : Tr} {q : List UInt8} (h : KInv K0 f n l ts) (hn : 0 < n) (hl : l[0]? = some 32) (hf : f (l.drop 1) = .ok (t, q)) (kv : Value) : KInv K0 f (n - 1) q (ts ++ [(t, kv)]) := by
  unfold KInv at h ⊢
  rw [h]
  obtain ⟨m, rfl⟩ : ∃ m, n = m + 1 := ⟨n - 1, by omega⟩
  rw [kidsGo, if_pos hl, hf, Nat.add_sub_cancel]
  dsimp only
  cases kidsGo f m q with
  | error e => rfl
  | ok z => obtain ⟨us, q2⟩ := z; simp

theorem RowN.set1 {w : World} {g : Nat} {k f : Int} {tx : ByteArray} {l c : Int} {ks : List Tr} {kv : Value} (h : RowN w g (.mk k f tx l c ks) kv) (x : Int) : RowN (w.setCell ⟨g, 1, none⟩ (.int .i64 x)) g (.mk k x tx l c ks) kv :=
  heap_setCell_same _ _ 1 _ _ (.int .i64 x) h
theorem RowN.set5 {w : World} {g : Nat} {t : Tr} {kv : Value} (h : RowN w g t kv) (v : Value) : RowN (w.setCell ⟨g, 5, none⟩ v) g t v :=
  heap_setCell_same _ _ 5 _ _ v h
theorem _root_.Go.World.ownsRow.shapeN {w : World} {B n sz : Nat} {e : TypeId} {v : Value} {xs : List Value} (h : w.ownsRow B e sz v n xs) : ∃ a c, v = .slice a n c := by
  rcases h.2 with ⟨rfl, h0⟩ | ⟨g, cap, cur, rfl, _⟩
  · exact ⟨none, 0, by rw [h0]⟩
  · exact ⟨_, _, rfl⟩
/-- What node leaves behind. -/
def NodePost (b i : Nat) (s : ByteArray) (R : Except Int (Tr × List UInt8)) (w : World) (e : Ending) (w' : World) : Prop :=
  But b w w' ∧ ∃ j, RD w' b s j ∧ j ≤ s.size ∧
    match R with
    | .ok (t, q) => i ≤ j ∧ ∃ kv, e = .returned (.tuple #[nodeV t kv, .int .i64 0]) ∧ q = s.data.toList.drop j ∧ LiesP (w.heap.size ≤ ·) w' t kv
    | .error x => e = .returned (.tuple #[nodeV zeroT (.slice none 0 0), .int .i64 x]) ∧ (x = 2 ∨ x = 100)

theorem But.set6 {b g : Nat} {w w1 : World} (h : But b w w1) (hg : w.heap.size ≤ g) (t : Tr) (kv : Value) : But b w (set6 w1 g t kv) :=
  h.belowAt (set6_below (Below.refl _ _) g hg t kv)
theorem RD.set6 {b g j : Nat} {s : ByteArray} {w : World} (h : RD w b s j) (hg : b ≠ g) (t : Tr) (kv : Value) : RD (set6 w g t kv) b s j := (set6_other w g t kv b hg).trans h
theorem But.grown {b : Nat} {w w1 w2 : World} {row : Option Nat} (h : But b w w1) (hg : w1.grownBy w2 row) (hr : ∀ k, row = some k → w.heap.size ≤ k) : But b w w2 :=
  ⟨hg.os.trans h.os, hg.tape.trans h.tape, hg.output.trans h.output, Nat.le_trans h.size hg.size, fun k hk hb => (hg.block k (Nat.lt_of_lt_of_le hk h.size) (fun e => by have := hr k e.symm; omega)).trans (h.block k hk hb)⟩
theorem But.setOther {b g j : Nat} {w w1 : World} (h : But b w w1) (hg : w.heap.size ≤ g) (v : Value) : But b w (w1.setCell ⟨g, j, none⟩ v) :=
  h.belowAt ((Below.refl _ _).setCell (p := ⟨g, j, none⟩) hg v)
theorem OwnsN.alloc {w : World} {B b : Nat} {v : Value} {ts : List (Tr × Value)} (h : OwnsN w B b v ts) (hB : B ≤ b) (o : Obj) : OwnsN (w.alloc o) B b v ts :=
  h.keep hB (fun k hk _ => Below.heap_alloc w o k hk)
theorem LiesP.alloc {P : Nat → Prop} {w : World} {t : Tr} {kv : Value} (h : LiesP P w t kv) (o : Obj) : LiesP P (w.alloc o) t kv := h.keep (fun k hk _ => Below.heap_alloc w o k hk)
theorem nodePost_err {b i j : Nat} {s : ByteArray} {R : Except Int (Tr × List UInt8)} {w w1 : World} {x : Int} (hR : R = .error x) (hx : x = 2 ∨ x = 100) (hB : But b w w1) (hb : b < w.heap.size) (hD : RD w1 b s j) (hj : j ≤ s.size) :
    NodePost b i s R w (.returned (.tuple #[nodeV zeroT (.slice none 0 0), .int .i64 x])) (set6 w1 w.heap.size zeroT (.slice none 0 0)) := by
  subst hR
  exact ⟨hB.set6 (Nat.le_refl _) _ _, j, hD.set6 (by omega) _ _, hj, rfl, hx⟩
theorem nodePost_ok {b i j : Nat} {s : ByteArray} {R : Except Int (Tr × List UInt8)} {w w1 : World} {t : Tr} {q : List UInt8} {kv : Value} (hR : R = .ok (t, q)) (hB : But b w w1) (hb : b < w.heap.size) (hD : RD w1 b s j) (hij : i ≤ j) (hj : j ≤ s.size)
    (hq : q = s.data.toList.drop j) (hl : LiesP (fun k => w.heap.size ≤ k ∧ k ≠ w.heap.size) w1 t kv) :
    NodePost b i s R w (.returned (.tuple #[nodeV t kv, .int .i64 0])) (set6 w1 w.heap.size t kv) := by
  subst hR
  refine ⟨hB.set6 (Nat.le_refl _) _ _, j, hD.set6 (by omega) _ _, hj, hij, kv, rfl, hq, ?_⟩
  exact (hl.keep (fun k _ hp => set6_other w1 w.heap.size t kv k hp.2)).mono (fun k _ hp => hp.1)

set_option maxRecDepth 20000 in
set_option maxHeartbeats 4000000 in
theorem node_any (d : Nat) : ∀ (b i : Nat) (s : ByteArray) (x : Int) (w : World), x = 1000 - (d : Int) → d ≤ 1000 → s.size ≤ 16777216 → RD w b s i → i ≤ s.size →
    Calls Tryd.prog 33 #[.pointer (some ⟨b, 0, none⟩), .int .i64 x] w fun e w' => NodePost b i s (nodeGo d (s.data.toList.drop i)) w e w' := by
  induction d with
  | zero =>
    intro b i s x w hx _ hs h hi
    subst hx
    have HR := Lib.hid h
    clear h
    go_enter Tryd.func33, Tryd.ntmps33
    go_wp2_with fail
    refine bodyPost_ret (results_ct_row rfl _ _ w.heap.size 24 _ (0, 0) _ rfl (heap_alloc_new _ _) Tryd.underlying24 rfl (by kernel_rfl)) rfl ?_
    exact ⟨(But.refl _ _).alloc _, i, HR.out.alloc _, hi, rfl, .inl rfl⟩
  | succ d ih =>
    intro b i s x w hx hd hs h hi
    have hx0 : (x == 1000) = false := by rw [beq_eq_false_iff_ne]; omega
    have HX1 := Lib.hid (show x + 1 = 1000 - (d : Int) by omega)
    have hxb : -1000 ≤ x ∧ x < 1000 := by omega
    have T1 := Lib.hid fun w h => take_any b i s 40 40 rfl w (by omega) h hi
    have IH := Lib.hid fun b i s x w h1 => ih b i s x w h1 (by omega)
    have HR := Lib.hid h
    have hbl := h.lt
    obtain ⟨R, hR⟩ : ∃ R, nodeGo (d + 1) (s.data.toList.drop i) = R := ⟨_, rfl⟩
    have hlen : (s.data.toList.drop i).length = s.size - i := by rw [List.length_drop, ← Lib.size_eq]
    rw [hR]
    rw [nodeGo] at hR
    have hst0 : ((s.data.toList.drop i)[0]? = some 40) ↔ stands s i 40 = true := by
      unfold stands; rw [List.getElem?_drop, Nat.add_zero, beq_iff_eq]
    clear h ih hx
    by_cases hq : stands s i 40 = true
    · rw [if_pos (hst0.2 hq)] at hR
      have hii := stands_in hq
      have N1 := Lib.hid fun w h => number_any b (i + 1) s 54 w (by omega) h (by omega)
      have hd1 : (s.data.toList.drop i).drop 1 = s.data.toList.drop (i + 1) := by rw [List.drop_drop]
      simp only [hd1] at hR
      have hnb := numGo_bd 3 (s.data.toList.drop (i + 1)) 0
      rw [List.length_drop, ← Lib.size_eq] at hnb
      obtain ⟨V, hV⟩ : ∃ V, (numGo 3 (s.data.toList.drop (i + 1)) 0).1 = V := ⟨_, rfl⟩
      obtain ⟨N, hN⟩ : ∃ N, (numGo 3 (s.data.toList.drop (i + 1)) 0).2 = N := ⟨_, rfl⟩
      rw [hV, hN] at hR N1
      rw [hN] at hnb
      rw [hq, if_pos rfl] at T1
      by_cases hok : numOk (s.data.toList.drop (i + 1)) 54 = false
      · rw [if_pos (.inl hok)] at hR
        have HRN := Lib.hid hR.symm
        clear hR hV hN
        go_enter Tryd.func33, Tryd.ntmps33
        go_wp2_with fail
        refine (T1.out _ (HR.out.alloc _)).mono ?_
        rintro e w1 ⟨rfl, hb1, hR1⟩
        have HN1 := Lib.hid ((rowN_new w zeroT (.slice none 0 0)).but hb1 (by omega))
        have HB1 := Lib.hid (((But.refl b w).alloc _).trans hb1)
        have HR1 := Lib.hid hR1
        have hst1 := HB1.out.size
        clear hb1 hR1
        go_wp2_with fail
        refine (N1.out _ HR1.out).mono ?_
        rw [hok]
        rintro e w2 ⟨rfl, hb2, hR2⟩
        have HB2 := Lib.hid (HB1.out.trans hb2)
        have HN2 := Lib.hid (HN1.out.but hb2 (by omega))
        have HR2 := Lib.hid hR2
        have hst2 := HB2.out.size
        have hnlt := HN2.out.lt
        clear hb2 hR2
        obtain ⟨e0, e1, e2, e3, e4, e5⟩ := HN2.out.cells
        have z := HN2.out.frozen
        go_wp2_with fail
        refine bodyPost_ret (results_ct_row rfl _ _ w.heap.size 24 _ (0, 0) _ rfl (HN2.out.set zeroT (.slice none 0 0)) Tryd.underlying24 rfl (by kernel_rfl)) rfl ?_
        exact nodePost_err HRN.out (by omega) HB2.out hbl HR2.out (by omega)
      have hok : numOk (s.data.toList.drop (i + 1)) 54 = true := by simpa using hok
      by_cases hv1 : V ≤ 1
      · rw [if_pos (.inr hv1)] at hR
        have HRN := Lib.hid hR.symm
        clear hR hV hN
        have v1 : decide ((V : Int) ≤ 1) = true := by simp; omega
        go_enter Tryd.func33, Tryd.ntmps33
        go_wp2_with fail
        refine (T1.out _ (HR.out.alloc _)).mono ?_
        rintro e w1 ⟨rfl, hb1, hR1⟩
        have HN1 := Lib.hid ((rowN_new w zeroT (.slice none 0 0)).but hb1 (by omega))
        have HB1 := Lib.hid (((But.refl b w).alloc _).trans hb1)
        have HR1 := Lib.hid hR1
        have hst1 := HB1.out.size
        clear hb1 hR1
        go_wp2_with fail
        refine (N1.out _ HR1.out).mono ?_
        rw [hok]
        rintro e w2 ⟨rfl, hb2, hR2⟩
        have HB2 := Lib.hid (HB1.out.trans hb2)
        have HN2 := Lib.hid (HN1.out.but hb2 (by omega))
        have HR2 := Lib.hid hR2
        have hst2 := HB2.out.size
        have hnlt := HN2.out.lt
        clear hb2 hR2
        obtain ⟨e0, e1, e2, e3, e4, e5⟩ := HN2.out.cells
        have z := HN2.out.frozen
        go_wp2_with fail
        refine bodyPost_ret (results_ct_row rfl _ _ w.heap.size 24 _ (0, 0) _ rfl (HN2.out.set zeroT (.slice none 0 0)) Tryd.underlying24 rfl (by kernel_rfl)) rfl ?_
        exact nodePost_err HRN.out (by omega) HB2.out hbl HR2.out (by omega)
      rw [if_neg (by rw [hok]; simp; omega)] at hR
      have v1 : decide ((V : Int) ≤ 1) = false := by simp; omega
      simp only [List.drop_drop] at hR
      have hp33 : ((s.data.toList.drop (i + 1 + N))[0]? = some 33) ↔ stands s (i + 1 + N) 33 = true := by
        unfold stands; rw [List.getElem?_drop, Nat.add_zero, beq_iff_eq]
      have T3 := Lib.hid fun w h => take_any b (i + 1 + N) s 33 33 rfl w (by omega) h (by omega)
      by_cases hb33 : stands s (i + 1 + N) 33 = true
      · simp only [hp33, if_pos hb33] at hR
        rw [hb33, if_pos rfl] at T3
        have hlt33 := stands_in hb33
        have HRN := Lib.hid hR
        clear hR hV hN hv1 hp33 hst0 hb33
        go_enter Tryd.func33, Tryd.ntmps33
        go_wp2_with fail
        refine (T1.out _ (HR.out.alloc _)).mono ?_
        rintro e w1 ⟨rfl, hb1, hR1⟩
        have HN1 := Lib.hid ((rowN_new w zeroT (.slice none 0 0)).but hb1 (by omega))
        have HB1 := Lib.hid (((But.refl b w).alloc _).trans hb1)
        have HR1 := Lib.hid hR1
        have hst1 := HB1.out.size
        clear hb1 hR1
        go_wp2_with fail
        refine (N1.out _ HR1.out).mono ?_
        rw [hok]
        rintro e w2 ⟨rfl, hb2, hR2⟩
        have HB2 := Lib.hid (HB1.out.trans hb2)
        have HN2 := Lib.hid (HN1.out.but hb2 (by omega))
        have HR2 := Lib.hid hR2
        have hst2 := HB2.out.size
        have hnlt := HN2.out.lt
        clear hb2 hR2
        have HN3 := Lib.hid (rowN_new w2 (.mk V 0 ⟨#[]⟩ 0 0 []) (.slice none 0 0))
        go_wp2_with fail
        refine (T3.out _ (HR2.out.alloc _)).mono ?_
        rintro e w3 ⟨rfl, hb3, hR3⟩
        have HB3 := Lib.hid ((HB2.out.alloc _).trans hb3)
        have HR3 := Lib.hid hR3
        have HNA := Lib.hid ((HN2.out.alloc _).but hb3 (by omega))
        have HNB := Lib.hid (HN3.out.but hb3 (by omega))
        have hst3 := hb3.size
        obtain ⟨K0, hK0⟩ : ∃ K0, kidsGo (nodeGo d) (s.data.toList.drop (i + 1 + N + 1)).length (s.data.toList.drop (i + 1 + N + 1)) = K0 := ⟨_, rfl⟩
        rw [hK0] at HRN
        have HK0' := Lib.hid hK0
        clear hb3 hR3 hK0
        have e1 := HNB.out.cells.2.1
        have z1 := HNB.out.frozen 1
        go_wp2_with fail
        go_loopw [] (fun wr => ∃ (j : Nat) (ts : List (Tr × Value)) (v : Value) (n : Nat), i + 1 + N + 1 ≤ j ∧ j ≤ s.size ∧ ts.length ≤ j ∧ But b w wr ∧ RD wr b s j ∧ RowN wr w.heap.size zeroT (.slice none 0 0) ∧ RowN wr w2.heap.size (.mk V 1 ⟨#[]⟩ 0 0 []) v ∧ OwnsN wr (w2.heap.size + 1) (w2.heap.size + 1) v ts ∧ s.size - j ≤ n ∧ KInv K0 (nodeGo d) n (s.data.toList.drop j) ts) (fun wr => s.size - rdAt wr b)
        case atStart =>
          refine ⟨i + 1 + N + 1, [], .slice none 0 0, (s.data.toList.drop (i + 1 + N + 1)).length, Nat.le_refl _, by omega, by simp, HB3.out.setOther (by omega) _, (Below.heap_setCell w3 ⟨w2.heap.size, 1, none⟩ _ b (by simp; omega)).trans HR3.out, (Below.heap_setCell w3 ⟨w2.heap.size, 1, none⟩ _ w.heap.size (by simp; omega)).trans HNA.out, HNB.out.set1 1, ⟨⟨by simp, .inl ⟨rfl, rfl⟩⟩, fun x hx => by simp at hx⟩, by rw [List.length_drop, ← Lib.size_eq]; omega, ?_⟩
          unfold KInv
          rw [HK0'.out]
          cases K0 <;> simp
        case round =>
          obtain ⟨j, ts, v, n, hpj, hjs, htl, hbr, hRr, hNr, hNn, hO, hn0, hK⟩ := hrel
          have HBR := Lib.hid hbr
          have HRR := Lib.hid hRr
          have HNR := Lib.hid hNr
          have HNN := Lib.hid hNn
          have HO := Lib.hid hO
          have HKI := Lib.hid hK
          have hnlt2 := hNn.lt
          have hblt := hRr.lt
          have hst5 := hbr.size
          obtain ⟨va, vc, rfl⟩ := hO.row.shapeN
          have T2 := Lib.hid fun w h => take_any b j s 32 32 rfl w (by omega) h hjs
          clear hbr hRr hNr hNn hO hK
          by_cases hb32 : stands s j 32 = true
          · rw [hb32, if_pos rfl] at T2
            have hlt32 := stands_in hb32
            have hl32 : (s.data.toList.drop j)[0]? = some 32 := by
              have := hb32; unfold stands at this; rw [beq_iff_eq] at this
              rw [List.getElem?_drop, Nat.add_zero]; exact this
            have HL32 := Lib.hid hl32
            clear hb32 hl32
            go_wp2_with fail
            refine (T2.out _ HRR.out).mono ?_
            rintro e w5 ⟨rfl, hb5, hR5⟩
            have HB5 := Lib.hid (HBR.out.trans hb5)
            have HR5 := Lib.hid hR5
            have HNR5 := Lib.hid (HNR.out.but hb5 (by omega))
            have HNN5 := Lib.hid (HNN.out.but hb5 (by omega))
            have HO5 := Lib.hid (HO.out.keep (Nat.le_refl _) (fun k hk hB => hb5.block k hk (by omega)))
            have hst6 := hb5.size
            have hnlt5 := HNN5.out.lt
            clear hb5 hR5
            go_wp2_with fail
            refine (IH.out b (j + 1) s (x + 1) _ HX1.out hs HR5.out (by omega)).mono ?_
            intro e w6 hpost
            obtain ⟨hb6, j2, hR6, hj2, hres⟩ := hpost
            have HB6 := Lib.hid (HB5.out.trans hb6)
            have HR6 := Lib.hid hR6
            have HNR6 := Lib.hid (HNR5.out.but hb6 (by omega))
            have HNN6 := Lib.hid (HNN5.out.but hb6 (by omega))
            have HO6 := Lib.hid (HO5.out.keep (Nat.le_refl _) (fun k hk hB => hb6.block k hk (by omega)))
            have hst7 := hb6.size
            have hnlt6 := HNN6.out.lt
            have hdd : (s.data.toList.drop j).drop 1 = s.data.toList.drop (j + 1) := by rw [List.drop_drop]
            clear hb6 hR6
            cases hng : nodeGo d (s.data.toList.drop (j + 1)) with
            | error er =>
              rw [hng] at hres
              obtain ⟨rfl, her⟩ := hres
              have HK0 := Lib.hid (HKI.out.err (by omega) HL32.out (by rw [hdd]; exact hng))
              have HRE := Lib.hid (show R = .error er by rw [← HRN.out, HK0.out])
              have her0 : (er == 0) = false := by rw [beq_eq_false_iff_ne]; omega
              have her1 : (er != 0) = true := by rw [bne_iff_ne]; omega
              have e0 := fun o => (HNR6.out.alloc o).cells.1
              have e1 := fun o => (HNR6.out.alloc o).cells.2.1
              have e2 := fun o => (HNR6.out.alloc o).cells.2.2.1
              have e3 := fun o => (HNR6.out.alloc o).cells.2.2.2.1
              have e4 := fun o => (HNR6.out.alloc o).cells.2.2.2.2.1
              have e5 := fun o => (HNR6.out.alloc o).cells.2.2.2.2.2
              have z := fun o => (HNR6.out.alloc o).frozen
              have hbb6 := HR6.out.lt
              clear hng hdd
              simp only [nodeV, zeroT, Tr.kind, Tr.form, Tr.text, Tr.line, Tr.col]
              go_wp2_with fail
              refine bodyPost_ret (results_ct_row rfl _ _ w.heap.size 24 _ (0, 0) _ rfl ((HNR6.out.alloc _).set zeroT (.slice none 0 0)) Tryd.underlying24 rfl (by kernel_rfl)) rfl ?_
              exact nodePost_err HRE.out her (HB6.out.alloc _) hbl (HR6.out.alloc _) hj2
            | ok tq =>
              obtain ⟨t, q⟩ := tq
              rw [hng] at hres
              obtain ⟨hjj, kv, rfl, hq2, hl2⟩ := hres
              have HKI2 := Lib.hid (HKI.out.next (by omega) HL32.out (by rw [hdd]; exact hng) kv)
              obtain ⟨kx, kc, rfl⟩ := hl2.shape
              have HL2 := Lib.hid hl2
              have HQ2 := Lib.hid hq2
              clear hng hdd hl2 hq2
              have n5 := fun o => (HNN6.out.alloc o).cells.2.2.2.2.2
              obtain ⟨i0, z0, hi0, hz0, hz1, hz2, hz3⟩ := node_info
              have hown0 := HO6.out.row.lt
              have HOW5 := Lib.hid HO5.out.row.lt
              have HOW := Lib.hid hown0
              clear hown0
              unfold nodeV
              go_wp2_with (at_builtin; refine wpList_append_lies _ rfl _ _ 22 rfl (w2.heap.size + 1) 24 i0 z0 6 72 Tryd.underlying22 hi0 hz0 hz1 hz2 hz3 (by decide) _ _ _ rfl ((HO6.out.row.alloc _).alloc _) ⟨w6.heap.size + 1, 0, none⟩ 1 1 ([(t, Value.slice kx t.kids.length kc)].flatMap nodeCells) rfl rfl (new_node _ t _ _ (by simp)) (node_one _ _ _ _) (by omega) (by simp only [maxLen]; omega) (by omega) (by simp; omega) _ rfl ?_; rintro g cap w7 hown hgrow hat hlt; have hN7 := ((HNN6.out.alloc _).alloc _).keep (hgrow.block _ (by simp; omega) (fun e => by have := (HOW.out _ e.symm).1; omega)); have n7 := hN7.cells.2.2.2.2.2; have f7 := hN7.frozen 5; have HN7 := Lib.hid hN7; have HOWN := Lib.hid hown; have HGROW := Lib.hid hgrow; have HAT := Lib.hid hat; clear hN7 hown hgrow hat)
              have HO7 := Lib.hid (OwnsN.more (x := (t, Value.slice kx t.kids.length kc)) ((HO6.out.alloc (Nat.le_refl _) _).alloc (Nat.le_refl _) _) HOWN.out rfl HGROW.out HAT.out rfl (((HL2.out.alloc _).alloc _).mono (fun k _ hk => ⟨by omega, fun e => by have := (HOW5.out k e.symm).2; omega⟩)))
              have HB7 := Lib.hid (((HB6.out.alloc _).alloc _).grown HGROW.out (fun k hk => by have := (HOW.out k hk).1; omega))
              have HR7 := Lib.hid (show RD w7 b s j2 from (HGROW.out.block b (by have := HR6.out.lt; simp; omega) (fun e => by have := (HOW.out _ e.symm).1; omega)).trans ((HR6.out.alloc _).alloc _))
              have HNR7 := Lib.hid (((HNR6.out.alloc _).alloc _).keep (HGROW.out.block _ (by have := HNR6.out.lt; simp; omega) (fun e => by have := (HOW.out _ e.symm).1; omega)))
              go_roundw
              case rel =>
                refine ⟨j2, ts ++ [(t, Value.slice kx t.kids.length kc)], _, n - 1, by omega, by omega, by simp; omega, HB7.out.setOther (by omega) _, (Below.heap_setCell w7 ⟨w2.heap.size, 5, none⟩ _ b (by simp; omega)).trans HR7.out, (Below.heap_setCell w7 ⟨w2.heap.size, 5, none⟩ _ w.heap.size (by simp; omega)).trans HNR7.out, HN7.out.set5 _, HO7.out.keep (Nat.le_refl _) (fun k _ hB => Below.heap_setCell w7 ⟨w2.heap.size, 5, none⟩ _ k (by simp; omega)), by omega, by rw [← HQ2.out]; exact HKI2.out⟩
              case measure =>
                have hr8 : RD (w7.setCell ⟨w2.heap.size, 5, none⟩ (.slice (some ⟨g, 0, none⟩) (ts.length + 1) cap)) b s j2 := (Below.heap_setCell w7 ⟨w2.heap.size, 5, none⟩ _ b (by simp; omega)).trans HR7.out
                rw [hr8.at_, HRR.out.at_]; omega
          · rw [show stands s j 32 = false by simpa using hb32, if_neg (by simp)] at T2
            have hl32 : (s.data.toList.drop j)[0]? ≠ some 32 := by
              rw [List.getElem?_drop, Nat.add_zero]; intro e; apply hb32; unfold stands; rw [beq_iff_eq]; exact e
            have HK0 := Lib.hid (HKI.out.stop hl32)
            have hl41 : ((s.data.toList.drop j)[0]? = some 41) ↔ stands s j 41 = true := by
              unfold stands; rw [List.getElem?_drop, Nat.add_zero, beq_iff_eq]
            have T4 := Lib.hid fun w h => take_any b j s 41 41 rfl w (by omega) h hjs
            clear hb32 hl32
            by_cases hb41 : stands s j 41 = true
            · have HRE := Lib.hid (show R = .ok (.mk V 1 ⟨#[]⟩ 0 0 (ts.map (·.1)), (s.data.toList.drop j).drop 1) by rw [← HRN.out, HK0.out]; dsimp only; rw [if_pos (hl41.2 hb41)])
              rw [hb41, if_pos rfl] at T4
              have hlt41 := stands_in hb41
              clear hb41 hl41
              go_wp2_with fail
              refine (T2.out _ HRR.out).mono ?_
              rintro e w5 ⟨rfl, hb5, hR5⟩
              have HB5 := Lib.hid (HBR.out.trans hb5)
              have HR5 := Lib.hid hR5
              have HNR5 := Lib.hid (HNR.out.but hb5 (by omega))
              have HNN5 := Lib.hid (HNN.out.but hb5 (by omega))
              have HO5 := Lib.hid (HO.out.keep (Nat.le_refl _) (fun k hk hB => hb5.block k hk (by omega)))
              clear hb5 hR5
              go_wp2_with fail
              refine (T4.out _ HR5.out).mono ?_
              rintro e w6 ⟨rfl, hb6, hR6⟩
              have HB6 := Lib.hid (HB5.out.trans hb6)
              have HR6 := Lib.hid hR6
              have HNR6 := Lib.hid (HNR5.out.but hb6 (by omega))
              have hNN6 := HNN5.out.but hb6 (by omega)
              have HO6 := Lib.hid (HO5.out.keep (Nat.le_refl _) (fun k hk hB => hb6.block k hk (by omega)))
              clear hb6 hR6
              obtain ⟨e0, e1, e2, e3, e4, e5⟩ := HNR6.out.cells
              have z := HNR6.out.frozen
              obtain ⟨n0, n1, n2, n3, n4, n5⟩ := hNN6.cells
              simp only [Tr.kind, Tr.form, Tr.text, Tr.line, Tr.col] at n0 n1 n2 n3 n4
              go_wp2_with fail
              refine bodyPost_ret (results_ct_row rfl _ _ w.heap.size 24 _ (0, 0) _ rfl (HNR6.out.set (.mk V 1 ⟨#[]⟩ 0 0 (ts.map (·.1))) (.slice va ts.length vc)) Tryd.underlying24 rfl (by kernel_rfl)) rfl ?_
              exact nodePost_ok HRE.out HB6.out hbl HR6.out (by omega) (by omega) (by rw [List.drop_drop]) ((HO6.out.tree (Nat.le_refl _) V 1 ⟨#[]⟩ 0 0).mono (fun k _ hk => ⟨by omega, by omega⟩))
            · have HRE := Lib.hid (show R = .error 100 by rw [← HRN.out, HK0.out]; dsimp only; rw [if_neg (by rw [hl41]; exact hb41)])
              rw [show stands s j 41 = false by simpa using hb41, if_neg (by simp)] at T4
              clear hb41 hl41
              go_wp2_with fail
              refine (T2.out _ HRR.out).mono ?_
              rintro e w5 ⟨rfl, hb5, hR5⟩
              have HB5 := Lib.hid (HBR.out.trans hb5)
              have HR5 := Lib.hid hR5
              have HNR5 := Lib.hid (HNR.out.but hb5 (by omega))
              clear hb5 hR5
              go_wp2_with fail
              refine (T4.out _ HR5.out).mono ?_
              rintro e w6 ⟨rfl, hb6, hR6⟩
              have HB6 := Lib.hid (HB5.out.trans hb6)
              have HR6 := Lib.hid hR6
              have HNR6 := Lib.hid (HNR5.out.but hb6 (by omega))
              clear hb6 hR6
              obtain ⟨e0, e1, e2, e3, e4, e5⟩ := HNR6.out.cells
              have z := HNR6.out.frozen
              go_wp2_with fail
              refine bodyPost_ret (results_ct_row rfl _ _ w.heap.size 24 _ (0, 0) _ rfl (HNR6.out.set zeroT (.slice none 0 0)) Tryd.underlying24 rfl (by kernel_rfl)) rfl ?_
              exact nodePost_err HRE.out (by omega) HB6.out hbl HR6.out hjs
      · simp only [hp33, if_neg hb33] at hR
        rw [show stands s (i + 1 + N) 33 = false by simpa using hb33, if_neg (by simp)] at T3
        have HRN := Lib.hid hR
        clear hR hV hN hv1 hp33 hst0 hb33
        go_enter Tryd.func33, Tryd.ntmps33
        go_wp2_with fail
        refine (T1.out _ (HR.out.alloc _)).mono ?_
        rintro e w1 ⟨rfl, hb1, hR1⟩
        have HN1 := Lib.hid ((rowN_new w zeroT (.slice none 0 0)).but hb1 (by omega))
        have HB1 := Lib.hid (((But.refl b w).alloc _).trans hb1)
        have HR1 := Lib.hid hR1
        have hst1 := HB1.out.size
        clear hb1 hR1
        go_wp2_with fail
        refine (N1.out _ HR1.out).mono ?_
        rw [hok]
        rintro e w2 ⟨rfl, hb2, hR2⟩
        have HB2 := Lib.hid (HB1.out.trans hb2)
        have HN2 := Lib.hid (HN1.out.but hb2 (by omega))
        have HR2 := Lib.hid hR2
        have hst2 := HB2.out.size
        have hnlt := HN2.out.lt
        clear hb2 hR2
        have HN3 := Lib.hid (rowN_new w2 (.mk V 0 ⟨#[]⟩ 0 0 []) (.slice none 0 0))
        go_wp2_with fail
        refine (T3.out _ (HR2.out.alloc _)).mono ?_
        rintro e w3 ⟨rfl, hb3, hR3⟩
        have HB3 := Lib.hid ((HB2.out.alloc _).trans hb3)
        have HR3 := Lib.hid hR3
        have HNA := Lib.hid ((HN2.out.alloc _).but hb3 (by omega))
        have HNB := Lib.hid (HN3.out.but hb3 (by omega))
        have hst3 := hb3.size
        obtain ⟨K0, hK0⟩ : ∃ K0, kidsGo (nodeGo d) (s.data.toList.drop (i + 1 + N)).length (s.data.toList.drop (i + 1 + N)) = K0 := ⟨_, rfl⟩
        rw [hK0] at HRN
        have HK0' := Lib.hid hK0
        clear hb3 hR3 hK0
        go_wp2_with fail
        go_loopw [] (fun wr => ∃ (j : Nat) (ts : List (Tr × Value)) (v : Value) (n : Nat), i + 1 + N ≤ j ∧ j ≤ s.size ∧ ts.length ≤ j ∧ But b w wr ∧ RD wr b s j ∧ RowN wr w.heap.size zeroT (.slice none 0 0) ∧ RowN wr w2.heap.size (.mk V 0 ⟨#[]⟩ 0 0 []) v ∧ OwnsN wr (w2.heap.size + 1) (w2.heap.size + 1) v ts ∧ s.size - j ≤ n ∧ KInv K0 (nodeGo d) n (s.data.toList.drop j) ts) (fun wr => s.size - rdAt wr b)
        case atStart =>
          refine ⟨i + 1 + N, [], .slice none 0 0, (s.data.toList.drop (i + 1 + N)).length, Nat.le_refl _, by omega, by simp, HB3.out, HR3.out, HNA.out, HNB.out, ⟨⟨by simp, .inl ⟨rfl, rfl⟩⟩, fun x hx => by simp at hx⟩, by rw [List.length_drop, ← Lib.size_eq]; omega, ?_⟩
          unfold KInv
          rw [HK0'.out]
          cases K0 <;> simp
        case round =>
          obtain ⟨j, ts, v, n, hpj, hjs, htl, hbr, hRr, hNr, hNn, hO, hn0, hK⟩ := hrel
          have HBR := Lib.hid hbr
          have HRR := Lib.hid hRr
          have HNR := Lib.hid hNr
          have HNN := Lib.hid hNn
          have HO := Lib.hid hO
          have HKI := Lib.hid hK
          have hnlt2 := hNn.lt
          have hblt := hRr.lt
          have hst5 := hbr.size
          obtain ⟨va, vc, rfl⟩ := hO.row.shapeN
          have T2 := Lib.hid fun w h => take_any b j s 32 32 rfl w (by omega) h hjs
          clear hbr hRr hNr hNn hO hK
          by_cases hb32 : stands s j 32 = true
          · rw [hb32, if_pos rfl] at T2
            have hlt32 := stands_in hb32
            have hl32 : (s.data.toList.drop j)[0]? = some 32 := by
              have := hb32; unfold stands at this; rw [beq_iff_eq] at this
              rw [List.getElem?_drop, Nat.add_zero]; exact this
            have HL32 := Lib.hid hl32
            clear hb32 hl32
            go_wp2_with fail
            refine (T2.out _ HRR.out).mono ?_
            rintro e w5 ⟨rfl, hb5, hR5⟩
            have HB5 := Lib.hid (HBR.out.trans hb5)
            have HR5 := Lib.hid hR5
            have HNR5 := Lib.hid (HNR.out.but hb5 (by omega))
            have HNN5 := Lib.hid (HNN.out.but hb5 (by omega))
            have HO5 := Lib.hid (HO.out.keep (Nat.le_refl _) (fun k hk hB => hb5.block k hk (by omega)))
            have hst6 := hb5.size
            have hnlt5 := HNN5.out.lt
            clear hb5 hR5
            go_wp2_with fail
            refine (IH.out b (j + 1) s (x + 1) _ HX1.out hs HR5.out (by omega)).mono ?_
            intro e w6 hpost
            obtain ⟨hb6, j2, hR6, hj2, hres⟩ := hpost
            have HB6 := Lib.hid (HB5.out.trans hb6)
            have HR6 := Lib.hid hR6
            have HNR6 := Lib.hid (HNR5.out.but hb6 (by omega))
            have HNN6 := Lib.hid (HNN5.out.but hb6 (by omega))
            have HO6 := Lib.hid (HO5.out.keep (Nat.le_refl _) (fun k hk hB => hb6.block k hk (by omega)))
            have hst7 := hb6.size
            have hnlt6 := HNN6.out.lt
            have hdd : (s.data.toList.drop j).drop 1 = s.data.toList.drop (j + 1) := by rw [List.drop_drop]
            clear hb6 hR6
            cases hng : nodeGo d (s.data.toList.drop (j + 1)) with
            | error er =>
              rw [hng] at hres
              obtain ⟨rfl, her⟩ := hres
              have HK0 := Lib.hid (HKI.out.err (by omega) HL32.out (by rw [hdd]; exact hng))
              have HRE := Lib.hid (show R = .error er by rw [← HRN.out, HK0.out])
              have her0 : (er == 0) = false := by rw [beq_eq_false_iff_ne]; omega
              have her1 : (er != 0) = true := by rw [bne_iff_ne]; omega
              have e0 := fun o => (HNR6.out.alloc o).cells.1
              have e1 := fun o => (HNR6.out.alloc o).cells.2.1
              have e2 := fun o => (HNR6.out.alloc o).cells.2.2.1
              have e3 := fun o => (HNR6.out.alloc o).cells.2.2.2.1
              have e4 := fun o => (HNR6.out.alloc o).cells.2.2.2.2.1
              have e5 := fun o => (HNR6.out.alloc o).cells.2.2.2.2.2
              have z := fun o => (HNR6.out.alloc o).frozen
              have hbb6 := HR6.out.lt
              clear hng hdd
              simp only [nodeV, zeroT, Tr.kind, Tr.form, Tr.text, Tr.line, Tr.col]
              go_wp2_with fail
              refine bodyPost_ret (results_ct_row rfl _ _ w.heap.size 24 _ (0, 0) _ rfl ((HNR6.out.alloc _).set zeroT (.slice none 0 0)) Tryd.underlying24 rfl (by kernel_rfl)) rfl ?_
              exact nodePost_err HRE.out her (HB6.out.alloc _) hbl (HR6.out.alloc _) hj2
            | ok tq =>
              obtain ⟨t, q⟩ := tq
              rw [hng] at hres
              obtain ⟨hjj, kv, rfl, hq2, hl2⟩ := hres
              have HKI2 := Lib.hid (HKI.out.next (by omega) HL32.out (by rw [hdd]; exact hng) kv)
              obtain ⟨kx, kc, rfl⟩ := hl2.shape
              have HL2 := Lib.hid hl2
              have HQ2 := Lib.hid hq2
              clear hng hdd hl2 hq2
              have n5 := fun o => (HNN6.out.alloc o).cells.2.2.2.2.2
              obtain ⟨i0, z0, hi0, hz0, hz1, hz2, hz3⟩ := node_info
              have hown0 := HO6.out.row.lt
              have HOW5 := Lib.hid HO5.out.row.lt
              have HOW := Lib.hid hown0
              clear hown0
              unfold nodeV
              go_wp2_with (at_builtin; refine wpList_append_lies _ rfl _ _ 22 rfl (w2.heap.size + 1) 24 i0 z0 6 72 Tryd.underlying22 hi0 hz0 hz1 hz2 hz3 (by decide) _ _ _ rfl ((HO6.out.row.alloc _).alloc _) ⟨w6.heap.size + 1, 0, none⟩ 1 1 ([(t, Value.slice kx t.kids.length kc)].flatMap nodeCells) rfl rfl (new_node _ t _ _ (by simp)) (node_one _ _ _ _) (by omega) (by simp only [maxLen]; omega) (by omega) (by simp; omega) _ rfl ?_; rintro g cap w7 hown hgrow hat hlt; have hN7 := ((HNN6.out.alloc _).alloc _).keep (hgrow.block _ (by simp; omega) (fun e => by have := (HOW.out _ e.symm).1; omega)); have n7 := hN7.cells.2.2.2.2.2; have f7 := hN7.frozen 5; have HN7 := Lib.hid hN7; have HOWN := Lib.hid hown; have HGROW := Lib.hid hgrow; have HAT := Lib.hid hat; clear hN7 hown hgrow hat)
              have HO7 := Lib.hid (OwnsN.more (x := (t, Value.slice kx t.kids.length kc)) ((HO6.out.alloc (Nat.le_refl _) _).alloc (Nat.le_refl _) _) HOWN.out rfl HGROW.out HAT.out rfl (((HL2.out.alloc _).alloc _).mono (fun k _ hk => ⟨by omega, fun e => by have := (HOW5.out k e.symm).2; omega⟩)))
              have HB7 := Lib.hid (((HB6.out.alloc _).alloc _).grown HGROW.out (fun k hk => by have := (HOW.out k hk).1; omega))
              have HR7 := Lib.hid (show RD w7 b s j2 from (HGROW.out.block b (by have := HR6.out.lt; simp; omega) (fun e => by have := (HOW.out _ e.symm).1; omega)).trans ((HR6.out.alloc _).alloc _))
              have HNR7 := Lib.hid (((HNR6.out.alloc _).alloc _).keep (HGROW.out.block _ (by have := HNR6.out.lt; simp; omega) (fun e => by have := (HOW.out _ e.symm).1; omega)))
              go_roundw
              case rel =>
                refine ⟨j2, ts ++ [(t, Value.slice kx t.kids.length kc)], _, n - 1, by omega, by omega, by simp; omega, HB7.out.setOther (by omega) _, (Below.heap_setCell w7 ⟨w2.heap.size, 5, none⟩ _ b (by simp; omega)).trans HR7.out, (Below.heap_setCell w7 ⟨w2.heap.size, 5, none⟩ _ w.heap.size (by simp; omega)).trans HNR7.out, HN7.out.set5 _, HO7.out.keep (Nat.le_refl _) (fun k _ hB => Below.heap_setCell w7 ⟨w2.heap.size, 5, none⟩ _ k (by simp; omega)), by omega, by rw [← HQ2.out]; exact HKI2.out⟩
              case measure =>
                have hr8 : RD (w7.setCell ⟨w2.heap.size, 5, none⟩ (.slice (some ⟨g, 0, none⟩) (ts.length + 1) cap)) b s j2 := (Below.heap_setCell w7 ⟨w2.heap.size, 5, none⟩ _ b (by simp; omega)).trans HR7.out
                rw [hr8.at_, HRR.out.at_]; omega
          · rw [show stands s j 32 = false by simpa using hb32, if_neg (by simp)] at T2
            have hl32 : (s.data.toList.drop j)[0]? ≠ some 32 := by
              rw [List.getElem?_drop, Nat.add_zero]; intro e; apply hb32; unfold stands; rw [beq_iff_eq]; exact e
            have HK0 := Lib.hid (HKI.out.stop hl32)
            have hl41 : ((s.data.toList.drop j)[0]? = some 41) ↔ stands s j 41 = true := by
              unfold stands; rw [List.getElem?_drop, Nat.add_zero, beq_iff_eq]
            have T4 := Lib.hid fun w h => take_any b j s 41 41 rfl w (by omega) h hjs
            clear hb32 hl32
            by_cases hb41 : stands s j 41 = true
            · have HRE := Lib.hid (show R = .ok (.mk V 0 ⟨#[]⟩ 0 0 (ts.map (·.1)), (s.data.toList.drop j).drop 1) by rw [← HRN.out, HK0.out]; dsimp only; rw [if_pos (hl41.2 hb41)])
              rw [hb41, if_pos rfl] at T4
              have hlt41 := stands_in hb41
              clear hb41 hl41
              go_wp2_with fail
              refine (T2.out _ HRR.out).mono ?_
              rintro e w5 ⟨rfl, hb5, hR5⟩
              have HB5 := Lib.hid (HBR.out.trans hb5)
              have HR5 := Lib.hid hR5
              have HNR5 := Lib.hid (HNR.out.but hb5 (by omega))
              have HNN5 := Lib.hid (HNN.out.but hb5 (by omega))
              have HO5 := Lib.hid (HO.out.keep (Nat.le_refl _) (fun k hk hB => hb5.block k hk (by omega)))
              clear hb5 hR5
              go_wp2_with fail
              refine (T4.out _ HR5.out).mono ?_
              rintro e w6 ⟨rfl, hb6, hR6⟩
              have HB6 := Lib.hid (HB5.out.trans hb6)
              have HR6 := Lib.hid hR6
              have HNR6 := Lib.hid (HNR5.out.but hb6 (by omega))
              have hNN6 := HNN5.out.but hb6 (by omega)
              have HO6 := Lib.hid (HO5.out.keep (Nat.le_refl _) (fun k hk hB => hb6.block k hk (by omega)))
              clear hb6 hR6
              obtain ⟨e0, e1, e2, e3, e4, e5⟩ := HNR6.out.cells
              have z := HNR6.out.frozen
              obtain ⟨n0, n1, n2, n3, n4, n5⟩ := hNN6.cells
              simp only [Tr.kind, Tr.form, Tr.text, Tr.line, Tr.col] at n0 n1 n2 n3 n4
              go_wp2_with fail
              refine bodyPost_ret (results_ct_row rfl _ _ w.heap.size 24 _ (0, 0) _ rfl (HNR6.out.set (.mk V 0 ⟨#[]⟩ 0 0 (ts.map (·.1))) (.slice va ts.length vc)) Tryd.underlying24 rfl (by kernel_rfl)) rfl ?_
              exact nodePost_ok HRE.out HB6.out hbl HR6.out (by omega) (by omega) (by rw [List.drop_drop]) ((HO6.out.tree (Nat.le_refl _) V 0 ⟨#[]⟩ 0 0).mono (fun k _ hk => ⟨by omega, by omega⟩))
            · have HRE := Lib.hid (show R = .error 100 by rw [← HRN.out, HK0.out]; dsimp only; rw [if_neg (by rw [hl41]; exact hb41)])
              rw [show stands s j 41 = false by simpa using hb41, if_neg (by simp)] at T4
              clear hb41 hl41
              go_wp2_with fail
              refine (T2.out _ HRR.out).mono ?_
              rintro e w5 ⟨rfl, hb5, hR5⟩
              have HB5 := Lib.hid (HBR.out.trans hb5)
              have HR5 := Lib.hid hR5
              have HNR5 := Lib.hid (HNR.out.but hb5 (by omega))
              clear hb5 hR5
              go_wp2_with fail
              refine (T4.out _ HR5.out).mono ?_
              rintro e w6 ⟨rfl, hb6, hR6⟩
              have HB6 := Lib.hid (HB5.out.trans hb6)
              have HR6 := Lib.hid hR6
              have HNR6 := Lib.hid (HNR5.out.but hb6 (by omega))
              clear hb6 hR6
              obtain ⟨e0, e1, e2, e3, e4, e5⟩ := HNR6.out.cells
              have z := HNR6.out.frozen
              go_wp2_with fail
              refine bodyPost_ret (results_ct_row rfl _ _ w.heap.size 24 _ (0, 0) _ rfl (HNR6.out.set zeroT (.slice none 0 0)) Tryd.underlying24 rfl (by kernel_rfl)) rfl ?_
              exact nodePost_err HRE.out (by omega) HB6.out hbl HR6.out hjs
    · rw [if_neg (by rw [hst0]; exact hq)] at hR
      have hq' : stands s i 40 = false := by simpa using hq
      have N1 := Lib.hid fun w h => number_any b i s 22 w (by omega) h hi
      have hnb := numGo_bd 3 (s.data.toList.drop i) 0
      rw [hlen] at hnb
      by_cases hok : numOk (s.data.toList.drop i) 22 = false
      · rw [if_pos hok] at hR
        have HRN := Lib.hid hR.symm
        clear hR
        go_enter Tryd.func33, Tryd.ntmps33
        go_wp2_with fail
        refine (T1.out _ (HR.out.alloc _)).mono ?_
        rw [hq', if_neg (by simp)]
        rintro e w1 ⟨rfl, hb1, hR1⟩
        have HN1 := Lib.hid ((rowN_new w zeroT (.slice none 0 0)).but hb1 (by omega))
        have HB1 := Lib.hid (((But.refl b w).alloc _).trans hb1)
        have HR1 := Lib.hid hR1
        have hst1 := HB1.out.size
        clear hb1 hR1
        go_wp2_with fail
        refine (N1.out _ HR1.out).mono ?_
        rw [hok]
        rintro e w2 ⟨rfl, hb2, hR2⟩
        have HB2 := Lib.hid (HB1.out.trans hb2)
        have HN2 := Lib.hid (HN1.out.but hb2 (by omega))
        have HR2 := Lib.hid hR2
        clear hb2 hR2
        obtain ⟨e0, e1, e2, e3, e4, e5⟩ := HN2.out.cells
        have z := HN2.out.frozen
        go_wp2_with fail
        refine bodyPost_ret (results_ct_row rfl _ _ w.heap.size 24 _ (0, 0) _ rfl (HN2.out.set zeroT (.slice none 0 0)) Tryd.underlying24 rfl (by kernel_rfl)) rfl ?_
        exact nodePost_err HRN.out (by omega) HB2.out hbl HR2.out (by omega)
      · have hok : numOk (s.data.toList.drop i) 22 = true := by simpa using hok
        rw [if_neg (by rw [hok]; simp)] at hR
        rw [List.drop_drop] at hR
        obtain ⟨V, hV⟩ : ∃ V, (numGo 3 (s.data.toList.drop i) 0).1 = V := ⟨_, rfl⟩
        obtain ⟨N, hN⟩ : ∃ N, (numGo 3 (s.data.toList.drop i) 0).2 = N := ⟨_, rfl⟩
        rw [hV, hN] at hR N1
        rw [hN] at hnb
        have X1 := Lib.hid fun w h => text_any b (i + N) s w (by omega) h (by omega)
        cases htx : textL (s.data.toList.drop (i + N)) with
        | none =>
          rw [htx] at hR X1
          have HRN := Lib.hid hR.symm
          clear hR hV hN htx
          go_enter Tryd.func33, Tryd.ntmps33
          go_wp2_with fail
          refine (T1.out _ (HR.out.alloc _)).mono ?_
          rw [hq', if_neg (by simp)]
          rintro e w1 ⟨rfl, hb1, hR1⟩
          have HN1 := Lib.hid ((rowN_new w zeroT (.slice none 0 0)).but hb1 (by omega))
          have HB1 := Lib.hid (((But.refl b w).alloc _).trans hb1)
          have HR1 := Lib.hid hR1
          have hst1 := HB1.out.size
          clear hb1 hR1
          go_wp2_with fail
          refine (N1.out _ HR1.out).mono ?_
          rw [hok]
          rintro e w2 ⟨rfl, hb2, hR2⟩
          have HB2 := Lib.hid (HB1.out.trans hb2)
          have HN2 := Lib.hid (HN1.out.but hb2 (by omega))
          have HR2 := Lib.hid hR2
          clear hb2 hR2
          go_wp2_with fail
          refine (X1.out _ HR2.out).mono ?_
          rintro e w3 ⟨X, j, rfl, hb3, hR3, hj, _⟩
          have HB3 := Lib.hid (HB2.out.trans hb3)
          have HN3 := Lib.hid (HN2.out.but hb3 (by omega))
          have HR3 := Lib.hid hR3
          clear hb3 hR3
          obtain ⟨e0, e1, e2, e3, e4, e5⟩ := HN3.out.cells
          have z := HN3.out.frozen
          go_wp2_with fail
          refine bodyPost_ret (results_ct_row rfl _ _ w.heap.size 24 _ (0, 0) _ rfl (HN3.out.set zeroT (.slice none 0 0)) Tryd.underlying24 rfl (by kernel_rfl)) rfl ?_
          exact nodePost_err HRN.out (by omega) HB3.out hbl HR3.out (by omega)
        | some tn =>
          obtain ⟨tx, tn⟩ := tn
          rw [htx] at hR X1
          have HRN := Lib.hid hR.symm
          clear hR hV hN htx
          go_enter Tryd.func33, Tryd.ntmps33
          go_wp2_with fail
          refine (T1.out _ (HR.out.alloc _)).mono ?_
          rw [hq', if_neg (by simp)]
          rintro e w1 ⟨rfl, hb1, hR1⟩
          have HN1 := Lib.hid ((rowN_new w zeroT (.slice none 0 0)).but hb1 (by omega))
          have HB1 := Lib.hid (((But.refl b w).alloc _).trans hb1)
          have HR1 := Lib.hid hR1
          have hst1 := HB1.out.size
          clear hb1 hR1
          go_wp2_with fail
          refine (N1.out _ HR1.out).mono ?_
          rw [hok]
          rintro e w2 ⟨rfl, hb2, hR2⟩
          have HB2 := Lib.hid (HB1.out.trans hb2)
          have HN2 := Lib.hid (HN1.out.but hb2 (by omega))
          have HR2 := Lib.hid hR2
          clear hb2 hR2
          go_wp2_with fail
          refine (X1.out _ HR2.out).mono ?_
          rintro e w3 ⟨X, j, rfl, hb3, hR3, hj, hXj⟩
          obtain ⟨hX, hjj⟩ := hXj _ _ rfl
          have HX := Lib.hid hX
          have HB3 := Lib.hid (HB2.out.trans hb3)
          have HN3 := Lib.hid (HN2.out.but hb3 (by omega))
          have HR3 := Lib.hid hR3
          have hjj2 : i + N ≤ j := by omega
          have HJ := Lib.hid hjj
          clear hb3 hR3 hXj hX hjj
          obtain ⟨e0, e1, e2, e3, e4, e5⟩ := HN3.out.cells
          have z := HN3.out.frozen
          go_wp2_with fail
          refine bodyPost_ret (results_ct_row rfl _ _ w.heap.size 24 _ (0, 0) _ rfl (HN3.out.set (.mk 1 V X 0 0 []) (.slice none 0 0)) Tryd.underlying24 rfl (by kernel_rfl)) rfl ?_
          exact nodePost_ok (by rw [HRN.out, ← HX.out, List.drop_drop]) HB3.out hbl HR3.out (by omega) (by omega) (by rw [HJ.out]) (LiesP.leaf ..)
end Go.Proofs.YtjdpbfjfcbjlfaaDoor
