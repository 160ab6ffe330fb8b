/- DERIVED. A buffer of bytes that the call owns: what each append does to it, in plain regions and in those that draw their order. -/
import Derived.Test.YtmgnpgbganjgfaaDoorBase
import Derived.Lib.BufSteps
import Derived.Lib.OthersKept
import Derived.Lib.Strings
import Derived.Deep.AppendLies
set_option linter.unusedSimpArgs false
set_option linter.unusedVariables false
namespace Go.Proofs.YtmgnpgbganjgfaaDoor
open Go.RowKit
set_option maxRecDepth 20000

theorem byte_info : ∃ i, Tryd.prog.info? 5 = some i ∧ i.zero = some (.int .u8 0) ∧ i.size = 1 ∧ i.bytes = 1 := by
  have h : (Tryd.prog.info? 5).map (fun i => (i.zero, i.size, i.bytes)) = some (some (.int .u8 0), 1, 1) := by kernel_rfl
  cases e : Tryd.prog.info? 5 with
  | none => rw [e] at h; cases h
  | some i =>
    rw [e] at h
    simp only [Option.map_some, Option.some.injEq, Prod.mk.injEq] at h
    exact ⟨i, rfl, h.1, h.2.1, h.2.2⟩

/-- The buffer v holds l; below B nothing has turned since W0. -/
def Buf (B : Nat) (v : Value) (l : List UInt8) (W0 w : World) : Prop := Lib.OwnBuf B 5 v l.length (Lib.byteCells l) W0 w
/-- All blocks but rows of bytes are as they were. -/
def Oth (w w' : World) : Prop := Lib.OthersKept 5 none w w'
theorem Oth.refl (w : World) : Oth w w := fun _ _ h _ _ => h
theorem Oth.trans {a b c : World} (h : Oth a b) (k : Oth b c) : Oth a c := Lib.OthersKept.trans h k
theorem Oth.alloc {a w : World} (h : Oth a w) (o : Obj) : Oth a (w.alloc o) := Lib.OthersKept.alloc h o
theorem Oth.drewN {a w : World} (h : Oth a w) (n : Nat) : Oth a (w.drewN n) := h
theorem Oth.drew {a w : World} (h : Oth a w) : Oth a w.drew := h
theorem Oth.block {w w' : World} (h : Oth w w') {k : Nat} {cs : Array Value} {t : TypeId} {fz : Nat × Nat} (hk : w.heap[k]? = some (.cells cs t fz)) (ht : t ≠ 5) : w'.heap[k]? = some (.cells cs t fz) :=
  h k _ hk (by simp) (fun c f e => ht (by injection e))
theorem Buf.nil (B : Nat) (W0 w : World) (hb : Below B W0 w) (hB : B ≤ w.heap.size) : Buf B (.slice none 0 0) [] W0 w := ⟨World.ownsRowF_nil _ _ _ _, hb, hB⟩
theorem Buf.below {B : Nat} {v : Value} {l : List UInt8} {W0 w : World} (h : Buf B v l W0 w) : Below B W0 w := h.2.1
theorem Buf.alloc {B : Nat} {v : Value} {l : List UInt8} {W0 w : World} (h : Buf B v l W0 w) (o : Obj) : Buf B v l W0 (w.alloc o) := Lib.OwnBuf.alloc h o
theorem Buf.drewN {B : Nat} {v : Value} {l : List UInt8} {W0 w : World} (h : Buf B v l W0 w) (n : Nat) : Buf B v l W0 (w.drewN n) := Lib.OwnBuf.drewN h n
theorem Buf.drew {B : Nat} {v : Value} {l : List UInt8} {W0 w : World} (h : Buf B v l W0 w) : Buf B v l W0 w.drew := h.drewN 1
theorem Buf.row {B : Nat} {v : Value} {l : List UInt8} {W0 w : World} (h : Buf B v l W0 w) : ∀ g, v.ownBlock = some g → ∃ c fz, w.heap[g]? = some (.cells c 5 fz) := by
  obtain ⟨⟨_, ⟨rfl, h0⟩ | ⟨g, cap, cur, fz, rfl, _, hg, _⟩⟩, _, _⟩ := h
  · intro g h; simp [Value.ownBlock] at h
  · intro k h; simp [Value.ownBlock] at h; subst h; exact ⟨_, _, hg⟩
theorem Buf.oth {B : Nat} {v : Value} {l : List UInt8} {W0 w w' : World} (h : Buf B v l W0 w) (hg : w.grownBy w' v.ownBlock) : Oth w w' :=
  (Lib.OthersKept.refl _ _ w).grown hg h.row
/-- What lies below is as it was: in a later world, of which all but rows of bytes is known. -/
theorem Buf.later {B : Nat} {v : Value} {l : List UInt8} {W0 w w' : World} (h : Buf B v l W0 w) (hb : Below w.heap.size w w') : Buf B v l W0 w' := by
  obtain ⟨⟨e, hr⟩, h1, h2⟩ := h
  refine ⟨⟨e, ?_⟩, h1.trans (hb.mono h2), Nat.le_trans h2 hb.size⟩
  rcases hr with hr | ⟨g, cap, cur, fz, rfl, a, hg, b⟩
  · exact .inl hr
  · exact .inr ⟨g, cap, cur, fz, rfl, a, (hb.block g (Array.getElem?_eq_some_iff.1 hg).1).trans hg, b⟩

/-- A buffer that the call owns, as a text. -/
theorem Buf.text {w W0 : World} {B : Nat} {v : Value} {l : List UInt8} (h : Buf B v l W0 w) :
    (convert 47 9 v).run Tryd.prog w = .ok (.string ⟨l.toArray⟩) w := by
  obtain ⟨⟨_, ⟨rfl, h0⟩ | ⟨g, cap, cur, fz, rfl, _, hg, _, _, _, hcs, htake⟩⟩, _, _⟩ := h
  · have : l = [] := List.eq_nil_of_length_eq_zero h0
    subst this
    rfl
  · refine run_convert_bytes_back (P := Tryd.prog) w _ _ 5 ⟨g, 0, none⟩ cap l Tryd.underlying47 Tryd.underlying5 Tryd.underlying9 (fun j hj => ?_)
    have h1 : w.cell? ⟨g, j, none⟩ = cur[j]? := cell_of_row _ _ _ _ _ _ hg
    have h2 : (cur.toList.take (l.length * 1))[j]? = (Lib.byteCells l)[j]? := by rw [htake]
    rw [List.getElem?_take, if_pos (by omega)] at h2
    have h3 : (⟨g, 0, none⟩ : Addr).add j = ⟨g, j, none⟩ := by simp [Addr.add]; intro h; subst h; rfl
    rw [h3, h1, ← Array.getElem?_toList, h2]
    simp [Lib.byteCells, List.getElem?_eq_getElem hj]
theorem Buf.more {w W0 : World} {B n m : Nat} {v : Value} {l p : List UInt8} {xs : List Value} (h : Lib.OwnBuf B 5 v m (Lib.byteCells l ++ xs) W0 w) (hx : xs = Lib.byteCells p) (hm : m = l.length + n) (hn : n = p.length) :
    Buf B v (l ++ p) W0 w := by
  subst hx hm hn
  unfold Buf
  rw [List.length_append, Lib.byteCells_append]; exact h
theorem bytes_one (p : List UInt8) : ∀ u ∈ Lib.byteCells p, u.oneCell' = true := by
  intro u hu
  simp only [Lib.byteCells, List.mem_map] at hu
  obtain ⟨b, _, rfl⟩ := hu
  rfl
theorem bytes_len (p : List UInt8) : (Lib.byteCells p).length = p.length := by simp [Lib.byteCells]

/-- 'b = append(b, c)' and 'b = append(b, c, d, ..)': the new bytes lie in the block that the statement has just laid. -/
theorem buf_add {ops : Array Oper} {rest : List Oper} {o : Oper} {a : Act} {Q : Exit → Act → World → Prop} (hgd : o.guard = none) (s x : Operand)
    (ho : o.op = .call { callee := .builtin .append, args := #[s, x], argTypes := #[47, 47] })
    (B : Nat) (v : Value) (l p : List UInt8) (hs : a.eval s = v) (W0 w0 : World) (hb : Buf B v l W0 w0) (cs : Array Value) (hcs : cs.toList = Lib.byteCells p) (m : Nat) (hm : m = p.length)
    (H : Nat) (hH : H = w0.heap.size) (hx : a.eval x = .slice (some ⟨H, 0, none⟩) m m) (hlen : l.length + m ≤ 140737488355328)
    (h : ∀ v' w', Buf B v' (l ++ p) W0 w' → Oth w0 w' → wpList Tryd.prog ops Q rest (a.put o.dst v') w') : wpList Tryd.prog ops Q (o :: rest) a (w0.alloc (.cells cs 5)) := by
  subst hm hH
  obtain ⟨i0, hi0, hz0, hz1, hz2⟩ := byte_info
  have hb' := hb.alloc (.cells cs 5)
  refine wpList_append_ownF _ hgd s x 47 ho B 5 i0 (.int .u8 0) 1 1 Tryd.underlying47 hi0 hz0 hz1 hz2 rfl (by decide) v l.length (Lib.byteCells l) hs hb'.1 ⟨w0.heap.size, 0, none⟩ p.length p.length (Lib.byteCells p) hx (by rw [bytes_len, Nat.mul_one]) ?_ (bytes_one p) (by unfold maxLen; omega) (by omega) hb'.2.2 ?_
  · rw [← hcs]; exact World.news_of_block (heap_alloc_new w0 (.cells cs 5 (0, 0)))
  · intro v' w' ho' hg _
    exact h v' w' (Buf.more (hb'.grown ho' hg) rfl rfl rfl) (Oth.trans ((Oth.refl w0).alloc _) (hb'.oth hg))
/-- The same, at a step of a region that draws its order. -/
theorem buf_add_step {ops : Array Oper} {o : Oper} {a : Act} {K : Act → World → Prop} {Q : Exit → Act → World → Prop} {E : Prop} (hgd : o.guard = none) (s x : Operand)
    (ho : o.op = .call { callee := .builtin .append, args := #[s, x], argTypes := #[47, 47] })
    (B : Nat) (v : Value) (l p : List UInt8) (hs : a.eval s = v) (W0 w0 : World) (hb : Buf B v l W0 w0) (cs : Array Value) (hcs : cs.toList = Lib.byteCells p) (m : Nat) (hm : m = p.length)
    (H : Nat) (hH : H = w0.heap.size) (hx : a.eval x = .slice (some ⟨H, 0, none⟩) m m) (hlen : l.length + m ≤ 140737488355328)
    (h : ∀ v' w', Buf B v' (l ++ p) W0 w' → Oth w0 w' → K (a.put o.dst v') w') : if Region.wanted o (yielded ops a.tmps) = true then Oper.wp Tryd.prog o a (w0.alloc (.cells cs 5)) K Q else E := by
  subst hm hH
  obtain ⟨i0, hi0, hz0, hz1, hz2⟩ := byte_info
  have hb' := hb.alloc (.cells cs 5)
  have hw : Region.wanted o (yielded ops a.tmps) = true := by simp [Region.wanted, hgd]
  rw [if_pos hw]
  obtain ⟨v', w', hr, h2, h3, h4⟩ := run_append_ownF (P := Tryd.prog) (w0.alloc (.cells cs 5)) B 47 o.type 5 i0 (.int .u8 0) 1 1 Tryd.underlying47 hi0 hz0 hz1 hz2 rfl (by decide) v l.length (Lib.byteCells l) hb'.1 ⟨w0.heap.size, 0, none⟩ p.length p.length (Lib.byteCells p) (by rw [bytes_len, Nat.mul_one])
    (by rw [← hcs]; exact World.news_of_block (heap_alloc_new w0 (.cells cs 5 (0, 0)))) (bytes_one p) (by unfold maxLen; omega) (by omega) hb'.2.2
  unfold Oper.wp execOp
  simp only [ho, resolve, invoke, builtin, Sem.run_bind, Sem.run_pure, Result.andThen_ok, List.map_toArray, List.map_cons, List.map_nil, hs, hx, hr]
  exact h v' w' (Buf.more (hb'.grown h2 h3) rfl rfl rfl) (Oth.trans ((Oth.refl w0).alloc _) (hb'.oth h3))
/-- 'b = append(b, s...)': a string's bytes. -/
theorem buf_text {ops : Array Oper} {rest : List Oper} {o : Oper} {a : Act} {Q : Exit → Act → World → Prop} (hgd : o.guard = none) (sl x : Operand)
    (ho : o.op = .call { callee := .builtin .append, args := #[sl, x], argTypes := #[47, 9] })
    (B : Nat) (v : Value) (l : List UInt8) (hs : a.eval sl = v) (W0 w : World) (hb : Buf B v l W0 w) (s : ByteArray) (hx : a.eval x = .string s) (hlen : l.length + s.size ≤ 140737488355328)
    (h : ∀ v' w', Buf B v' (l ++ s.data.toList) W0 w' → Oth w w' → wpList Tryd.prog ops Q rest (a.put o.dst v') w') : wpList Tryd.prog ops Q (o :: rest) a w := by
  obtain ⟨i0, hi0, hz0, hz1, hz2⟩ := byte_info
  refine Lib.wpList_append_own_stringF w hgd sl x 47 9 ho B 5 i0 Tryd.underlying47 Tryd.underlying9 hi0 hz0 hz1 hz2 v l.length (Lib.byteCells l) hs hb.1 s hx (by unfold maxLen; omega) hlen hb.2.2 ?_
  intro v' w' ho' hg _
  exact h v' w' (Buf.more (hb.grown ho' hg) (Lib.strCells_eq s) rfl (by rw [Lib.size_eq])) (hb.oth hg)
end Go.Proofs.YtmgnpgbganjgfaaDoor
