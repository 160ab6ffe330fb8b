/- DERIVED. The walks of Run and Check: glyph's and the reference's. -/
import Derived.Test.YtmgnpgbganjgfaaDoorNext
import Derived.Test.YtmgnpgbganjgfaaDoorSpan
import Derived.Test.YtmgnpgbganjgfaaDoorGlyph
import Derived.Lib.OthersKept
set_option linter.unusedSimpArgs false
set_option linter.unusedVariables false
namespace Go.Proofs.YtmgnpgbganjgfaaDoor
open Go.RowKit

/-- The iterator of a range over a text, laid when the world was w; what lay below is as it was. -/
def Iter (w : World) (s : ByteArray) (pos : Nat) (wr : World) : Prop := wr.heap[w.heap.size]? = some (.stringIter s pos) ∧ Below w.heap.size w wr
theorem Iter.start (w : World) (s : ByteArray) : Iter w s 0 (w.iter s 0) := ⟨World.iter_heap _ _ _, (Below.refl _ _).alloc (Nat.le_refl _) _⟩
theorem Iter.next {w : World} {s : ByteArray} {pos : Nat} {wr : World} (h : Iter w s pos wr) (pos' : Nat) : Iter w s pos' (wr.iterAt w.heap.size s pos') :=
  ⟨Lib.iterAt_heap _ _ _ _ _ h.1, Lib.below_iterAt h.2 (Nat.le_refl _) _ _⟩
theorem Iter.lt {w : World} {s : ByteArray} {pos : Nat} {wr : World} (h : Iter w s pos wr) : w.heap.size < wr.heap.size := (Array.getElem?_eq_some_iff.1 h.1).1
/-- A call that leaves alone what was there keeps the iterator. -/
theorem Iter.keep {w : World} {s : ByteArray} {pos : Nat} {wr w1 : World} (h : Iter w s pos wr) (hb : Below wr.heap.size wr w1) : Iter w s pos w1 :=
  ⟨(hb.block _ h.lt).trans h.1, h.2.trans (hb.mono h.2.size)⟩
theorem iterPos_at {w : World} {s : ByteArray} {pos : Nat} {wr : World} (h : Iter w s pos wr) : wr.iterPos w.heap.size = pos := by
  simp [World.iterPos, h.1]

theorem cut_data (s : ByteArray) (i : Nat) : (s.extract i s.size).data.toList = s.data.toList.drop i := by
  rw [Lib.extract_data, List.take_of_length_le (by rw [List.length_drop, ← Lib.size_eq]; exact Nat.le_refl _)]
theorem cut_size (s : ByteArray) (i : Nat) (h : i ≤ s.size) : (s.extract i s.size).size = s.size - i := by simp

set_option maxHeartbeats 1000000 in
theorem run_any (s : ByteArray) (i k : Int) (w : World) (hs : s.size ≤ 1152921504606846976) :
    Calls Tryd.prog 58 #[.string s, .int .i64 i, .int .i64 k] w fun e w' => e = .returned (.int .i64 (runL s.data.toList i k)) ∧ Below w.heap.size w w' := by
  by_cases h : 0 ≤ i ∧ i ≤ s.size
  · obtain ⟨i, rfl⟩ := Int.eq_ofNat_of_zero_le h.1
    have hi : i ≤ s.size := by omega
    obtain ⟨R, hR⟩ : ∃ R : Nat, span (isCls k) ((s.extract i s.size).data.toList) = R := ⟨_, rfl⟩
    have hF : runL s.data.toList i k = (i + R : Nat) := by
      unfold runL
      rw [if_pos ⟨by omega, by rw [← Lib.size_eq]; omega⟩, ← hR, cut_data, Int.toNat_natCast]; omega
    have hRs : R ≤ s.size - i := by have := span_le' (isCls k) ((s.extract i s.size).data.toList); rw [hR, ← Lib.size_eq, cut_size s i hi] at this; exact this
    rw [hF]
    have HR := Lib.hid hR
    clear hF hR h
    have t0 : decide ((i : Int) < 0) = false := by simp
    have t1 : decide (s.size < i) = false := by simp; omega
    have hsz : Hid ((s.extract i s.size).size = s.size - i) := cut_size s i hi
    have hd : ∀ pos, Utf8.decode (s.extract i s.size) pos = dec ((s.extract i s.size).data.toList.drop pos) := fun pos => decode_eq _ _
    have HD := Lib.hid hd
    clear hd
    go_enter Tryd.func58, Tryd.ntmps58
    go_wp2_with fail
    generalize hc : s.extract i s.size = c at *
    have HC := Lib.hid hc
    clear hc
    go_loopw [] (fun wr => ∃ pos : Nat, Iter w c pos wr ∧ Come (isCls k) c.data.toList pos) (fun wr => c.size - wr.iterPos w.heap.size)
    case atStart => exact ⟨0, Iter.start _ _, Come.start _ _⟩
    case round =>
      obtain ⟨pos, hI, hC⟩ := hrel
      have hp' := iterPos_at hI
      have HP := Lib.hid hp'
      clear hp'
      by_cases hp : pos < c.size
      · have hpl : pos < c.data.toList.length := by rw [← Lib.size_eq]; exact hp
        have hnx : ∀ ty, (Instr.next (.pointer (some ⟨w.heap.size, 0, none⟩)) true ty).run Tryd.prog wr = _ := fun ty => Lib.run_next_any_at wr w.heap.size c pos ty hI.1 hp
        rw [HD.out] at hnx
        have hdl := dec_len _ (drop_ne hpl)
        have hposR : pos ≤ R := by have := hC.2; rw [HR.out] at this; omega
        have hI2 := hI.next (pos + (dec (c.data.toList.drop pos)).2)
        by_cases hk : cls (dec (c.data.toList.drop pos)).1 = k
        · have hC2 := hC.next hpl (by unfold isCls; simpa using hk)
          have hkb : (cls (dec (c.data.toList.drop pos)).1 != k) = false := by simpa using hk
          have hq := Lib.hid hC2.1
          have HK := Lib.hid hk
          clear hk
          go_wp2_with (go_at_call 51; refine (class_any _ _).mono ?_; rintro e w' ⟨rfl, rfl⟩)
          go_roundw
          case rel => exact ⟨_, hI2, hC2⟩
          case measure =>
            rw [HP.out, iterPos_at hI2]
            have := hq.out
            rw [← Lib.size_eq] at this
            omega
        · have hkb : (cls (dec (c.data.toList.drop pos)).1 != k) = true := by simpa using hk
          have hE := hC.stop (by unfold isCls; simpa using hk)
          rw [HR.out] at hE
          subst hE
          go_wp2_with (go_at_call 51; refine (class_any _ _).mono ?_; rintro e w' ⟨rfl, rfl⟩)
          go_ret
          exact ⟨by go_num, hI2.2⟩
      · have hpl : ¬ pos < c.data.toList.length := by rw [← Lib.size_eq]; exact hp
        have hnx : ∀ ty, (Instr.next (.pointer (some ⟨w.heap.size, 0, none⟩)) true ty).run Tryd.prog wr = _ := fun ty => Lib.run_next_end_at wr w.heap.size c pos ty hI.1 hp
        have hE := hC.end hpl
        have hS := hC.size hpl
        rw [HR.out] at hE
        rw [← Lib.size_eq, hsz.out] at hS
        have hfin : ((i + R : Nat) : Int) = s.size := by omega
        have HF := Lib.hid hfin
        clear hfin hE hS
        go_wp2_with fail
        go_ret
        exact ⟨ret_int HF.out.symm, hI.2⟩
  · have hF : runL s.data.toList i k = 0 := by
      unfold runL; rw [if_neg (by rw [← Lib.size_eq]; exact h)]
    rw [hF]
    clear hF
    by_cases h0 : i < 0
    · clear h
      go_enter Tryd.func58, Tryd.ntmps58
      go_wp2_with fail
      go_ret
      exact ⟨rfl, Below.refl _ _⟩
    · have h1 : (s.size : Int) < i := by omega
      clear h
      go_enter Tryd.func58, Tryd.ntmps58
      go_wp2_with fail
      go_ret
      exact ⟨rfl, Below.refl _ _⟩
end Go.Proofs.YtmgnpgbganjgfaaDoor
