/- DERIVED. The walks of read, Scan, whole, Runes. -/
import Derived.Test.YtmgnpgbganjgfaaDoorQuoteY
set_option linter.unusedSimpArgs false
set_option linter.unusedVariables false
namespace Go.Proofs.YtmgnpgbganjgfaaDoor
open Go.RowKit

theorem readP_some (l : List UInt8) (k : Nat) (h : k < l.length) (q : l[k]? = some 34) : readP l k = (14, readT l (k + 1)) := by
  unfold readP; rw [Int.toNat_natCast, if_pos ⟨by omega, by omega, q⟩]
theorem readP_char (l : List UInt8) (k : Nat) (h : k < l.length) (q : l[k]? = some 39) : readP l k = (13, readC l (k + 1)) := by
  unfold readP; rw [Int.toNat_natCast, if_neg (by rw [q]; simp), if_pos ⟨by omega, by omega, q⟩]
theorem read_any (s : ByteArray) (i : Int) (w : World) (hs : s.size ≤ 16777216) (hT : Tabs5 w) :
    Calls Tryd.prog 20 #[.string s, .int .i64 i] w (ReadPost w s (readP s.data.toList i)) := by
  by_cases h1 : 0 ≤ i ∧ i < s.data.toList.length ∧ s.data.toList[i.toNat]? = some 34
  · obtain ⟨k, rfl⟩ := Int.eq_ofNat_of_zero_le h1.1
    rw [Int.toNat_natCast] at h1
    have hk : k < s.size := by rw [Lib.size_eq]; omega
    have hq : s[k] = 34 := by have := h1.2.2; rw [byte_get s k hk] at this; simpa using this
    rw [readP_some _ k (by omega) h1.2.2]
    exact read_lit s k w hs hk hT (.inl hq) 14 _ fun W0 b vo vg w1 hT h => literal_text W0 b s k vo vg w1 hs hk hT hq h
  · by_cases h2 : 0 ≤ i ∧ i < s.data.toList.length ∧ s.data.toList[i.toNat]? = some 39
    · obtain ⟨k, rfl⟩ := Int.eq_ofNat_of_zero_le h2.1
      rw [Int.toNat_natCast] at h2
      have hk : k < s.size := by rw [Lib.size_eq]; omega
      have hq : s[k] = 39 := by have := h2.2.2; rw [byte_get s k hk] at this; simpa using this
      rw [readP_char _ k (by omega) h2.2.2]
      exact read_lit s k w hs hk hT (.inr hq) 13 _ fun W0 b vo vg w1 hT h => literal_char W0 b s k vo vg w1 hs hk hT hq h
    · have hr : readP s.data.toList i = (0, ⟨0, 0, [], []⟩) := by unfold readP; rw [if_neg h1, if_neg h2]
      rw [hr]
      exact read_none s i w hs h1 h2
/-- What Scan gives back. -/
def scanV5 (P : Nat × RT) : Value := .tuple #[.int .i64 (if P.2.e = 0 then (P.1 : Int) else 0), .int .i64 (P.2.till : Int), .int .i64 P.2.e]
set_option maxHeartbeats 1000000 in
theorem quoteScan_any (s : ByteArray) (i : Int) (w : World) (hs : s.size ≤ 16777216) (hT : Tabs5 w) :
    Calls Tryd.prog 10 #[.string s, .int .i64 i] w fun e w' => e = .returned (scanV5 (readP s.data.toList i)) ∧ Below w.heap.size w w' := by
  have r1 := read_any s i w hs hT
  unfold ReadPost at r1
  unfold scanV5
  generalize readP s.data.toList i = P at *
  generalize (if P.2.e = 0 then (P.1 : Int) else 0) = kd at *
  generalize hpe : P.2.e = pe at *
  generalize hpt : P.2.till = pt at *
  have R1 := Lib.hid r1
  clear r1 hT
  go_enter Tryd.func10, Tryd.ntmps10
  go_wp2_with fail
  refine R1.out.mono ?_
  rintro e w2 ⟨rfl, text, out, gaps, vo, vg, hR, _⟩
  have HR := Lib.hid hR
  obtain ⟨_, c1, _, _, _, _⟩ := hR.cells
  clear hR
  go_wp2_with fail
  go_quiet (fail)
  go_wp2_with fail
  go_ret3
  exact ⟨rfl, (HR.out.drew _).2.2.1⟩
/-- What whole gives back. -/
def WholePost (w : World) (s : ByteArray) (e : Ending) (w' : World) : Prop :=
  e = .returned (.tuple #[.pointer (some ⟨w.heap.size + 3, 0, none⟩), .int .i64 (wholeE s.data.toList)]) ∧
    ∃ text out gaps vo vg, Rd w (w.heap.size + 3) s (readP s.data.toList 0).2.till text out gaps vo vg w' ∧ (wholeE s.data.toList = 0 → out = (readP s.data.toList 0).2.out ∧ gaps = (readP s.data.toList 0).2.gaps)
set_option maxHeartbeats 2000000 in
theorem whole_any (s : ByteArray) (w : World) (hs : s.size ≤ 16777216) (hT : Tabs5 w) :
    Calls Tryd.prog 22 #[.string s] w (WholePost w s) := by
  have r1 := read_any s 0 w hs hT
  obtain ⟨E, hE⟩ : ∃ E, wholeE s.data.toList = E := ⟨_, rfl⟩
  have hsz := Lib.size_eq s
  unfold WholePost
  rw [hE]
  unfold wholeE at hE
  unfold ReadPost at r1
  rw [← hsz] at hE
  clear hsz
  generalize readP s.data.toList 0 = P at *
  obtain ⟨kd, T⟩ := P
  simp only at r1 hE ⊢
  by_cases h0 : T.e = 0
  · rw [if_pos h0] at r1
    rw [if_neg (by rw [h0]; simp)] at hE
    rw [h0] at r1
    by_cases hk : kd = 0
    · rw [if_pos (.inl hk)] at hE
      subst hE
      have q1 : ((kd : Int) == 0) = true := beq_iff_eq.2 (by omega)
      have R1 := Lib.hid r1
      clear r1 hT h0 hk
      go_enter Tryd.func22, Tryd.ntmps22
      go_wp2_with fail
      refine R1.out.mono ?_
      rintro e w2 ⟨rfl, text, out, gaps, vo, vg, hR, _⟩
      have HR := Lib.hid hR
      obtain ⟨_, c1, _, _, _, _⟩ := hR.cells
      clear hR
      go_wp2_with fail
      go_ret2
      exact ⟨rfl, _, _, _, _, _, HR.out, fun h => absurd h (by decide)⟩
    · have q1 : ((kd : Int) == 0) = false := beq_eq_false_iff_ne.2 (by omega)
      by_cases hl : T.till = s.size
      · rw [if_neg (fun h => by rcases h with h | h; exact hk h; exact h hl)] at hE
        subst hE
        have q2 : ((T.till : Int) != (s.size : Int)) = false := by rw [bne_eq_false_iff_eq]; omega
        have R1 := Lib.hid r1
        clear r1 hT h0 hk hl
        go_enter Tryd.func22, Tryd.ntmps22
        go_wp2_with fail
        refine R1.out.mono ?_
        rintro e w2 ⟨rfl, text, out, gaps, vo, vg, hR, hO⟩
        have HR := Lib.hid hR
        have HO := Lib.hid hO
        obtain ⟨_, c1, _, _, _, _⟩ := hR.cells
        clear hR hO
        go_wp2_with fail
        go_ret2
        exact ⟨rfl, _, _, _, _, _, HR.out, fun _ => by first | exact HO.out trivial | exact HO.out rfl⟩
      · rw [if_pos (.inr hl)] at hE
        subst hE
        have q2 : ((T.till : Int) != (s.size : Int)) = true := by rw [bne_iff_ne]; omega
        have R1 := Lib.hid r1
        clear r1 hT h0 hk hl
        go_enter Tryd.func22, Tryd.ntmps22
        go_wp2_with fail
        refine R1.out.mono ?_
        rintro e w2 ⟨rfl, text, out, gaps, vo, vg, hR, _⟩
        have HR := Lib.hid hR
        obtain ⟨_, c1, _, _, _, _⟩ := hR.cells
        clear hR
        go_wp2_with fail
        go_ret2
        exact ⟨rfl, _, _, _, _, _, HR.out, fun h => absurd h (by decide)⟩
  · rw [if_neg h0] at r1
    rw [if_pos h0] at hE
    subst hE
    have q1 : (T.e == 0) = false := beq_eq_false_iff_ne.2 h0
    have R1 := Lib.hid r1
    clear r1 hT
    generalize T.e = te at *
    go_enter Tryd.func22, Tryd.ntmps22
    go_wp2_with fail
    refine R1.out.mono ?_
    rintro e w2 ⟨rfl, text, out, gaps, vo, vg, hR, _⟩
    have HR := Lib.hid hR
    obtain ⟨_, c1, _, _, _, _⟩ := hR.cells
    clear hR
    go_wp2_with fail
    go_ret2
    exact ⟨rfl, _, _, _, _, _, HR.out, fun h => absurd h h0⟩
/-- A row of numbers of the call's own. -/
def OwnsI (w : World) (B : Nat) (v : Value) (l : List Int) : Prop := w.ownsRow B 3 1 v l.length (l.map intC)
/-- What Runes gives back. -/
def RunesPost (w : World) (l : List UInt8) (e : Ending) (w' : World) : Prop :=
  Below w.heap.size w w' ∧ ((wholeE l = 0 ∧ ∃ v, e = .returned (.tuple #[v, .int .i64 0]) ∧ OwnsI w' w.heap.size v (readP l 0).2.out) ∨ (wholeE l ≠ 0 ∧ e = .returned (.tuple #[.slice none 0 0, .int .i64 (wholeE l)])))
set_option maxHeartbeats 1000000 in
theorem runes_any (s : ByteArray) (w : World) (hs : s.size ≤ 16777216) (hT : Tabs5 w) :
    Calls Tryd.prog 13 #[.string s] w (RunesPost w s.data.toList) := by
  have r1 := whole_any s w hs hT
  unfold WholePost at r1
  unfold RunesPost
  generalize readP s.data.toList 0 = P at *
  generalize wholeE s.data.toList = E at *
  have R1 := Lib.hid r1
  clear r1 hT
  by_cases h0 : E = 0
  · have q : (E != 0) = false := by rw [bne_eq_false_iff_eq]; exact h0
    have q2 : (E == 0) = true := beq_iff_eq.2 h0
    go_enter Tryd.func13, Tryd.ntmps13
    go_wp2_with fail
    refine R1.out.mono ?_
    rintro e w2 ⟨rfl, text, out, gaps, vo, vg, hR, hO⟩
    have HR := Lib.hid hR
    have HO := Lib.hid hO
    obtain ⟨_, _, _, c3, _, _⟩ := hR.cells
    clear hR hO
    go_wp2_with fail
    go_ret2
    refine ⟨HR.out.2.2.1, .inl ⟨h0, _, rfl, ?_⟩⟩
    rw [← (HO.out h0).1]
    exact HR.out.2.2.2.1
  · have q : (E != 0) = true := by rw [bne_iff_ne]; exact h0
    have q2 : (E == 0) = false := beq_eq_false_iff_ne.2 h0
    go_enter Tryd.func13, Tryd.ntmps13
    go_wp2_with fail
    refine R1.out.mono ?_
    rintro e w2 ⟨rfl, text, out, gaps, vo, vg, hR, hO⟩
    have HR := Lib.hid hR
    clear hR hO
    go_wp2_with fail
    go_ret2
    exact ⟨HR.out.2.2.1, .inr ⟨h0, rfl⟩⟩
end Go.Proofs.YtmgnpgbganjgfaaDoor
