/- DERIVED. PLAIN: words, as lists of bytes. DERIVED. The walks of word's inner functions. DERIVED. The walks of word's inner functions: a row of symbols, the word that begins a text, the qualified one. -/
import Derived.Test.YtikkdkacflkifaaDoorSpan
import Derived.Test.YtikkdkacflkifaaDoorRun
set_option linter.unusedSimpArgs false
set_option linter.unusedVariables false
namespace Go.Proofs.YtikkdkacflkifaaDoor

/-- The reserved words, in order. -/
def wordsL : List (List UInt8) := [[95], [99, 97, 115, 101], [99, 108, 97, 115, 115], [100, 97, 116, 97], [100, 101, 102, 97, 117, 108, 116], [100, 101, 114, 105, 118, 105, 110, 103], [100, 111], [101, 108, 115, 101], [102, 111, 114, 101, 105, 103, 110], [105, 102], [105, 109, 112, 111, 114, 116], [105, 110], [105, 110, 102, 105, 120], [105, 110, 102, 105, 120, 108], [105, 110, 102, 105, 120, 114], [105, 110, 115, 116, 97, 110, 99, 101], [108, 101, 116], [109, 111, 100, 117, 108, 101], [110, 101, 119, 116, 121, 112, 101], [111, 102], [116, 104, 101, 110], [116, 121, 112, 101], [119, 104, 101, 114, 101]]
/-- The reserved operators. -/
def marksL : List (List UInt8) := [[46, 46], [58], [58, 58], [61], [92], [124], [60, 45], [45, 62], [64], [126], [61, 62]]
def resv (l : List UInt8) : Bool := wordsL.contains l
/-- The kind of a row of symbols. -/
def symK (l : List UInt8) : Int := if marksL.contains l then 10 else if l.getD 0 0 = 58 then 6 else 5
/-- May a rune stand within a name? -/
def inName (c : Nat) : Bool := cls c == 2 || cls c == 3 || cls c == 4 || (c : Int) == 39
/-- How many bytes the name has that begins a text. -/
def nameLen (l : List UInt8) : Nat := span inName l
/-- The class of a text's first rune; 0: there is none. -/
def firstC (l : List UInt8) : Int := if l = [] then 0 else cls (dec l).1
/-- The word, not qualified, that begins a text: its kind, and how many bytes it has. -/
def plainW (l : List UInt8) : Int × Nat :=
  if firstC l = 6 then (15, 1)
  else if firstC l = 5 then (symK (l.take (span (isCls 5) l)), span (isCls 5) l)
  else if firstC l = 3 then (2, nameLen l)
  else if firstC l = 2 then ((if resv (l.take (nameLen l)) then 9 else 1), nameLen l)
  else (0, 0)
/-- What a kind becomes behind a great name and a point. -/
def qualK (k : Int) : Int := if k = 1 then 3 else if k = 2 then 4 else if k = 5 then 7 else if k = 6 then 8 else 0

/-- Does a point stand behind so many bytes? -/
def pointAt (l : List UInt8) (n : Nat) : Bool := l.getD n 0 == 46 && decide (n < l.length)
/-- What follows a great name that has so far come to n bytes, of kind k, with a bytes ahead of its last name. -/
def goOn : Nat → List UInt8 → Int → Nat → Nat → Int × Nat × Nat
  | 0, _, k, n, a => (k, n, a)
  | f + 1, l, k, n, a =>
    if (k = 2 ∨ k = 4) ∧ pointAt l n = true ∧ qualK (plainW (l.drop (n + 1))).1 ≠ 0 then
      goOn f l (qualK (plainW (l.drop (n + 1))).1) (n + 1 + (plainW (l.drop (n + 1))).2) (n + 1)
    else (k, n, a)
/-- The word that begins a text: its kind, how many bytes it has, and how many stand ahead of its last name. -/
def scanW (l : List UInt8) : Int × Nat × Nat := goOn l.length l (plainW l).1 (plainW l).2 0

theorem plainW_le (l : List UInt8) : (plainW l).2 ≤ l.length := by
  unfold plainW
  split
  · rename_i h
    have : l ≠ [] := by rintro rfl; simp [firstC] at h
    exact List.length_pos_iff.2 this
  split
  · exact span_le' _ _
  split
  · exact span_le' _ _
  split
  · exact span_le' _ _
  · exact Nat.zero_le _

theorem goOn_end (f : Nat) (l : List UInt8) (k : Int) (n a : Nat) (h : ¬ ((k = 2 ∨ k = 4) ∧ pointAt l n = true ∧ qualK (plainW (l.drop (n + 1))).1 ≠ 0)) : goOn f l k n a = (k, n, a) := by
  cases f with
  | zero => rfl
  | succ f => unfold goOn; rw [if_neg h]
theorem point_lt {l : List UInt8} {n : Nat} (h : pointAt l n = true) : n < l.length := by
  simp only [pointAt, Bool.and_eq_true, decide_eq_true_eq] at h; exact h.2
theorem goOn_more : ∀ (f g : Nat) (l : List UInt8) (k : Int) (n a : Nat), l.length ≤ f + n → l.length ≤ g + n → goOn f l k n a = goOn g l k n a
  | 0, g, l, k, n, a, hf, _ => by
    rw [goOn_end g]; rfl
    rintro ⟨_, h, _⟩
    have := point_lt h
    omega
  | f + 1, 0, l, k, n, a, _, hg => by
    rw [goOn_end (f + 1)]; rfl
    rintro ⟨_, h, _⟩
    have := point_lt h
    omega
  | f + 1, g + 1, l, k, n, a, hf, hg => by
    unfold goOn
    split
    · exact goOn_more f g l _ _ _ (by omega) (by omega)
    · rfl
theorem goOn_step (l : List UInt8) (k : Int) (n a : Nat) (h : (k = 2 ∨ k = 4) ∧ pointAt l n = true ∧ qualK (plainW (l.drop (n + 1))).1 ≠ 0) :
    goOn l.length l k n a = goOn l.length l (qualK (plainW (l.drop (n + 1))).1) (n + 1 + (plainW (l.drop (n + 1))).2) (n + 1) := by
  have hp := point_lt h.2.1
  obtain ⟨m, hm⟩ : ∃ m, l.length = m + 1 := ⟨l.length - 1, by omega⟩
  rw [hm]
  conv => lhs; unfold goOn
  rw [if_pos h]
  exact goOn_more m (m + 1) l _ _ _ (by omega) (by omega)
theorem goOn_le : ∀ (f : Nat) (l : List UInt8) (k : Int) (n a : Nat), n ≤ l.length → (goOn f l k n a).2.1 ≤ l.length
  | 0, _, _, _, _, h => h
  | f + 1, l, k, n, a, h => by
    unfold goOn
    split
    · rename_i hc
      have := point_lt hc.2.1
      have := plainW_le (l.drop (n + 1))
      rw [List.length_drop] at this
      exact goOn_le f l _ _ _ (by omega)
    · exact h
theorem scanW_le (l : List UInt8) : (scanW l).2.1 ≤ l.length := goOn_le _ _ _ _ _ (plainW_le l)

/-- Kind: C2. -/
def kindW (l : List UInt8) : Int := if (scanW l).2.1 = l.length then (scanW l).1 else 0
/-- Scan: C1. -/
def scanAt (l : List UInt8) (i : Int) : Int × Int :=
  if 0 ≤ i ∧ i < l.length then (if (scanW (l.drop i.toNat)).1 = 0 then (0, 0) else ((scanW (l.drop i.toNat)).1, i + (scanW (l.drop i.toNat)).2.1)) else (0, 0)
/-- Split: C3: the bytes of the qualifier and of what stands ahead of the name, and the fault. -/
def splitW (l : List UInt8) : Option (Nat × Nat) :=
  if kindW l = 3 ∨ kindW l = 4 ∨ kindW l = 7 ∨ kindW l = 8 then some ((scanW l).2.2 - 1, (scanW l).2.2)
  else if kindW l = 1 ∨ kindW l = 2 ∨ kindW l = 5 ∨ kindW l = 6 then some (0, 0) else none
/-- Apart: C4. -/
def apartW (a b : List UInt8) : Bool := decide (kindW a ≠ 0) && decide (kindW b ≠ 0) && decide ((scanW (a ++ b)).1 = kindW a ∧ (scanW (a ++ b)).2.1 = a.length)

abbrev qual (k : Int) : Prop := k = 3 ∨ k = 4 ∨ k = 7 ∨ k = 8
theorem plainW_kind (l : List UInt8) : (plainW l).1 = 15 ∨ (plainW l).1 = 10 ∨ (plainW l).1 = 6 ∨ (plainW l).1 = 5 ∨ (plainW l).1 = 2 ∨ (plainW l).1 = 9 ∨ (plainW l).1 = 1 ∨ (plainW l).1 = 0 := by
  unfold plainW
  split
  · exact .inl rfl
  split
  · simp only [symK]
    split
    · simp
    split <;> simp
  split
  · simp
  split
  · simp only
    split <;> simp
  · simp
theorem qualK_qual {k : Int} (h : qualK k ≠ 0) : qual (qualK k) := by
  unfold qualK qual at *
  (repeat' split) <;> simp_all
theorem goOn_ahead : ∀ (f : Nat) (l : List UInt8) (k : Int) (n a : Nat), (qual k → 1 ≤ a ∧ a ≤ n) → (qual (goOn f l k n a).1 → 1 ≤ (goOn f l k n a).2.2 ∧ (goOn f l k n a).2.2 ≤ (goOn f l k n a).2.1)
  | 0, _, _, _, _, h => h
  | f + 1, l, k, n, a, h => by
    unfold goOn
    split
    · exact goOn_ahead f l _ _ _ (fun _ => ⟨by omega, by omega⟩)
    · exact h
theorem scan_ahead (l : List UInt8) (h : qual (scanW l).1) : 1 ≤ (scanW l).2.2 ∧ (scanW l).2.2 ≤ (scanW l).2.1 :=
  goOn_ahead _ _ _ _ _ (fun hq => by have := plainW_kind l; unfold qual at hq; omega) h
end Go.Proofs.YtikkdkacflkifaaDoor

namespace Go.Proofs.YtikkdkacflkifaaDoor
open Go.RowKit

theorem of_list {s : ByteArray} {l : List UInt8} (h : s.data.toList = l) : s = ⟨l.toArray⟩ := by
  obtain ⟨⟨a⟩⟩ := s
  simp only at h
  subst h
  rfl

set_option maxHeartbeats 4000000 in
theorem reserved_any (s : ByteArray) (w : World) :
    Calls Tryd.prog 77 #[.string s] w fun e w' => e = .returned (.bool (resv s.data.toList)) ∧ w = w' := by
  by_cases hn : s.data.toList ∈ wordsL
  · have hr : resv s.data.toList = true := by unfold resv; simpa using hn
    rw [hr]
    clear hr
    simp only [wordsL, List.mem_cons, List.not_mem_nil, or_false] at hn
    rcases hn with h | h | h | h | h | h | h | h | h | h | h | h | h | h | h | h | h | h | h | h | h | h | h
    all_goals
      obtain rfl := of_list h
      clear h
      go_enter Tryd.func77, Tryd.ntmps77
      go_wp2_with fail
      go_ret
      exact ⟨rfl, rfl⟩
  have hr : resv s.data.toList = false := by unfold resv; simpa using hn
  rw [hr]
  clear hr
  have n0 : (s.toList == [95]) = false := by rw [Lib.toList_data]; exact beq_eq_false_iff_ne.2 fun h => hn (by rw [h]; decide)
  have n1 : (s.toList == [99, 97, 115, 101]) = false := by rw [Lib.toList_data]; exact beq_eq_false_iff_ne.2 fun h => hn (by rw [h]; decide)
  have n2 : (s.toList == [99, 108, 97, 115, 115]) = false := by rw [Lib.toList_data]; exact beq_eq_false_iff_ne.2 fun h => hn (by rw [h]; decide)
  have n3 : (s.toList == [100, 97, 116, 97]) = false := by rw [Lib.toList_data]; exact beq_eq_false_iff_ne.2 fun h => hn (by rw [h]; decide)
  have n4 : (s.toList == [100, 101, 102, 97, 117, 108, 116]) = false := by rw [Lib.toList_data]; exact beq_eq_false_iff_ne.2 fun h => hn (by rw [h]; decide)
  have n5 : (s.toList == [100, 101, 114, 105, 118, 105, 110, 103]) = false := by rw [Lib.toList_data]; exact beq_eq_false_iff_ne.2 fun h => hn (by rw [h]; decide)
  have n6 : (s.toList == [100, 111]) = false := by rw [Lib.toList_data]; exact beq_eq_false_iff_ne.2 fun h => hn (by rw [h]; decide)
  have n7 : (s.toList == [101, 108, 115, 101]) = false := by rw [Lib.toList_data]; exact beq_eq_false_iff_ne.2 fun h => hn (by rw [h]; decide)
  have n8 : (s.toList == [102, 111, 114, 101, 105, 103, 110]) = false := by rw [Lib.toList_data]; exact beq_eq_false_iff_ne.2 fun h => hn (by rw [h]; decide)
  have n9 : (s.toList == [105, 102]) = false := by rw [Lib.toList_data]; exact beq_eq_false_iff_ne.2 fun h => hn (by rw [h]; decide)
  have n10 : (s.toList == [105, 109, 112, 111, 114, 116]) = false := by rw [Lib.toList_data]; exact beq_eq_false_iff_ne.2 fun h => hn (by rw [h]; decide)
  have n11 : (s.toList == [105, 110]) = false := by rw [Lib.toList_data]; exact beq_eq_false_iff_ne.2 fun h => hn (by rw [h]; decide)
  have n12 : (s.toList == [105, 110, 102, 105, 120]) = false := by rw [Lib.toList_data]; exact beq_eq_false_iff_ne.2 fun h => hn (by rw [h]; decide)
  have n13 : (s.toList == [105, 110, 102, 105, 120, 108]) = false := by rw [Lib.toList_data]; exact beq_eq_false_iff_ne.2 fun h => hn (by rw [h]; decide)
  have n14 : (s.toList == [105, 110, 102, 105, 120, 114]) = false := by rw [Lib.toList_data]; exact beq_eq_false_iff_ne.2 fun h => hn (by rw [h]; decide)
  have n15 : (s.toList == [105, 110, 115, 116, 97, 110, 99, 101]) = false := by rw [Lib.toList_data]; exact beq_eq_false_iff_ne.2 fun h => hn (by rw [h]; decide)
  have n16 : (s.toList == [108, 101, 116]) = false := by rw [Lib.toList_data]; exact beq_eq_false_iff_ne.2 fun h => hn (by rw [h]; decide)
  have n17 : (s.toList == [109, 111, 100, 117, 108, 101]) = false := by rw [Lib.toList_data]; exact beq_eq_false_iff_ne.2 fun h => hn (by rw [h]; decide)
  have n18 : (s.toList == [110, 101, 119, 116, 121, 112, 101]) = false := by rw [Lib.toList_data]; exact beq_eq_false_iff_ne.2 fun h => hn (by rw [h]; decide)
  have n19 : (s.toList == [111, 102]) = false := by rw [Lib.toList_data]; exact beq_eq_false_iff_ne.2 fun h => hn (by rw [h]; decide)
  have n20 : (s.toList == [116, 104, 101, 110]) = false := by rw [Lib.toList_data]; exact beq_eq_false_iff_ne.2 fun h => hn (by rw [h]; decide)
  have n21 : (s.toList == [116, 121, 112, 101]) = false := by rw [Lib.toList_data]; exact beq_eq_false_iff_ne.2 fun h => hn (by rw [h]; decide)
  have n22 : (s.toList == [119, 104, 101, 114, 101]) = false := by rw [Lib.toList_data]; exact beq_eq_false_iff_ne.2 fun h => hn (by rw [h]; decide)
  clear hn
  go_enter Tryd.func77, Tryd.ntmps77
  go_wp2_with fail
  go_ret
  exact ⟨rfl, rfl⟩

theorem inName_yes {c : Nat} (h : cls c = 2 ∨ cls c = 3 ∨ cls c = 4 ∨ (c : Int) = 39) : inName c = true := by
  unfold inName
  simp only [Bool.or_eq_true, beq_iff_eq]
  omega
theorem inName_no {c : Nat} (h : ¬ (cls c = 2 ∨ cls c = 3 ∨ cls c = 4 ∨ (c : Int) = 39)) : inName c = false := by
  rw [← Bool.not_eq_true]
  unfold inName
  simp only [Bool.or_eq_true, beq_iff_eq]
  omega
set_option maxHeartbeats 2000000 in
theorem within_any (c : Nat) (w : World) :
    Calls Tryd.prog 89 #[.int .i32 c] w fun e w' => e = .returned (.bool (inName c)) ∧ w = w' := by
  obtain ⟨k, hk⟩ : ∃ k, cls c = k := ⟨_, rfl⟩
  have cc := fun w => class_any c w
  rw [hk] at cc
  have CC := Lib.hid cc
  clear cc
  have hy := @inName_yes c
  have hno := @inName_no c
  rw [hk] at hy hno
  clear hk
  by_cases h : k = 2 ∨ k = 3 ∨ k = 4 ∨ (c : Int) = 39
  · rw [hy h]
    clear hy hno
    rcases h with rfl | rfl | rfl | h
    · go_enter Tryd.func89, Tryd.ntmps89
      go_wp2_with (go_at_call 88; refine (CC.out _).mono ?_; rintro e w' ⟨rfl, rfl⟩)
      go_ret
      exact ⟨rfl, rfl⟩
    · go_enter Tryd.func89, Tryd.ntmps89
      go_wp2_with (go_at_call 88; refine (CC.out _).mono ?_; rintro e w' ⟨rfl, rfl⟩)
      go_ret
      exact ⟨rfl, rfl⟩
    · go_enter Tryd.func89, Tryd.ntmps89
      go_wp2_with (go_at_call 88; refine (CC.out _).mono ?_; rintro e w' ⟨rfl, rfl⟩)
      go_ret
      exact ⟨rfl, rfl⟩
    · have hb : ((c : Int) == 39) = true := by simpa using h
      clear h
      go_enter Tryd.func89, Tryd.ntmps89
      go_wp2_with (go_at_call 88; refine (CC.out _).mono ?_; rintro e w' ⟨rfl, rfl⟩)
      all_goals (go_ret; exact ⟨ret_bool (by first | rfl | assumption), rfl⟩)
  · rw [hno h]
    clear hy hno
    have h2 : (k == 2) = false := beq_eq_false_iff_ne.2 (by omega)
    have h3 : (k == 3) = false := beq_eq_false_iff_ne.2 (by omega)
    have h4 : (k == 4) = false := beq_eq_false_iff_ne.2 (by omega)
    have hb : ((c : Int) == 39) = false := beq_eq_false_iff_ne.2 (by omega)
    clear h
    go_enter Tryd.func89, Tryd.ntmps89
    go_wp2_with (go_at_call 88; refine (CC.out _).mono ?_; rintro e w' ⟨rfl, rfl⟩)
    go_ret
    exact ⟨rfl, rfl⟩

set_option maxHeartbeats 1000000 in
theorem name_any (s : ByteArray) (w : World) (hs : s.size ≤ 1152921504606846976) :
    Calls Tryd.prog 76 #[.string s] w fun e w' => e = .returned (.string (s.extract 0 (nameLen s.data.toList))) ∧ Below w.heap.size w w' := by
  obtain ⟨R, hR⟩ : ∃ R : Nat, nameLen s.data.toList = R := ⟨_, rfl⟩
  have hRs : R ≤ s.size := by have := span_le' inName s.data.toList; unfold nameLen at hR; rw [hR, ← Lib.size_eq] at this; exact this
  rw [hR]
  have HR := Lib.hid hR
  clear hR
  go_enter Tryd.func76, Tryd.ntmps76
  go_wp2_with fail
  go_loopw [] (fun wr => ∃ pos : Nat, Iter w s pos wr ∧ Come inName s.data.toList pos) (fun wr => s.size - wr.iterPos w.heap.size)
  case atStart => exact ⟨0, Iter.start _ _, Come.start _ _⟩
  case round =>
    obtain ⟨pos, hI, hC⟩ := hrel
    have HP := Lib.hid (iterPos_at hI)
    by_cases hp : pos < s.size
    · have hpl : pos < s.data.toList.length := by rw [← Lib.size_eq]; exact hp
      have hnx : ∀ ty, (Instr.next (.pointer (some ⟨w.heap.size, 0, none⟩)) true ty).run Tryd.prog wr = _ := fun ty => Lib.run_next_any_at wr w.heap.size s pos ty hI.1 hp
      rw [decode_eq] at hnx
      have hdl := dec_len _ (drop_ne hpl)
      have hI2 := hI.next (pos + (dec (s.data.toList.drop pos)).2)
      by_cases hk : inName (dec (s.data.toList.drop pos)).1 = true
      · have hC2 := hC.next hpl hk
        have hq := Lib.hid hC2.1
        go_wp2_with (go_at_call 89; refine (within_any _ _).mono ?_; rintro e w' ⟨rfl, rfl⟩)
        go_roundw
        case rel => exact ⟨_, hI2, hC2⟩
        case measure =>
          rw [HP.out, iterPos_at hI2]
          have := hq.out
          rw [← Lib.size_eq] at this
          omega
      · have hk : inName (dec (s.data.toList.drop pos)).1 = false := by simpa using hk
        have hE := hC.stop hk
        have : nameLen s.data.toList = pos := hE
        rw [HR.out] at this
        subst this
        go_wp2_with (go_at_call 89; refine (within_any _ _).mono ?_; rintro e w' ⟨rfl, rfl⟩)
        go_ret
        exact ⟨rfl, hI2.2⟩
    · have hpl : ¬ pos < s.data.toList.length := by rw [← Lib.size_eq]; exact hp
      have hnx : ∀ ty, (Instr.next (.pointer (some ⟨w.heap.size, 0, none⟩)) true ty).run Tryd.prog wr = _ := fun ty => Lib.run_next_end_at wr w.heap.size s pos ty hI.1 hp
      have hE : nameLen s.data.toList = pos := hC.end hpl
      have hS := hC.size hpl
      rw [HR.out] at hE
      rw [← Lib.size_eq] at hS
      have HF : Hid (s.extract 0 R = s) := by show _ = _; rw [hE, hS]; exact ByteArray.extract_zero_size
      clear hE hS
      go_wp2_with fail
      go_ret
      exact ⟨ret_str HF.out.symm, hI.2⟩
end Go.Proofs.YtikkdkacflkifaaDoor

namespace Go.Proofs.YtikkdkacflkifaaDoor
open Go.RowKit

theorem hasPrefix_one (l : List UInt8) (c : UInt8) : Lib.hasPrefix l [c] = (l.getD 0 0 == c && decide (0 < l.length)) := by
  cases l with
  | nil => simp [Lib.hasPrefix]
  | cons a t =>
    by_cases h : a = c
    · subst h; simp [Lib.hasPrefix]
    · have e1 : (a == c) = false := beq_eq_false_iff_ne.2 h
      have e2 : (c == a) = false := beq_eq_false_iff_ne.2 fun e => h e.symm
      simp only [Lib.hasPrefix, List.isPrefixOf, List.getD_cons_zero, e1, e2, Bool.false_and]

set_option maxHeartbeats 4000000 in
theorem symbols_any (s : ByteArray) (w : World) :
    Calls Tryd.prog 75 #[.string s] w fun e w' => e = .returned (.int .i64 (symK s.data.toList)) ∧ w = w' := by
  by_cases hn : s.data.toList ∈ marksL
  · have hr : symK s.data.toList = 10 := by unfold symK; rw [if_pos (by simpa using hn)]
    rw [hr]
    clear hr
    simp only [marksL, List.mem_cons, List.not_mem_nil, or_false] at hn
    rcases hn with h | h | h | h | h | h | h | h | h | h | h
    all_goals
      obtain rfl := of_list h
      clear h
      go_enter Tryd.func75, Tryd.ntmps75
      go_wp2_with fail
      go_ret
      exact ⟨rfl, rfl⟩
  have hr : symK s.data.toList = if Lib.hasPrefix s.data.toList [58] = true then 6 else 5 := by
    unfold symK; rw [if_neg (by simpa using hn), hasPrefix_one]
    cases s.data.toList <;> simp
  rw [hr]
  clear hr
  have hc := Tryd.strings_HasPrefix s ⟨#[58]⟩
  generalize hb : Lib.hasPrefix s.data.toList [58] = b at *
  have HC : Hid (∀ w, Calls Tryd.prog 62 #[.string s, .string ⟨#[58]⟩] w fun e w' => e = .returned (.bool b) ∧ w' = w) := by
    exact hc
  clear hc hb
  have n0 : (s.toList == [46, 46]) = false := by rw [Lib.toList_data]; exact beq_eq_false_iff_ne.2 fun h => hn (by rw [h]; decide)
  have n1 : (s.toList == [58]) = false := by rw [Lib.toList_data]; exact beq_eq_false_iff_ne.2 fun h => hn (by rw [h]; decide)
  have n2 : (s.toList == [58, 58]) = false := by rw [Lib.toList_data]; exact beq_eq_false_iff_ne.2 fun h => hn (by rw [h]; decide)
  have n3 : (s.toList == [61]) = false := by rw [Lib.toList_data]; exact beq_eq_false_iff_ne.2 fun h => hn (by rw [h]; decide)
  have n4 : (s.toList == [92]) = false := by rw [Lib.toList_data]; exact beq_eq_false_iff_ne.2 fun h => hn (by rw [h]; decide)
  have n5 : (s.toList == [124]) = false := by rw [Lib.toList_data]; exact beq_eq_false_iff_ne.2 fun h => hn (by rw [h]; decide)
  have n6 : (s.toList == [60, 45]) = false := by rw [Lib.toList_data]; exact beq_eq_false_iff_ne.2 fun h => hn (by rw [h]; decide)
  have n7 : (s.toList == [45, 62]) = false := by rw [Lib.toList_data]; exact beq_eq_false_iff_ne.2 fun h => hn (by rw [h]; decide)
  have n8 : (s.toList == [64]) = false := by rw [Lib.toList_data]; exact beq_eq_false_iff_ne.2 fun h => hn (by rw [h]; decide)
  have n9 : (s.toList == [126]) = false := by rw [Lib.toList_data]; exact beq_eq_false_iff_ne.2 fun h => hn (by rw [h]; decide)
  have n10 : (s.toList == [61, 62]) = false := by rw [Lib.toList_data]; exact beq_eq_false_iff_ne.2 fun h => hn (by rw [h]; decide)
  clear hn
  cases b with
  | true =>
    go_enter Tryd.func75, Tryd.ntmps75
    go_wp2_with (go_at_call 62; refine (HC.out _).mono ?_; rintro e w' ⟨rfl, rfl⟩)
    go_ret
    exact ⟨rfl, rfl⟩
  | false =>
    go_enter Tryd.func75, Tryd.ntmps75
    go_wp2_with (go_at_call 62; refine (HC.out _).mono ?_; rintro e w' ⟨rfl, rfl⟩)
    go_ret
    exact ⟨rfl, rfl⟩

set_option maxHeartbeats 1000000 in
theorem first_any (s : ByteArray) (w : World) (hs : s.size ≤ 1152921504606846976) (hT : Tabs w) :
    Calls Tryd.prog 73 #[.string s] w fun e w' => e = .returned (.int .i64 (firstC s.data.toList)) ∧ Below w.heap.size w w' := by
  have n1 := next_any s 0 w hs hT
  by_cases h0 : s.data.toList = []
  · have hn : nextL s.data.toList 0 = (0, 0) := by rw [h0]; rfl
    have hf : firstC s.data.toList = 0 := by rw [h0]; rfl
    rw [hn] at n1
    rw [hf]
    have N1 := Lib.hid n1
    clear n1 hn hf h0 hT
    go_enter Tryd.func73, Tryd.ntmps73
    go_wp2_with fail
    refine N1.out.mono ?_
    rintro e w1 ⟨rfl, hb⟩
    have HB := Lib.hid hb
    clear hb
    go_wp2_with fail
    go_ret
    exact ⟨rfl, HB.out⟩
  · have hl : 0 < s.data.toList.length := List.length_pos_iff.2 h0
    have hn : nextL s.data.toList 0 = (((dec s.data.toList).1 : Int), ((dec s.data.toList).2 : Int)) := by
      unfold nextL; rw [if_pos ⟨Int.le_refl _, by omega⟩]; rfl
    have hf : firstC s.data.toList = cls (dec s.data.toList).1 := by unfold firstC; rw [if_neg h0]
    have hdl := dec_len _ h0
    rw [hn] at n1
    rw [hf]
    have hb0 : (((dec s.data.toList).2 : Int) == 0) = false := beq_eq_false_iff_ne.2 (by omega)
    have N1 := Lib.hid n1
    clear n1 hn hf h0 hT
    go_enter Tryd.func73, Tryd.ntmps73
    go_wp2_with fail
    refine N1.out.mono ?_
    rintro e w1 ⟨rfl, hb⟩
    have HB := Lib.hid hb
    clear hb
    go_wp2_with (go_at_call 88; refine (class_any _ _).mono ?_; rintro e w' ⟨rfl, rfl⟩)
    go_ret
    exact ⟨rfl, HB.out⟩

set_option maxHeartbeats 1000000 in
theorem qualified_any (k : Int) (w : World) :
    Calls Tryd.prog 63 #[.int .i64 k] w fun e w' => e = .returned (.int .i64 (qualK k)) ∧ w = w' := by
  by_cases h1 : k = 1
  · subst h1
    go_enter Tryd.func63, Tryd.ntmps63
    go_wp2_with fail
    go_ret
    exact ⟨rfl, rfl⟩
  by_cases h2 : k = 2
  · subst h2
    go_enter Tryd.func63, Tryd.ntmps63
    go_wp2_with fail
    go_ret
    exact ⟨rfl, rfl⟩
  by_cases h5 : k = 5
  · subst h5
    go_enter Tryd.func63, Tryd.ntmps63
    go_wp2_with fail
    go_ret
    exact ⟨rfl, rfl⟩
  by_cases h6 : k = 6
  · subst h6
    go_enter Tryd.func63, Tryd.ntmps63
    go_wp2_with fail
    go_ret
    exact ⟨rfl, rfl⟩
  have hq : qualK k = 0 := by unfold qualK; rw [if_neg h1, if_neg h2, if_neg h5, if_neg h6]
  rw [hq]
  have b1 : (k == 1) = false := beq_eq_false_iff_ne.2 h1
  have b2 : (k == 2) = false := beq_eq_false_iff_ne.2 h2
  have b5 : (k == 5) = false := beq_eq_false_iff_ne.2 h5
  have b6 : (k == 6) = false := beq_eq_false_iff_ne.2 h6
  clear hq h1 h2 h5 h6
  go_enter Tryd.func63, Tryd.ntmps63
  go_wp2_with fail
  go_ret
  exact ⟨rfl, rfl⟩
end Go.Proofs.YtikkdkacflkifaaDoor

