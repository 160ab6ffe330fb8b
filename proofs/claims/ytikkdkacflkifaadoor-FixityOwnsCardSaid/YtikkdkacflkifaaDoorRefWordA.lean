/- DERIVED. The walks of the reference's functions on words: lists of texts, the class at a byte, where a name ends. DERIVED. The walks of the reference's functions on words. DERIVED. The walk of the reference's name. -/
import Derived.Test.YtikkdkacflkifaaDoorWord
import Derived.Test.YtikkdkacflkifaaDoorRefRun
set_option linter.unusedSimpArgs false
set_option linter.unusedVariables false
namespace Go.Proofs.YtikkdkacflkifaaDoor
open Go.RowKit

/-- Block b holds these texts, one a cell. -/
def RowIs (w : World) (b : Nat) (ls : List (List UInt8)) : Prop := ∀ i, i < ls.length → w.cell? ⟨b, i, none⟩ = some (.string ⟨(ls.getD i []).toArray⟩)

theorem contains_take (ls : List (List UInt8)) (k : Nat) (h : k < ls.length) (x : List UInt8) : (ls.take (k + 1)).contains x = ((ls.take k).contains x || x == ls.getD k []) := by
  rw [List.take_succ_eq_append_getElem h, List.getD_eq_getElem?_getD, List.getElem?_eq_getElem h, Bool.eq_iff_iff]
  simp only [List.contains_iff_mem, List.mem_append, List.mem_singleton, Bool.or_eq_true, beq_iff_eq, Option.getD_some]
theorem contains_of (ls : List (List UInt8)) (k : Nat) (h : k < ls.length) (x : List UInt8) (hx : x = ls.getD k []) : ls.contains x = true := by
  rw [List.contains_iff_mem, hx, List.getD_eq_getElem?_getD, List.getElem?_eq_getElem h]
  exact List.getElem_mem h

set_option maxHeartbeats 1000000 in
theorem among_any (ls : List (List UInt8)) (b : Nat) (s : ByteArray) (w : World) (hl : ls.length ≤ 1000) (hrow : RowIs w b ls) :
    Calls Tryd.prog 81 #[.slice (some ⟨b, 0, none⟩) ls.length ls.length, .string s] w fun e w' => e = .returned (.bool (ls.contains s.data.toList)) ∧ w = w' := by
  obtain ⟨R, hR⟩ : ∃ R, ls.contains s.data.toList = R := ⟨_, rfl⟩
  rw [hR]
  have HR := Lib.hid hR
  have HW := Lib.hid hrow
  clear hR hrow
  obtain ⟨n, hn⟩ : ∃ n, ls.length = n := ⟨_, rfl⟩
  have HN := Lib.hid hn
  rw [hn] at hl ⊢
  clear hn
  go_enter Tryd.func81, Tryd.ntmps81
  go_wp2_with fail
  go_loop [5] (fun i => ∃ k : Nat, k ≤ n ∧ i = .int .i64 k ∧ Hid ((ls.take k).contains s.data.toList = false)) (fun i => n - (intOf i).toNat)
  case atStart => exact ⟨0, Nat.zero_le _, rfl, by simp [Hid]⟩
  case round =>
    obtain ⟨k, hk, rfl, hC⟩ := hrel
    by_cases hlt : k < n
    · have hlk : k < ls.length := by rw [HN.out]; exact hlt
      have hc := HW.out k hlk
      by_cases he : s.data.toList = ls.getD k []
      · have hE := contains_of ls k hlk _ he
        rw [HR.out] at hE
        subst hE
        have hb : ((⟨(ls.getD k []).toArray⟩ : ByteArray).toList == s.toList) = true := by
          rw [Lib.toList_data, Lib.toList_data, ← he]; simp
        generalize (⟨(ls.getD k []).toArray⟩ : ByteArray) = x at *
        clear he
        go_wp2_with fail
        go_ret
        exact ⟨rfl, rfl⟩
      · have hb : ((⟨(ls.getD k []).toArray⟩ : ByteArray).toList == s.toList) = false := by
          rw [Lib.toList_data, Lib.toList_data, beq_eq_false_iff_ne]; exact fun e => he e.symm
        have hC2 : Hid ((ls.take (k + 1)).contains s.data.toList = false) := by
          show _ = _; rw [contains_take ls k hlk, hC.out, beq_eq_false_iff_ne.2 he]; rfl
        generalize (⟨(ls.getD k []).toArray⟩ : ByteArray) = x at *
        clear he
        go_wp2_with fail
        go_round
        case rel => exact ⟨k + 1, by omega, by go_num, hC2⟩
        case measure => simp [intOf]; omega
    · have hE := hC.out
      rw [List.take_of_length_le (by rw [HN.out]; omega), HR.out] at hE
      subst hE
      go_wp2_with fail
      go_ret
      exact ⟨rfl, rfl⟩

/-- The class at a byte, and how many bytes the rune has. -/
def classAt (l : List UInt8) (i : Int) : Int × Int := if 0 ≤ i ∧ i < l.length then (cls (dec (l.drop i.toNat)).1, ((dec (l.drop i.toNat)).2 : Int)) else (0, 0)
set_option maxHeartbeats 1000000 in
theorem refClassAt_any (s : ByteArray) (i : Int) (w : World) (hs : s.size ≤ 1152921504606846976) :
    Calls Tryd.prog 51 #[.string s, .int .i64 i] w fun e w' => e = .returned (.tuple #[.int .i64 (classAt s.data.toList i).1, .int .i64 (classAt s.data.toList i).2]) ∧ w = w' := by
  have n1 := fun w => refNext_any s i w hs
  by_cases h : 0 ≤ i ∧ i < s.data.toList.length
  · have hn : nextL s.data.toList i = (((dec (s.data.toList.drop i.toNat)).1 : Int), ((dec (s.data.toList.drop i.toNat)).2 : Int)) := by unfold nextL; rw [if_pos h]
    have hc : classAt s.data.toList i = (cls (dec (s.data.toList.drop i.toNat)).1, ((dec (s.data.toList.drop i.toNat)).2 : Int)) := by unfold classAt; rw [if_pos h]
    have hdl := dec_len _ (drop_ne (l := s.data.toList) (pos := i.toNat) (by omega))
    rw [hn] at n1
    rw [hc]
    generalize dec (s.data.toList.drop i.toNat) = d at *
    have hb : ((d.2 : Int) == 0) = false := beq_eq_false_iff_ne.2 (by omega)
    have N1 := Lib.hid n1
    clear n1 hn hc h
    go_enter Tryd.func51, Tryd.ntmps51
    go_wp2_with (first | (go_at_call 65; refine (N1.out _).mono ?_; rintro e w' ⟨rfl, rfl⟩) | (go_at_call 66; refine (refClass_any _ _).mono ?_; rintro e w' ⟨rfl, rfl⟩))
    go_ret2
    exact ⟨rfl, rfl⟩
  · have hn : nextL s.data.toList i = (0, 0) := by unfold nextL; rw [if_neg h]
    have hc : classAt s.data.toList i = (0, 0) := by unfold classAt; rw [if_neg h]
    rw [hn] at n1
    rw [hc]
    have N1 := Lib.hid n1
    clear n1 hn hc h
    go_enter Tryd.func51, Tryd.ntmps51
    go_wp2_with (go_at_call 65; refine (N1.out _).mono ?_; rintro e w' ⟨rfl, rfl⟩)
    go_ret2
    exact ⟨rfl, rfl⟩
end Go.Proofs.YtikkdkacflkifaaDoor

namespace Go.Proofs.YtikkdkacflkifaaDoor
open Go.RowKit

theorem row_new (w : World) (ls : List (List UInt8)) (T : TypeId) : RowIs (w.alloc (.cells (ls.map fun l => Value.string ⟨l.toArray⟩).toArray T)) w.heap.size ls := by
  intro i h
  rw [World.cell?_alloc_new]
  simp [h]

set_option maxHeartbeats 1000000 in
theorem marks_any (w : World) :
    Calls Tryd.prog 90 #[] w fun e w' => e = .returned (.slice (some ⟨w.heap.size, 0, none⟩) marksL.length marksL.length) ∧ RowIs w' w.heap.size marksL ∧ Below w.heap.size w w' := by
  have hr := row_new w marksL 9
  have hb : Below w.heap.size w (w.alloc (.cells (marksL.map fun l => Value.string ⟨l.toArray⟩).toArray 9)) := (Below.refl _ _).alloc (Nat.le_refl _) _
  have HR := Lib.hid hr; have HB := Lib.hid hb
  clear hr hb
  go_enter Tryd.func90, Tryd.ntmps90
  go_wp2_with fail
  go_ret
  exact ⟨rfl, HR.out, HB.out⟩

set_option maxHeartbeats 1000000 in
theorem words_any (w : World) :
    Calls Tryd.prog 82 #[] w fun e w' => e = .returned (.slice (some ⟨w.heap.size, 0, none⟩) wordsL.length wordsL.length) ∧ RowIs w' w.heap.size wordsL ∧ Below w.heap.size w w' := by
  have hr := row_new w wordsL 9
  have hb : Below w.heap.size w (w.alloc (.cells (wordsL.map fun l => Value.string ⟨l.toArray⟩).toArray 9)) := (Below.refl _ _).alloc (Nat.le_refl _) _
  have HR := Lib.hid hr; have HB := Lib.hid hb
  clear hr hb
  go_enter Tryd.func82, Tryd.ntmps82
  go_wp2_with fail
  go_ret
  exact ⟨rfl, HR.out, HB.out⟩

theorem RowIs.below {w w' : World} {b : Nat} {ls : List (List UInt8)} (h : RowIs w b ls) (hb : Below w.heap.size w w') : RowIs w' b ls :=
  fun i hi => by rw [hb.cell (p := ⟨b, i, none⟩) (lt_of_cell (h i hi))]; exact h i hi
theorem RowIs.drewN {w : World} {b : Nat} {ls : List (List UInt8)} (h : RowIs w b ls) (n : Nat) : RowIs (w.drewN n) b ls := h

set_option maxHeartbeats 1000000 in
theorem operator_any (s : ByteArray) (w : World) (h0 : 0 < s.size) :
    Calls Tryd.prog 80 #[.string s] w fun e w' => e = .returned (.int .i64 (symK s.data.toList)) ∧ Below w.heap.size w w' := by
  have hg : (s.data.toList.getD 0 0) = s[0] := by
    rw [List.getD_eq_getElem?_getD, Lib.data_getElem? s 0 h0]; rfl
  have hs : symK s.data.toList = if marksL.contains s.data.toList then 10 else if (s[0].toNat : Int) = 58 then 6 else 5 := by
    unfold symK
    rw [hg]
    have : (s[0] = (58 : UInt8)) ↔ ((s[0].toNat : Int) = 58) := by rw [← UInt8.toNat_inj]; simp; omega
    simp only [this]
  rw [hs]
  have a1 := fun (b : Nat) w hl hrow => among_any marksL b s w hl hrow
  have hl : Hid (marksL.length = 11) := rfl
  have m1 := fun w => marks_any w
  have A1 := Lib.hid a1; have M1 := Lib.hid m1
  clear a1 m1 hs
  generalize hb : marksL.contains s.data.toList = b at *
  clear hb hg
  generalize hn : marksL.length = n at *
  have hn' : n ≤ 1000 := by rw [hl.out]; omega
  clear hn
  cases b with
  | true =>
    rw [if_pos rfl]
    go_enter Tryd.func80, Tryd.ntmps80
    go_wp2_with fail
    refine (M1.out _).mono ?_
    rintro e w1 ⟨rfl, hrow, hb1⟩
    have HB := Lib.hid hb1; have HRow := Lib.hid hrow
    clear hb1 hrow
    go_wp2_with fail
    refine (A1.out _ _ hn' HRow.out).mono ?_
    rintro e w' ⟨rfl, rfl⟩
    go_wp2_with fail
    go_ret
    exact ⟨rfl, HB.out⟩
  | false =>
    rw [if_neg (by simp)]
    by_cases hc : (s[0].toNat : Int) = 58
    · rw [if_pos hc]
      have hcb : ((s[0].toNat : Int) == 58) = true := beq_iff_eq.2 hc
      clear hc
      go_enter Tryd.func80, Tryd.ntmps80
      go_wp2_with fail
      refine (M1.out _).mono ?_
      rintro e w1 ⟨rfl, hrow, hb1⟩
      have HB := Lib.hid hb1; have HRow := Lib.hid hrow
      clear hb1 hrow
      go_wp2_with fail
      refine (A1.out _ _ hn' HRow.out).mono ?_
      rintro e w' ⟨rfl, rfl⟩
      go_wp2_with fail
      go_ret
      exact ⟨rfl, HB.out⟩
    · rw [if_neg hc]
      have hcb : ((s[0].toNat : Int) == 58) = false := beq_eq_false_iff_ne.2 hc
      clear hc
      go_enter Tryd.func80, Tryd.ntmps80
      go_wp2_with fail
      refine (M1.out _).mono ?_
      rintro e w1 ⟨rfl, hrow, hb1⟩
      have HB := Lib.hid hb1; have HRow := Lib.hid hrow
      clear hb1 hrow
      go_wp2_with fail
      refine (A1.out _ _ hn' HRow.out).mono ?_
      rintro e w' ⟨rfl, rfl⟩
      go_wp2_with fail
      go_ret
      exact ⟨rfl, HB.out⟩
end Go.Proofs.YtikkdkacflkifaaDoor

namespace Go.Proofs.YtikkdkacflkifaaDoor
open Go.RowKit

theorem quote_iff (l : List UInt8) : ((dec l).1 : Int) = 39 ↔ ((l.getD 0 0).toNat : Int) = 39 := by
  constructor
  · intro h
    have := (dec_small l (by omega)).1
    omega
  · intro h
    rw [dec_ascii l (by omega)]
    exact h

set_option maxHeartbeats 2000000 in
theorem refName_any (s : ByteArray) (i : Nat) (w : World) (hs : s.size ≤ 1152921504606846976) (hi : i ≤ s.size) :
    Calls Tryd.prog 50 #[.string s, .int .i64 i] w fun e w' => e = .returned (.int .i64 ((i + nameLen (s.data.toList.drop i) : Nat) : Int)) ∧ w = w' := by
  obtain ⟨R, hR⟩ : ∃ R : Nat, nameLen (s.data.toList.drop i) = R := ⟨_, rfl⟩
  rw [hR]
  have HR : Hid (span inName (s.data.toList.drop i) = R) := hR
  clear hR
  have hap : ((i + R : Nat) : Int) = (i : Int) + R := by omega
  rw [hap]
  clear hap
  go_enter Tryd.func50, Tryd.ntmps50
  go_wp2_with fail
  go_loop [1] (fun j => ∃ pos : Nat, j = .int .i64 ((i : Int) + pos) ∧ i + pos ≤ s.size ∧ Hid (Come inName (s.data.toList.drop i) pos)) (fun j => s.size - (intOf j).toNat)
  case atStart => exact ⟨0, by simp, by omega, Come.start _ _⟩
  case round =>
    obtain ⟨pos, rfl, hle, hC⟩ := hrel
    by_cases hp : i + pos < s.size
    · have hpl : pos < (s.data.toList.drop i).length := by rw [List.length_drop, ← Lib.size_eq]; omega
      have hdl := dec_len _ (drop_ne hpl)
      have hdd : (s.data.toList.drop i).drop pos = s.data.toList.drop (i + pos) := List.drop_drop
      have hlen : (s.data.toList.drop (i + pos)).length = s.size - (i + pos) := by rw [List.length_drop, ← Lib.size_eq]
      have hnx : Hid (classAt s.data.toList ((i : Int) + pos) = (cls (dec ((s.data.toList.drop i).drop pos)).1, ((dec ((s.data.toList.drop i).drop pos)).2 : Int))) := by
        show classAt s.data.toList ((i : Int) + pos) = _
        unfold classAt; rw [if_pos ⟨by omega, by rw [← Lib.size_eq]; omega⟩, show ((i : Int) + pos).toNat = i + pos from by omega, hdd]
      have hq := quote_iff ((s.data.toList.drop i).drop pos)
      have hbyte : ((s.data.toList.drop i).drop pos).getD 0 0 = s[i + pos] := by
        rw [hdd, getD_drop, Nat.add_zero, List.getD_eq_getElem?_getD, Lib.data_getElem? s (i + pos) hp]; rfl
      rw [hbyte] at hq
      rw [hdd, hlen] at hdl
      rw [← hdd] at hdl
      clear hlen hdd hbyte
      have hto : ((i : Int) + pos).toNat = i + pos := by omega
      by_cases hk : inName (dec ((s.data.toList.drop i).drop pos)).1 = true
      · have hC2 := Lib.hid (hC.out.next hpl hk)
        have hk' : cls (dec ((s.data.toList.drop i).drop pos)).1 = 2 ∨ cls (dec ((s.data.toList.drop i).drop pos)).1 = 3 ∨ cls (dec ((s.data.toList.drop i).drop pos)).1 = 4 ∨ (s[i + pos].toNat : Int) = 39 := by
          unfold inName at hk
          simp only [Bool.or_eq_true, beq_iff_eq] at hk
          rw [← hq]
          omega
        clear hk hq
        generalize hn : dec ((s.data.toList.drop i).drop pos) = d at *
        have HN := Lib.hid hn
        clear hn
        generalize cls d.1 = k at *
        rcases hk' with rfl | rfl | rfl | h
        case inr.inr.inr =>
          have hb : ((s[i + pos].toNat : Int) != 39) = false := by simpa using h
          clear h
          go_wp2_with (go_at_call 51; refine (refClassAt_any _ _ _ hs).mono ?_; rw [hnx.out]; rintro e w' ⟨rfl, rfl⟩)
          all_goals
            go_round
            case rel => exact ⟨pos + d.2, by go_num, by omega, hC2⟩
            case measure => simp [intOf]; omega
        all_goals
          go_wp2_with (go_at_call 51; refine (refClassAt_any _ _ _ hs).mono ?_; rw [hnx.out]; rintro e w' ⟨rfl, rfl⟩)
          go_round
          case rel => exact ⟨pos + d.2, by go_num, by omega, hC2⟩
          case measure => simp [intOf]; omega
      · have hE := hC.out.stop (by simpa using hk)
        rw [HR.out] at hE
        subst hE
        have hk' : ¬ (cls (dec ((s.data.toList.drop i).drop R)).1 = 2 ∨ cls (dec ((s.data.toList.drop i).drop R)).1 = 3 ∨ cls (dec ((s.data.toList.drop i).drop R)).1 = 4 ∨ (s[i + R].toNat : Int) = 39) := by
          unfold inName at hk
          simp only [Bool.or_eq_true, beq_iff_eq] at hk
          rw [← hq]
          omega
        clear hk hq
        generalize hn : dec ((s.data.toList.drop i).drop R) = d at *
        have HN := Lib.hid hn
        clear hn
        generalize cls d.1 = k at *
        have c2 : (k != 2) = true := bne_iff_ne.2 (by omega)
        have c3 : (k != 3) = true := bne_iff_ne.2 (by omega)
        have c4 : (k != 4) = true := bne_iff_ne.2 (by omega)
        have hb : ((s[i + R].toNat : Int) != 39) = true := bne_iff_ne.2 (by omega)
        clear hk'
        go_wp2_with (go_at_call 51; refine (refClassAt_any _ _ _ hs).mono ?_; rw [hnx.out]; rintro e w' ⟨rfl, rfl⟩)
        go_ret
        exact ⟨rfl, rfl⟩
    · have hpl : ¬ pos < (s.data.toList.drop i).length := by rw [List.length_drop, ← Lib.size_eq]; omega
      have hE := hC.out.end hpl
      rw [HR.out] at hE
      subst hE
      go_wp2_with fail
      go_ret
      exact ⟨rfl, rfl⟩
end Go.Proofs.YtikkdkacflkifaaDoor

