/- DERIVED. The walks of note's nested, row, Scan and Kind. -/
import Derived.Test.YthhlnahehpigeaaDoorNoteP
import Derived.Test.YthhlnahehpigeaaDoorPlaceH
import Derived.WalkMore
set_option linter.unusedSimpArgs false
set_option linter.unusedVariables false
namespace Go.Proofs.YthhlnahehpigeaaDoor
open Go.RowKit

theorem hasPre_two (l : List UInt8) (i : Nat) (a b : UInt8) : Lib.hasPrefix (l.drop i) [a, b] = twoB l i a b := by
  unfold Lib.hasPrefix twoB
  have h0 : l[i]? = (l.drop i)[0]? := by rw [List.getElem?_drop, Nat.add_zero]
  have h1 : l[i + 1]? = (l.drop i)[1]? := by rw [List.getElem?_drop]
  rw [h0, h1]
  generalize l.drop i = t
  cases t with
  | nil => rfl
  | cons x t =>
    cases t with
    | nil => simp [List.isPrefixOf]
    | cons y t =>
      show ((a == x) && ((b == y) && true)) = (decide (some x = some a) && decide (some y = some b))
      rw [Bool.and_true]
      congr 1 <;> (rw [Bool.eq_iff_iff]; simp; exact eq_comm)
theorem preAt (s : ByteArray) (i : Nat) (a b : UInt8) (w : World) (hi : i ≤ s.size) :
    Calls Tryd.prog 23 #[.string (s.extract i s.size), .string ⟨#[a, b]⟩] w fun e w' => e = .returned (.bool (twoB s.data.toList i a b)) ∧ w = w' := by
  refine (Tryd.strings_HasPrefix (s.extract i s.size) ⟨#[a, b]⟩ w).mono ?_
  rintro e w' ⟨he, hw⟩
  refine ⟨?_, hw.symm⟩
  rw [he, cut_data, ← hasPre_two]
def nestV : Option Nat → Int
  | some n => n
  | none => -1
/-- The loop of nested. -/
def NestAt (l : List UInt8) (R : Option Nat) (dv iv : Value) : Prop :=
  (dv = .int .i64 0 ∧ iv = .int .i64 0) ∨ (∃ d i : Nat, dv = .int .i64 d ∧ iv = .int .i64 i ∧ 1 ≤ d ∧ 2 * d ≤ i ∧ i ≤ l.length ∧ nestI l i d = R)
set_option maxRecDepth 20000 in
set_option maxHeartbeats 2000000 in
theorem nested_any (s : ByteArray) (w : World) (hs : s.size ≤ 1152921504606846976) (h2 : twoB s.data.toList 0 123 45 = true) :
    Calls Tryd.prog 24 #[.string s] w fun e w' => e = .returned (.int .i64 (nestV (nestI s.data.toList 2 1))) ∧ w = w' := by
  obtain ⟨R, hR⟩ : ∃ R, nestI s.data.toList 2 1 = R := ⟨_, rfl⟩
  rw [hR]
  have HR := Lib.hid hR
  have H2 := Lib.hid h2
  have hls := Lib.size_eq s
  have h2s := twoB_lt h2
  have hs2 : 2 ≤ s.size := by omega
  have HLS := Lib.hid hls
  clear hR h2 hls h2s
  go_enter Tryd.func24, Tryd.ntmps24
  go_wp2_with fail
  go_step3
  go_wp2_with fail
  go_step3
  go_wp2_with fail
  go_loop [3, 4] (fun dv iv => NestAt s.data.toList R dv iv) (fun _ iv => s.size + 2 - (intOf iv).toNat)
  case atStart => exact .inl ⟨rfl, rfl⟩
  case round =>
    rcases hrel with ⟨rfl, rfl⟩ | ⟨d, i, rfl, rfl, hd, hdi, hi, hN⟩
    · have c1 := fun w => preAt s 0 123 45 w (by omega)
      rw [H2.out, show s.extract 0 s.size = s from by simp] at c1
      have C1 := Lib.hid c1
      have t1 : decide (0 < s.size) = true := by simp; omega
      clear c1
      go_wp2_with fail
      refine (C1.out _).mono ?_
      rintro e w1 ⟨rfl, rfl⟩
      go_wp2_with fail
      go_round
      case rel => exact .inr ⟨1, 2, rfl, rfl, by omega, by omega, by rw [← HLS.out]; exact hs2, HR.out⟩
      case measure => simp [intOf] <;> omega
    · rw [← HLS.out] at hi
      have HN := Lib.hid hN
      clear hN
      by_cases hin : i < s.size
      · have t1 : decide (i < s.size) = true := by simp; omega
        have b1 : (i : Int) ≤ s.size := by omega
        have hil : i < s.data.toList.length := by rw [← HLS.out]; exact hin
        have c1 := fun w => preAt s i 123 45 w (by omega)
        have c2 := fun w => preAt s i 45 125 w (by omega)
        cases h1 : twoB s.data.toList i 123 45 with
        | true =>
          rw [h1] at c1
          have C1 := Lib.hid c1
          have hlt := twoB_lt h1
          have HN2 := Lib.hid (show nestI s.data.toList (i + 2) (d + 1) = R by rw [← HN.out, nestI_in _ _ _ h1])
          have HLT := Lib.hid hlt
          clear c1 c2 h1 hlt hil
          go_wp2_with fail
          refine (C1.out _).mono ?_
          rintro e w1 ⟨rfl, rfl⟩
          go_wp2_with fail
          go_round
          case rel => exact .inr ⟨d + 1, i + 2, by go_num, by go_num, by omega, by omega, HLT.out, HN2.out⟩
          case measure => simp [intOf] <;> omega
        | false =>
          rw [h1] at c1
          have C1 := Lib.hid c1
          cases h2 : twoB s.data.toList i 45 125 with
          | true =>
            rw [h2] at c2
            have C2 := Lib.hid c2
            have hlt := twoB_lt h2
            have HLT := Lib.hid hlt
            have hN2 := HN.out
            rw [nestI_out _ _ _ h1 h2] at hN2
            by_cases hd1 : d = 1
            · subst hd1
              rw [if_pos (Nat.le_refl _)] at hN2
              have HN2 := Lib.hid hN2
              clear c1 c2 h1 h2 hlt hil hN2
              go_wp2_with fail
              refine (C1.out _).mono ?_
              rintro e w1 ⟨rfl, rfl⟩
              go_wp2_with fail
              refine (C2.out _).mono ?_
              rintro e w1 ⟨rfl, rfl⟩
              go_wp2_with fail
              try rw [Exit.noGoto_ret]
              go_ret
              exact ⟨by rw [← HN2.out]; exact ret_int (by show (i : Int) + 2 = ((i + 2 : Nat) : Int); omega), rfl⟩
            · rw [if_neg (by omega)] at hN2
              have HN2 := Lib.hid hN2
              have t3 : ((d : Int) - 1 == 0) = false := by simp; omega
              clear c1 c2 h1 h2 hlt hil hN2
              go_wp2_with fail
              refine (C1.out _).mono ?_
              rintro e w1 ⟨rfl, rfl⟩
              go_wp2_with fail
              refine (C2.out _).mono ?_
              rintro e w1 ⟨rfl, rfl⟩
              go_wp2_with fail
              go_round
              case rel => exact .inr ⟨d - 1, i + 2, congrArg (Value.int .i64) (by omega), by go_num, by omega, by omega, HLT.out, HN2.out⟩
              case measure => simp [intOf] <;> omega
          | false =>
            rw [h2] at c2
            have C2 := Lib.hid c2
            have HN2 := Lib.hid (show nestI s.data.toList (i + 1) d = R by rw [← HN.out, nestI_on _ _ _ hil h1 h2])
            clear c1 c2 h1 h2
            go_wp2_with fail
            refine (C1.out _).mono ?_
            rintro e w1 ⟨rfl, rfl⟩
            go_wp2_with fail
            refine (C2.out _).mono ?_
            rintro e w1 ⟨rfl, rfl⟩
            go_wp2_with fail
            go_round
            case rel => exact .inr ⟨d, i + 1, rfl, by go_num, by omega, by omega, by omega, HN2.out⟩
            case measure => simp [intOf] <;> omega
      · have t1 : decide (i < s.size) = false := by simp; omega
        have HN2 := Lib.hid (show R = none by rw [← HN.out, nestI_end _ _ _ (by rw [← HLS.out]; omega)])
        have t2 : decide (0 < d) = true := by simp; omega
        go_wp2_with fail
        try rw [Exit.noGoto_ret]
        go_ret
        exact ⟨by rw [HN2.out]; rfl, rfl⟩
theorem dropW_all (p : UInt8 → Bool) (l : List UInt8) : l.dropWhile p = [] ↔ l.all p = true := by
  induction l with
  | nil => simp
  | cons a t ih =>
    rw [List.dropWhile_cons, List.all_cons]
    cases h : p a
    · simp
    · simpa using ih
theorem trimB_nil (l : List UInt8) (c : UInt8) : Lib.trimB l c = [] ↔ l.all (· == c) = true := by
  unfold Lib.trimB Lib.trimLeftB Lib.trimRightB
  rw [dropW_all]
  constructor
  · intro h
    rw [List.all_reverse] at h
    cases hd : l.reverse.dropWhile (· == c) with
    | nil =>
      have := (dropW_all _ _).1 hd
      rwa [List.all_reverse] at this
    | cons a t =>
      rw [hd, List.all_cons] at h
      have h1 : (a == c) = true := by
        cases hq : (a == c)
        · rw [hq] at h; simp at h
        · rfl
      exfalso
      have key : ∀ m : List UInt8, ∀ a t, m.dropWhile (· == c) = a :: t → (a == c) = false := by
        intro m
        induction m with
        | nil => intro a t h; cases h
        | cons b m ih =>
          intro a t h
          rw [List.dropWhile_cons] at h
          split at h
          · exact ih a t h
          · next hn => injection h with h _; subst h; simpa using hn
      rw [key _ _ _ hd] at h1; cases h1
  · intro h
    have : l.reverse.dropWhile (· == c) = [] := (dropW_all _ _).2 (by rw [List.all_reverse]; exact h)
    rw [this]; rfl
theorem runL_nat (l : List UInt8) : ∃ n : Nat, runL l 0 5 = n ∧ n ≤ l.length := by
  refine ⟨span (isCls 5) l, ?_, span_le' _ _⟩
  unfold runL
  rw [if_pos ⟨by omega, by omega⟩]
  simp
set_option maxRecDepth 20000 in
set_option maxHeartbeats 2000000 in
theorem row_any (s : ByteArray) (w : World) (hs : s.size ≤ 8796093022206) :
    Calls Tryd.prog 25 #[.string s] w fun e w' => e = .returned (.int .i64 (rowN s.data.toList : Nat)) ∧ Below w.heap.size w w' := by
  obtain ⟨n, hn, hnl⟩ := runL_nat s.data.toList
  have R1 := run_any s 0 5 w (by omega)
  rw [hn] at R1
  rw [← Lib.size_eq] at hnl
  obtain ⟨R, hR⟩ : ∃ R, rowN s.data.toList = R := ⟨_, rfl⟩
  rw [hR]
  unfold rowN at hR
  rw [hn, Int.toNat_natCast] at hR
  have R1 := Lib.hid R1
  by_cases h2 : 2 ≤ n
  · have t1 : decide ((n : Int) < 2) = false := by simp; omega
    have hcs : (s.extract 0 n).size = n := by simp only [ByteArray.size_extract]; omega
    have T1 := fun w => Tryd.strings_Trim_one (s.extract 0 n) 45 (by decide) w (by omega)
    have hcd : (s.extract 0 n).data.toList = s.data.toList.take n := by simp [Lib.extract_eq]
    rw [hcd] at T1
    have htb := trimB_nil (s.data.toList.take n) 45
    generalize Lib.trimB (s.data.toList.take n) 45 = x at *
    have hxl : (⟨x.toArray⟩ : ByteArray).toList = x := by rw [Lib.toList_data]
    have T1 := Lib.hid T1
    by_cases hx : x = []
    · have ha := htb.1 hx
      rw [if_pos ⟨h2, ha⟩] at hR
      have L1 := fun w => lines_any (s.extract n s.size) w (by rw [cut_size s n hnl]; omega)
      rw [cut_data] at L1
      obtain ⟨r, hr⟩ := first_line (s.data.toList.drop n)
      generalize linesL [] (s.data.toList.drop n) = ls at *
      have hf : (ls.getD 0 []).length = firstN (s.data.toList.drop n) := by rw [hr]; rfl
      have hl0 : 0 < ls.length := by rw [hr]; simp
      have hfs : (⟨(ls.getD 0 []).toArray⟩ : ByteArray).size = firstN (s.data.toList.drop n) := by simp only [ByteArray.size, List.size_toArray]; exact hf
      have hfl := firstN_le (s.data.toList.drop n)
      rw [List.length_drop, ← Lib.size_eq] at hfl
      have L1 := Lib.hid L1
      have q1 : ((⟨x.toArray⟩ : ByteArray).toList == []) = true := by rw [hxl, hx]; rfl
      have q2 : (⟨x.toArray⟩ : ByteArray).toList.isEmpty = true := by rw [hxl, hx]; rfl
      have q3 : (⟨x.toArray⟩ : ByteArray).toList = [] := by rw [hxl, hx]
      have HR := Lib.hid hR
      obtain ⟨y, hy⟩ : ∃ y, (⟨(ls.getD 0 []).toArray⟩ : ByteArray) = y := ⟨_, rfl⟩
      rw [hy] at hfs
      have HY := Lib.hid hy
      have HFS := Lib.hid hfs
      have hfs2 : y.size ≤ s.size := by omega
      clear hy hfs
      clear hR hn htb hx hxl ha hr hf hcs hcd
      generalize (⟨x.toArray⟩ : ByteArray) = z at *
      go_enter Tryd.func25, Tryd.ntmps25
      go_wp2_with fail
      refine R1.out.mono ?_
      rintro e w1 ⟨rfl, hb1⟩
      have HB1 := Lib.hid hb1
      clear hb1
      go_wp2_with fail
      refine (T1.out _).mono ?_
      rintro e w2 ⟨rfl, hw2⟩
      have HB2 : Hid (Below w.heap.size w w2) := Lib.hid (by
        rcases hw2 with rfl | rfl
        · exact HB1.out
        · exact below_drewN HB1.out 1)
      clear hw2
      go_wp2_with fail
      refine (L1.out _).mono ?_
      rintro e w3 ⟨v, rfl, hO, hb3⟩
      obtain ⟨g, cap, rfl, _, hc⟩ := hO.rows hl0
      have hc0 := hc 0 hl0
      rw [HY.out] at hc0
      have HB3 := Lib.hid (Below.then HB2.out hb3)
      clear hO hc hb3
      have q4 : (0 : Int) < ls.length := by omega
      go_wp2_with fail
      go_ret
      exact ⟨by rw [← HR.out, ← HFS.out]; exact ret_int (by omega), HB3.out⟩
    · have ha : ¬ (2 ≤ n ∧ (s.data.toList.take n).all (· == 45) = true) := fun h => hx (htb.2 h.2)
      rw [if_neg ha] at hR
      have q1 : ((⟨x.toArray⟩ : ByteArray).toList == []) = false := by rw [hxl]; simpa using hx
      have q2 : (⟨x.toArray⟩ : ByteArray).toList.isEmpty = false := by rw [hxl]; simpa using hx
      have q3 : ¬ (⟨x.toArray⟩ : ByteArray).toList = [] := by rw [hxl]; exact hx
      have HR := Lib.hid hR
      clear hR hn htb hx hxl ha hcs hcd
      generalize (⟨x.toArray⟩ : ByteArray) = z at *
      go_enter Tryd.func25, Tryd.ntmps25
      go_wp2_with fail
      refine R1.out.mono ?_
      rintro e w1 ⟨rfl, hb1⟩
      have HB1 := Lib.hid hb1
      clear hb1
      go_wp2_with fail
      refine (T1.out _).mono ?_
      rintro e w2 ⟨rfl, hw2⟩
      have HB2 : Hid (Below w.heap.size w w2) := Lib.hid (by
        rcases hw2 with rfl | rfl
        · exact HB1.out
        · exact below_drewN HB1.out 1)
      clear hw2
      go_wp2_with fail
      go_ret
      exact ⟨by rw [← HR.out]; rfl, HB2.out⟩
  · have t1 : decide ((n : Int) < 2) = true := by simp; omega
    have HR := Lib.hid (show R = 0 from by rw [← hR, if_neg (fun h => h2 h.1)])
    clear hR h2 hn
    go_enter Tryd.func25, Tryd.ntmps25
    go_wp2_with fail
    refine R1.out.mono ?_
    rintro e w1 ⟨rfl, hb1⟩
    have HB1 := Lib.hid hb1
    clear hb1
    go_wp2_with fail
    go_ret
    exact ⟨by rw [HR.out]; rfl, HB1.out⟩
end Go.Proofs.YthhlnahehpigeaaDoor
