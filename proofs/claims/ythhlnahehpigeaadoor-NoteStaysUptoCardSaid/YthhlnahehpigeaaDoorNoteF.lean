/- DERIVED. The walk of note's Tidy. -/
import Derived.Test.YthhlnahehpigeaaDoorNoteE
set_option linter.unusedSimpArgs false
set_option linter.unusedVariables false
namespace Go.Proofs.YthhlnahehpigeaaDoor
open Go.RowKit

theorem join_few (ls : List (List UInt8)) : ls.length ≤ (Lib.join ls [10]).length + 1 := by
  induction ls with
  | nil => simp
  | cons x r ih =>
    cases r with
    | nil => simp
    | cons y r =>
      have e : Lib.join (x :: y :: r) [10] = x ++ 10 :: Lib.join (y :: r) [10] := by
        rw [Lib.join_cons, Lib.join_cons]; unfold Lib.joinTail; simp
      rw [e]
      simp only [List.length_cons, List.length_append] at ih ⊢
      omega
theorem joined (v : Value) (ls : List (List UInt8)) (B : Nat) (w : World) (hO : OwnsT w B v ls) (hlen : (Lib.join ls [10]).length ≤ 140737488355327) :
    Calls Tryd.prog 35 #[v, .string ⟨#[10]⟩] w fun e w' => e = .returned (strV (Lib.join ls [10])) ∧ Below w.heap.size w w' := by
  obtain ⟨a, cap, rfl⟩ := hO.shape
  by_cases h0 : ls = []
  · subst h0
    refine (Tryd.strings_Join_none a cap ⟨#[10]⟩ w).mono ?_
    rintro e w' ⟨he, rfl⟩
    exact ⟨he, Below.refl _ _⟩
  · obtain ⟨g, rfl, hBg, hgl, hgc, hcell⟩ := hO.form rfl (List.length_pos_iff.2 h0)
    have hf := join_few ls
    have hm : (ls.map (fun x => (⟨x.toArray⟩ : ByteArray))).map (·.data.toList) = ls := by rw [List.map_map]; exact List.map_id _
    have h := Tryd.strings_Join g 0 cap (ls.map (fun x => (⟨x.toArray⟩ : ByteArray))) ⟨#[10]⟩ w (by
      intro j x hx
      rw [List.getElem?_map] at hx
      cases hy : ls[j]? with
      | none => rw [hy] at hx; cases hx
      | some y =>
        rw [hy] at hx
        injection hx with hx
        subst hx
        rw [Nat.zero_add]
        exact (hcell j y hy).1) hgl (by rw [List.length_map]; omega) (by rw [List.length_map]; exact hgc) (by rw [hm]; exact Nat.le_trans hlen (by omega))
    rw [hm, List.length_map] at h
    exact h
def indF (col : Nat) (y : List UInt8) : List UInt8 := if y = [] then [] else List.replicate (col + 2) 32 ++ y
/-- The rows as far as they have been moved. -/
def IndAt (col : Nat) (ls : List (List UInt8)) (i : Nat) : List (List UInt8) :=
  match ls with
  | [] => []
  | x :: r => x :: MapAt (indF col) r (i - 1)
theorem indAt_zero (col : Nat) (ls : List (List UInt8)) : IndAt col ls 0 = ls := by
  cases ls with
  | nil => rfl
  | cons x r => show x :: MapAt (indF col) r 0 = _; unfold MapAt; simp
theorem indAt_one (col : Nat) (ls : List (List UInt8)) : IndAt col ls 1 = ls := by
  cases ls with
  | nil => rfl
  | cons x r => show x :: MapAt (indF col) r 0 = _; unfold MapAt; simp
theorem indAt_end (col : Nat) (ls : List (List UInt8)) : IndAt col ls ls.length = indentN col ls := by
  cases ls with
  | nil => rfl
  | cons x r => show x :: MapAt (indF col) r r.length = _; unfold MapAt indentN indF; rw [List.take_length, List.drop_length, List.append_nil]
theorem indAt_len (col : Nat) (ls : List (List UInt8)) (i : Nat) (h : i ≤ ls.length) : (IndAt col ls i).length = ls.length := by
  cases ls with
  | nil => rfl
  | cons x r => show (MapAt (indF col) r (i - 1)).length + 1 = _; rw [mapAt_len _ _ _ (by simp at h; omega)]; rfl
theorem indAt_get (col : Nat) (ls : List (List UInt8)) (i : Nat) (h : i < ls.length) : (IndAt col ls i)[i]? = some ls[i] := by
  cases ls with
  | nil => simp at h
  | cons x r =>
    cases i with
    | zero => rfl
    | succ i =>
      have h' : i < r.length := by simp at h; omega
      show (MapAt (indF col) r i)[i]? = some r[i]
      exact mapAt_get _ _ _ h'
theorem indAt_step (col : Nat) (ls : List (List UInt8)) (i : Nat) (h : i < ls.length) (h0 : 0 < i) : (IndAt col ls i).set i (indF col ls[i]) = IndAt col ls (i + 1) := by
  cases ls with
  | nil => simp at h
  | cons x r =>
    cases i with
    | zero => omega
    | succ i =>
      have h' : i < r.length := by simp at h; omega
      show x :: (MapAt (indF col) r i).set i (indF col r[i]) = x :: MapAt (indF col) r (i + 1)
      rw [mapAt_step _ _ _ h']
theorem indAt_keep (col : Nat) (ls : List (List UInt8)) (i : Nat) (h : i < ls.length) (h0 : 0 < i) (hx : ls[i] = []) : IndAt col ls (i + 1) = IndAt col ls i := by
  rw [← indAt_step col ls i h h0, hx]
  have hg := indAt_get col ls i h
  rw [hx] at hg
  have e : indF col [] = [] := by unfold indF; rw [if_pos rfl]
  rw [e]
  apply List.ext_getElem?
  intro j
  rw [List.getElem?_set]
  split
  · next hj =>
    subst hj
    rw [if_pos (by rw [indAt_len col ls i (by omega)]; exact h), hg]
  · rfl
theorem repeat_sp (n : Nat) : Lib.repeatL [32] n = List.replicate n 32 := by
  induction n with
  | zero => rfl
  | succ n ih => show [32] ++ Lib.repeatL [32] n = _; rw [ih]; rfl
theorem repeated (n : Nat) (w : World) (hn : n ≤ 65538) :
    Calls Tryd.prog 34 #[.string ⟨#[32]⟩, .int .i64 (n : Int)] w fun e w' => e = .returned (strV (List.replicate n 32)) ∧ Below w.heap.size w w' := by
  have h := Tryd.strings_Repeat ⟨#[32]⟩ n w (by omega) (by have e : (⟨#[32]⟩ : ByteArray).size = 1 := rfl; rw [e]; omega)
  refine h.mono ?_
  rintro e w' ⟨he, hb⟩
  refine ⟨?_, hb⟩
  rw [he, ← repeat_sp n]
  rfl
theorem strV_add (x y : List UInt8) : (Value.string ((⟨x.toArray⟩ : ByteArray) ++ (⟨y.toArray⟩ : ByteArray))) = strV (x ++ y) := by
  rw [strV_of]; simp
/-- What Tidy gives back. -/
def tidyV (p : List UInt8 × Int) : Value := .tuple #[strV p.1, .int .i64 p.2]
set_option maxRecDepth 20000 in
set_option maxHeartbeats 4000000 in
theorem noteTidy_any (s : ByteArray) (col : Int) (w : World) (hs : s.size ≤ 8796093022206) (hl : ∀ x ∈ linesL [] s.data.toList, x.length ≤ 4294967280) (ht : (tidyN s.data.toList col).1.length ≤ 140737488355327) (h0 : Len0 w) :
    Calls Tryd.prog 19 #[.string s, .int .i64 col] w fun e w' => e = .returned (tidyV (tidyN s.data.toList col)) ∧ Below w.heap.size w w' := by
  have L1 := noteLines_any s w hs hl h0
  obtain ⟨R, hR⟩ : ∃ R, tidyN s.data.toList col = R := ⟨_, rfl⟩
  rw [hR] at ht
  rw [hR]
  unfold tidyN at hR
  by_cases hc : col < 1 ∨ 65536 < col
  · rw [if_pos hc] at hR
    subst hR
    clear L1 hl ht
    have e : tidyV ([], 1) = .tuple #[.string ⟨#[]⟩, .int .i64 1] := rfl
    rw [e]
    rcases hc with hc | hc
    all_goals
      go_enter Tryd.func19, Tryd.ntmps19
      go_wp2_with fail
      go_ret2
      exact ⟨rfl, Below.refl _ _⟩
  · rw [if_neg hc] at hR
    have t1 : decide (col < 1) = false := by simp; omega
    have t2 : decide (65536 < col) = false := by simp; omega
    cases hln : linesN s.data.toList with
    | none =>
      rw [hln] at L1 hR
      simp only at hR
      subst hR
      have L1 := Lib.hid L1
      have e : tidyV ([], 60) = .tuple #[.string ⟨#[]⟩, .int .i64 60] := rfl
      rw [e]
      clear ht hln hc hl
      go_enter Tryd.func19, Tryd.ntmps19
      go_wp2_with fail
      refine L1.out.mono ?_
      rintro e w1 ⟨v, rfl, rfl, hb1⟩
      have HB1 := Lib.hid hb1
      clear hb1
      go_wp2_with fail
      go_ret2
      exact ⟨rfl, HB1.out⟩
    | some ls =>
      have hlx := linesN_len _ ls _ hln hl
      rw [hln] at L1 hR
      simp only at hR
      have HLX := Lib.hid hlx
      clear hl hlx
      obtain ⟨cn, rfl⟩ := Int.eq_ofNat_of_zero_le (show 0 ≤ col by omega)
      rw [Int.toNat_natCast] at hR
      have L1 := Lib.hid L1
      have P1 := Lib.hid fun w => repeated (cn + 2) w (by omega)
      rw [show ((cn + 2 : Nat) : Int) = (cn : Int) + 2 from by omega] at P1
      have HR2 := Lib.hid hR
      rw [← hR] at ht
      have HT := Lib.hid (show (Lib.join (indentN cn ls) [10]).length ≤ 140737488355327 from ht)
      have J1 := Lib.hid fun (w1 : World) (v : Value) (hO : OwnsT w1 w.heap.size v (indentN cn ls)) => joined v _ _ w1 hO HT.out
      clear ht hR hln
      obtain ⟨ah, hah⟩ : ∃ a, List.replicate (cn + 2) (32 : UInt8) = a := ⟨_, rfl⟩
      rw [hah] at P1
      have hal : ah.length = cn + 2 := by rw [← hah, List.length_replicate]
      have HA := Lib.hid hah
      clear hah
      unfold strV at P1
      have hc1 : 1 ≤ cn ∧ cn ≤ 65536 := by omega
      clear hc
      go_enter Tryd.func19, Tryd.ntmps19
      go_wp2_with fail
      refine L1.out.mono ?_
      rintro e w1 ⟨v, rfl, v1, rfl, hO, hb1⟩
      have HB1 := Lib.hid hb1
      have HO := Lib.hid hO
      obtain ⟨a, cap, rfl⟩ := HO.out.shape
      have hfew := HO.out.few
      clear hb1 hO
      go_wp2_with fail
      refine (P1.out _).mono ?_
      rintro e w2 ⟨rfl, hb2⟩
      have HB2 := Lib.hid (Below.then HB1.out hb2)
      have HO2 := Lib.hid (HO.out.below hb2)
      clear hb2
      go_wp2_with fail
      go_loopw [29, 9] (fun iv jv wr => ∃ (i : Nat), iv = .int .i64 i ∧ i ≤ ls.length ∧ OwnsT wr w.heap.size (.slice a ls.length cap) (IndAt cn ls i) ∧ Below w.heap.size w wr) (fun iv _ _ => ls.length - (intOf iv).toNat)
      case atStart => exact ⟨0, rfl, Nat.zero_le _, by rw [indAt_zero]; exact HO2.out, HB2.out⟩
      case round =>
        obtain ⟨i, rfl, hi, hR, hBl⟩ := hrel
        have HR := Lib.hid hR
        have HBl := Lib.hid hBl
        clear hR hBl
        by_cases hin : i < ls.length
        · have hlt := indAt_len cn ls i hi
          obtain ⟨g, rfl, hBg, hgl, hgc, hcell⟩ := HR.out.form hlt (by omega)
          obtain ⟨hc0, hz⟩ := hcell i ls[i] (indAt_get cn ls i hin)
          clear hcell
          by_cases hi0 : 0 < i
          · have t5 : decide ((0 : Int) < i) = true := by simp; omega
            have hxl := HLX.out ls[i] (List.getElem_mem hin)
            have hS := indAt_step cn ls i hin hi0
            have hK := indAt_keep cn ls i hin hi0
            generalize ls[i] = x at *
            unfold strV at hc0
            have e1 : (⟨x.toArray⟩ : ByteArray).toList = x := by rw [Lib.toList_data]
            by_cases hx : x = []
            · have HS2 := Lib.hid (hK hx)
              have q1 : ((⟨x.toArray⟩ : ByteArray).toList == []) = true := by rw [e1, hx]; rfl
              have q2 : (⟨x.toArray⟩ : ByteArray).toList.isEmpty = true := by rw [e1, hx]; rfl
              have q3 : (⟨x.toArray⟩ : ByteArray).toList = [] := by rw [e1, hx]
              clear hS hK hlt hx e1
              generalize (⟨x.toArray⟩ : ByteArray) = z at *
              go_wp2_with fail
              go_roundw
              case rel => exact ⟨i + 1, by go_num, by omega, by rw [HS2.out]; exact HR.out, HBl.out⟩
              case measure => simp [intOf]; omega
            · have hS2 := hS
              rw [show indF cn x = ah ++ x from by unfold indF; rw [if_neg hx, HA.out]] at hS2
              have HS2 := Lib.hid hS2
              have q1 : ((⟨x.toArray⟩ : ByteArray).toList == []) = false := by rw [e1]; simpa using hx
              have q2 : (⟨x.toArray⟩ : ByteArray).toList.isEmpty = false := by rw [e1]; simpa using hx
              have q3 : ¬ (⟨x.toArray⟩ : ByteArray).toList = [] := by rw [e1]; exact hx
              have HRS := HR.out.set hlt i (ah ++ x)
              rw [HS2.out] at HRS
              have HBS := HBl.out.setCell (p := ⟨g, i, none⟩) hBg (strV (ah ++ x))
              rw [← strV_add] at HRS HBS
              have HRS := Lib.hid HRS
              have HBS := Lib.hid HBS
              have hadd : ¬ 9223372036854775807 < (⟨ah.toArray⟩ : ByteArray).size + (⟨x.toArray⟩ : ByteArray).size := by simp only [ByteArray.size, List.size_toArray]; omega
              clear hS hK hlt hx e1 hS2
              generalize (⟨x.toArray⟩ : ByteArray) = z at *
              generalize (⟨ah.toArray⟩ : ByteArray) = z2 at *
              go_wp2_with fail
              go_roundw
              case rel => exact ⟨i + 1, by go_num, by omega, HRS.out, HBS.out⟩
              case measure => simp [intOf]; omega
          · have t5 : decide ((0 : Int) < i) = false := by simp; omega
            have HI0 := Lib.hid (show IndAt cn ls (i + 1) = IndAt cn ls i from by rw [show i = 0 from by omega, indAt_one, indAt_zero])
            clear hc0 hz
            go_wp2_with fail
            go_roundw
            case rel => exact ⟨i + 1, by go_num, by omega, by rw [HI0.out]; exact HR.out, HBl.out⟩
            case measure => simp [intOf]; omega
        · have hi' : i = ls.length := by omega
          subst hi'
          rw [indAt_end] at HR
          have t3 : decide (ls.length < ls.length) = false := by simp
          go_wp2_with fail
          refine (J1.out _ _ HR.out).mono ?_
          rintro e w5 ⟨rfl, hb5⟩
          have HB5 := Lib.hid (Below.then HBl.out hb5)
          clear hb5
          unfold strV
          go_wp2_with fail
          go_ret2
          exact ⟨by rw [← HR2.out]; rfl, HB5.out⟩
end Go.Proofs.YthhlnahehpigeaaDoor
