/- DERIVED. The walk of Write. -/
import Derived.Test.YtmgnpgbganjgfaaDoorQuoA
import Derived.Test.YtmgnpgbganjgfaaDoorQuoteU
import Derived.Test.YtmgnpgbganjgfaaDoorBld
import Derived.Test.YtmgnpgbganjgfaaDoorQuoV
set_option linter.unusedSimpArgs false
set_option linter.unusedVariables false
namespace Go.Proofs.YtmgnpgbganjgfaaDoor
open Go.RowKit

theorem below_grow (w : World) (q : Nat) (os : Array Obj) : RowKit.Below w.heap.size w (Go.Sort.grow (w.drewN q) os) := by
  refine ⟨rfl, rfl, rfl, ?_, fun i hi => ?_⟩
  · simp [Go.Sort.grow]
  · show (w.heap ++ os)[i]? = _
    rw [Array.getElem?_append_left hi]
theorem itoa_any (x : Nat) (w : World) (hx : x ≤ 1114111) (hT : Tabs5 w) : Calls Tryd.prog 25 #[.int .i64 (x : Nat)] w fun e w' => e = .returned (.string ⟨(Lib.decDigits x).toArray⟩) ∧ RowKit.Below w.heap.size w w' := by
  refine (Tryd.strconv_Itoa x (by omega) (by omega) w hT.pow).mono ?_
  rintro e w' ⟨he, k, os, rfl⟩
  refine ⟨?_, below_grow w k os⟩
  rw [he]
  unfold Lib.itoa
  rw [if_neg (by omega)]
  simp
theorem dec_len7 (n : Nat) : ∀ u, u < 10 ^ n → 0 < n → (Lib.decDigits u).length ≤ n := by
  induction n with
  | zero => intro u _ h; omega
  | succ n ih =>
    intro u hu _
    rw [Lib.decDigits]
    split
    · simp
    · next h =>
      rw [List.length_append]
      by_cases h0 : 0 < n
      · have := ih (u / 10) (by rw [Nat.pow_succ] at hu; omega) h0
        simp; omega
      · have hn : n = 0 := by omega
        subst hn
        simp at hu; omega
def writeX (L : List Int) : List UInt8 × Int := match writeP L with | some t => (t, 0) | none => ([], 1)
theorem writeStr_of (B b : Nat) (l : List UInt8) (s : ByteArray) (L : List UInt8) (hs : s.data.toList = L) (w : World) (h : IsB B b l w) (hlen : l.length + L.length ≤ 140737488355328) (hBw : B ≤ w.heap.size) :
    Calls Tryd.prog 24 #[.pointer (some ⟨b, 0, none⟩), .string s] w fun e w' => e = .returned (.tuple #[.int .i64 s.size, .nilIface]) ∧ IsB B b (l ++ L) w' ∧ Below B w w' ∧ Kept b w w' := by
  subst hs
  exact writeStr_any B b l s w h (by simpa using hlen) hBw
theorem wrap_u8 (n : Nat) (h : n < 256) : IntKind.u8.wrap (n : Int) = n := IntWalk.u8_in _ (by omega)
set_option maxRecDepth 20000 in
set_option maxHeartbeats 16000000 in
theorem write_any (v : Value) (L : List Int) (w : World) (hL : IntsAt w v L) (hlen : L.length ≤ 1048576) (hT : Tabs5 w) :
    Calls Tryd.prog 16 #[v] w fun e w' => e = .returned (textV (writeX L)) ∧ Below w.heap.size w w' := by
  obtain ⟨a, cap, rfl, hcell⟩ := hL
  have HC := Lib.hid hcell
  have HT := Lib.hid hT
  obtain ⟨R, hR⟩ : ∃ R, writeX L = R := ⟨_, rfl⟩
  rw [hR]
  have HR := Lib.hid hR
  have HF := Lib.hid (fresh_IsB w)
  have HB0 := Lib.hid ((Below.refl w.heap.size w).alloc (Nat.le_refl _) (.cells #[.pointer none, .slice none 0 0] 49))
  clear hcell hT hR
  go_enter Tryd.func16, Tryd.ntmps16
  go_wp2_with fail
  have HI0 := HF
  refine (writeByte_of w.heap.size w.heap.size [] 34 34 rfl _ HI0.out (by (try simp only [List.length_append, List.length_cons, List.length_nil]); first | omega | (have := HDL.out; omega)) (by have := HB0.out.size; omega)).mono ?_
  rintro e w1 ⟨rfl, hi, hb, _⟩
  have HI1 := Lib.hid hi
  have HB1 := Lib.hid (HB0.out.trans hb)
  clear hi hb
  go_wp2_with fail
  go_loopw [5, 12] (fun nv jv wr => ∃ (j : Nat) (num : Bool) (acc : List UInt8), jv = .int .i64 (j : Int) ∧ nv = .bool num ∧ j ≤ L.length ∧ (L.take j).all inW = true ∧ IsB w.heap.size w.heap.size acc wr ∧ acc.length ≤ 1 + 12 * j ∧ acc ++ bodyW num (L.drop j) = 34 :: bodyW false L ∧ Below w.heap.size w wr) (fun _ jv _ => L.length - (intOf jv).toNat)
  case atStart => exact ⟨0, false, [34], rfl, rfl, Nat.zero_le _, rfl, HI1.out, by simp, rfl, HB1.out⟩
  case round =>
    obtain ⟨j, num, acc, rfl, rfl, hj, hall, hI, hal, hst, hb⟩ := hrel
    have HI2 := Lib.hid hI
    have HB2 := Lib.hid hb
    have HSZ := Lib.hid hst
    have HA0 := Lib.hid hall
    clear hI hb hst hall
    by_cases hjl : j < L.length
    · obtain ⟨b, o, rfl, hbl, hlc, hcl⟩ := HC.out (by omega)
      obtain ⟨c, hc⟩ : ∃ c, L[j]? = some c := ⟨_, List.getElem?_eq_getElem hjl⟩
      have e0 : wr.cell? ⟨b, o + j, none⟩ = some (.int .i64 c) := by rw [HB2.out.cell (by exact hbl)]; exact hcl j c hc
      have hdrop : L.drop j = c :: L.drop (j + 1) := by
        have := (List.getElem?_eq_some_iff.1 hc).2
        rw [List.drop_eq_getElem_cons hjl, this]
      have htake : L.take (j + 1) = L.take j ++ [c] := by
        have := (List.getElem?_eq_some_iff.1 hc).2
        rw [List.take_succ_eq_append_getElem hjl, this]
      have hmem : c ∈ L := List.mem_of_getElem? hc
      clear hcl
      by_cases hin : inW c = true
      · have hin2 := hin
        unfold inW at hin2
        simp only [Bool.and_eq_true, decide_eq_true_eq] at hin2
        obtain ⟨n, rfl⟩ := Int.eq_ofNat_of_zero_le hin2.1
        have k1 : decide ((n : Int) < 0) = false := by simp
        have k2 : decide ((1114111 : Int) < n) = false := by simp; omega
        have HALL := Lib.hid (show (L.take (j + 1)).all inW = true from by rw [htake, List.all_append, HA0.out]; simp [hin])
        have hstep := HSZ.out
        rw [hdrop] at hstep
        rw [show bodyW num ((n : Int) :: L.drop (j + 1)) = (if (num && isD n) = true then [92, 38] else []) ++ pieceW n ++ bodyW (isNumW n) (L.drop (j + 1)) from rfl] at hstep
        have HSTEP := Lib.hid hstep
        clear hstep hdrop htake hmem hin hc
        by_cases c1 : 7 ≤ n ∧ n ≤ 13
        · have hcs : n = 7 ∨ n = 8 ∨ n = 9 ∨ n = 10 ∨ n = 11 ∨ n = 12 ∨ n = 13 := by omega
          clear c1
          rcases hcs with rfl | rfl | rfl | rfl | rfl | rfl | rfl
          · have HST := Lib.hid (show (acc ++ [92, 97]) ++ bodyW false (L.drop (j + 1)) = 34 :: bodyW false L from by
              have := HSTEP.out
              rw [show (num && isD ((7 : Nat) : Int)) = false from by rw [show isD ((7 : Nat) : Int) = false from by decide, Bool.and_false], show pieceW ((7 : Nat) : Int) = [92, 97] from by decide, show isNumW ((7 : Nat) : Int) = false from by decide] at this
              simpa only [List.append_assoc, List.nil_append, List.cons_append, if_neg (show ¬ (false = true) from by simp)] using this)
            clear HSTEP
            cases num
            all_goals
              go_wp2_with fail
              refine (writeByte_of w.heap.size w.heap.size acc 92 92 rfl _ HI2.out (by (try simp only [List.length_append, List.length_cons, List.length_nil]); first | omega | (have := HDL.out; omega)) (by have := HB2.out.size; omega)).mono ?_
              rintro e w3 ⟨rfl, hi, hb, _⟩
              have HI3 := Lib.hid hi
              have HB3 := Lib.hid (HB2.out.trans hb)
              clear hi hb
              go_wp2_with fail
              refine (writeByte_of w.heap.size w.heap.size (acc ++ [92]) 97 97 rfl _ HI3.out (by (try simp only [List.length_append, List.length_cons, List.length_nil]); first | omega | (have := HDL.out; omega)) (by have := HB3.out.size; omega)).mono ?_
              rintro e w4 ⟨rfl, hi, hb, _⟩
              have HI4 := Lib.hid hi
              have HB4 := Lib.hid (HB3.out.trans hb)
              clear hi hb
              go_wp2_with fail
              go_roundw
              case rel => exact ⟨j + 1, false, _, by go_num, by first | rfl | go_num, by omega, HALL.out, by have := HI4.out; first | exact this | (simp only [List.append_assoc, List.cons_append, List.nil_append] at this; exact this), by simp only [List.length_append, List.length_cons, List.length_nil]; first | omega | (have := HDL.out; omega), HST.out, HB4.out⟩
              case measure => simp [intOf]; omega
          · have HST := Lib.hid (show (acc ++ [92, 98]) ++ bodyW false (L.drop (j + 1)) = 34 :: bodyW false L from by
              have := HSTEP.out
              rw [show (num && isD ((8 : Nat) : Int)) = false from by rw [show isD ((8 : Nat) : Int) = false from by decide, Bool.and_false], show pieceW ((8 : Nat) : Int) = [92, 98] from by decide, show isNumW ((8 : Nat) : Int) = false from by decide] at this
              simpa only [List.append_assoc, List.nil_append, List.cons_append, if_neg (show ¬ (false = true) from by simp)] using this)
            clear HSTEP
            cases num
            all_goals
              go_wp2_with fail
              refine (writeByte_of w.heap.size w.heap.size acc 92 92 rfl _ HI2.out (by (try simp only [List.length_append, List.length_cons, List.length_nil]); first | omega | (have := HDL.out; omega)) (by have := HB2.out.size; omega)).mono ?_
              rintro e w3 ⟨rfl, hi, hb, _⟩
              have HI3 := Lib.hid hi
              have HB3 := Lib.hid (HB2.out.trans hb)
              clear hi hb
              go_wp2_with fail
              refine (writeByte_of w.heap.size w.heap.size (acc ++ [92]) 98 98 rfl _ HI3.out (by (try simp only [List.length_append, List.length_cons, List.length_nil]); first | omega | (have := HDL.out; omega)) (by have := HB3.out.size; omega)).mono ?_
              rintro e w4 ⟨rfl, hi, hb, _⟩
              have HI4 := Lib.hid hi
              have HB4 := Lib.hid (HB3.out.trans hb)
              clear hi hb
              go_wp2_with fail
              go_roundw
              case rel => exact ⟨j + 1, false, _, by go_num, by first | rfl | go_num, by omega, HALL.out, by have := HI4.out; first | exact this | (simp only [List.append_assoc, List.cons_append, List.nil_append] at this; exact this), by simp only [List.length_append, List.length_cons, List.length_nil]; first | omega | (have := HDL.out; omega), HST.out, HB4.out⟩
              case measure => simp [intOf]; omega
          · have HST := Lib.hid (show (acc ++ [92, 116]) ++ bodyW false (L.drop (j + 1)) = 34 :: bodyW false L from by
              have := HSTEP.out
              rw [show (num && isD ((9 : Nat) : Int)) = false from by rw [show isD ((9 : Nat) : Int) = false from by decide, Bool.and_false], show pieceW ((9 : Nat) : Int) = [92, 116] from by decide, show isNumW ((9 : Nat) : Int) = false from by decide] at this
              simpa only [List.append_assoc, List.nil_append, List.cons_append, if_neg (show ¬ (false = true) from by simp)] using this)
            clear HSTEP
            cases num
            all_goals
              go_wp2_with fail
              refine (writeByte_of w.heap.size w.heap.size acc 92 92 rfl _ HI2.out (by (try simp only [List.length_append, List.length_cons, List.length_nil]); first | omega | (have := HDL.out; omega)) (by have := HB2.out.size; omega)).mono ?_
              rintro e w3 ⟨rfl, hi, hb, _⟩
              have HI3 := Lib.hid hi
              have HB3 := Lib.hid (HB2.out.trans hb)
              clear hi hb
              go_wp2_with fail
              refine (writeByte_of w.heap.size w.heap.size (acc ++ [92]) 116 116 rfl _ HI3.out (by (try simp only [List.length_append, List.length_cons, List.length_nil]); first | omega | (have := HDL.out; omega)) (by have := HB3.out.size; omega)).mono ?_
              rintro e w4 ⟨rfl, hi, hb, _⟩
              have HI4 := Lib.hid hi
              have HB4 := Lib.hid (HB3.out.trans hb)
              clear hi hb
              go_wp2_with fail
              go_roundw
              case rel => exact ⟨j + 1, false, _, by go_num, by first | rfl | go_num, by omega, HALL.out, by have := HI4.out; first | exact this | (simp only [List.append_assoc, List.cons_append, List.nil_append] at this; exact this), by simp only [List.length_append, List.length_cons, List.length_nil]; first | omega | (have := HDL.out; omega), HST.out, HB4.out⟩
              case measure => simp [intOf]; omega
          · have HST := Lib.hid (show (acc ++ [92, 110]) ++ bodyW false (L.drop (j + 1)) = 34 :: bodyW false L from by
              have := HSTEP.out
              rw [show (num && isD ((10 : Nat) : Int)) = false from by rw [show isD ((10 : Nat) : Int) = false from by decide, Bool.and_false], show pieceW ((10 : Nat) : Int) = [92, 110] from by decide, show isNumW ((10 : Nat) : Int) = false from by decide] at this
              simpa only [List.append_assoc, List.nil_append, List.cons_append, if_neg (show ¬ (false = true) from by simp)] using this)
            clear HSTEP
            cases num
            all_goals
              go_wp2_with fail
              refine (writeByte_of w.heap.size w.heap.size acc 92 92 rfl _ HI2.out (by (try simp only [List.length_append, List.length_cons, List.length_nil]); first | omega | (have := HDL.out; omega)) (by have := HB2.out.size; omega)).mono ?_
              rintro e w3 ⟨rfl, hi, hb, _⟩
              have HI3 := Lib.hid hi
              have HB3 := Lib.hid (HB2.out.trans hb)
              clear hi hb
              go_wp2_with fail
              refine (writeByte_of w.heap.size w.heap.size (acc ++ [92]) 110 110 rfl _ HI3.out (by (try simp only [List.length_append, List.length_cons, List.length_nil]); first | omega | (have := HDL.out; omega)) (by have := HB3.out.size; omega)).mono ?_
              rintro e w4 ⟨rfl, hi, hb, _⟩
              have HI4 := Lib.hid hi
              have HB4 := Lib.hid (HB3.out.trans hb)
              clear hi hb
              go_wp2_with fail
              go_roundw
              case rel => exact ⟨j + 1, false, _, by go_num, by first | rfl | go_num, by omega, HALL.out, by have := HI4.out; first | exact this | (simp only [List.append_assoc, List.cons_append, List.nil_append] at this; exact this), by simp only [List.length_append, List.length_cons, List.length_nil]; first | omega | (have := HDL.out; omega), HST.out, HB4.out⟩
              case measure => simp [intOf]; omega
          · have HST := Lib.hid (show (acc ++ [92, 118]) ++ bodyW false (L.drop (j + 1)) = 34 :: bodyW false L from by
              have := HSTEP.out
              rw [show (num && isD ((11 : Nat) : Int)) = false from by rw [show isD ((11 : Nat) : Int) = false from by decide, Bool.and_false], show pieceW ((11 : Nat) : Int) = [92, 118] from by decide, show isNumW ((11 : Nat) : Int) = false from by decide] at this
              simpa only [List.append_assoc, List.nil_append, List.cons_append, if_neg (show ¬ (false = true) from by simp)] using this)
            clear HSTEP
            cases num
            all_goals
              go_wp2_with fail
              refine (writeByte_of w.heap.size w.heap.size acc 92 92 rfl _ HI2.out (by (try simp only [List.length_append, List.length_cons, List.length_nil]); first | omega | (have := HDL.out; omega)) (by have := HB2.out.size; omega)).mono ?_
              rintro e w3 ⟨rfl, hi, hb, _⟩
              have HI3 := Lib.hid hi
              have HB3 := Lib.hid (HB2.out.trans hb)
              clear hi hb
              go_wp2_with fail
              refine (writeByte_of w.heap.size w.heap.size (acc ++ [92]) 118 118 rfl _ HI3.out (by (try simp only [List.length_append, List.length_cons, List.length_nil]); first | omega | (have := HDL.out; omega)) (by have := HB3.out.size; omega)).mono ?_
              rintro e w4 ⟨rfl, hi, hb, _⟩
              have HI4 := Lib.hid hi
              have HB4 := Lib.hid (HB3.out.trans hb)
              clear hi hb
              go_wp2_with fail
              go_roundw
              case rel => exact ⟨j + 1, false, _, by go_num, by first | rfl | go_num, by omega, HALL.out, by have := HI4.out; first | exact this | (simp only [List.append_assoc, List.cons_append, List.nil_append] at this; exact this), by simp only [List.length_append, List.length_cons, List.length_nil]; first | omega | (have := HDL.out; omega), HST.out, HB4.out⟩
              case measure => simp [intOf]; omega
          · have HST := Lib.hid (show (acc ++ [92, 102]) ++ bodyW false (L.drop (j + 1)) = 34 :: bodyW false L from by
              have := HSTEP.out
              rw [show (num && isD ((12 : Nat) : Int)) = false from by rw [show isD ((12 : Nat) : Int) = false from by decide, Bool.and_false], show pieceW ((12 : Nat) : Int) = [92, 102] from by decide, show isNumW ((12 : Nat) : Int) = false from by decide] at this
              simpa only [List.append_assoc, List.nil_append, List.cons_append, if_neg (show ¬ (false = true) from by simp)] using this)
            clear HSTEP
            cases num
            all_goals
              go_wp2_with fail
              refine (writeByte_of w.heap.size w.heap.size acc 92 92 rfl _ HI2.out (by (try simp only [List.length_append, List.length_cons, List.length_nil]); first | omega | (have := HDL.out; omega)) (by have := HB2.out.size; omega)).mono ?_
              rintro e w3 ⟨rfl, hi, hb, _⟩
              have HI3 := Lib.hid hi
              have HB3 := Lib.hid (HB2.out.trans hb)
              clear hi hb
              go_wp2_with fail
              refine (writeByte_of w.heap.size w.heap.size (acc ++ [92]) 102 102 rfl _ HI3.out (by (try simp only [List.length_append, List.length_cons, List.length_nil]); first | omega | (have := HDL.out; omega)) (by have := HB3.out.size; omega)).mono ?_
              rintro e w4 ⟨rfl, hi, hb, _⟩
              have HI4 := Lib.hid hi
              have HB4 := Lib.hid (HB3.out.trans hb)
              clear hi hb
              go_wp2_with fail
              go_roundw
              case rel => exact ⟨j + 1, false, _, by go_num, by first | rfl | go_num, by omega, HALL.out, by have := HI4.out; first | exact this | (simp only [List.append_assoc, List.cons_append, List.nil_append] at this; exact this), by simp only [List.length_append, List.length_cons, List.length_nil]; first | omega | (have := HDL.out; omega), HST.out, HB4.out⟩
              case measure => simp [intOf]; omega
          · have HST := Lib.hid (show (acc ++ [92, 114]) ++ bodyW false (L.drop (j + 1)) = 34 :: bodyW false L from by
              have := HSTEP.out
              rw [show (num && isD ((13 : Nat) : Int)) = false from by rw [show isD ((13 : Nat) : Int) = false from by decide, Bool.and_false], show pieceW ((13 : Nat) : Int) = [92, 114] from by decide, show isNumW ((13 : Nat) : Int) = false from by decide] at this
              simpa only [List.append_assoc, List.nil_append, List.cons_append, if_neg (show ¬ (false = true) from by simp)] using this)
            clear HSTEP
            cases num
            all_goals
              go_wp2_with fail
              refine (writeByte_of w.heap.size w.heap.size acc 92 92 rfl _ HI2.out (by (try simp only [List.length_append, List.length_cons, List.length_nil]); first | omega | (have := HDL.out; omega)) (by have := HB2.out.size; omega)).mono ?_
              rintro e w3 ⟨rfl, hi, hb, _⟩
              have HI3 := Lib.hid hi
              have HB3 := Lib.hid (HB2.out.trans hb)
              clear hi hb
              go_wp2_with fail
              refine (writeByte_of w.heap.size w.heap.size (acc ++ [92]) 114 114 rfl _ HI3.out (by (try simp only [List.length_append, List.length_cons, List.length_nil]); first | omega | (have := HDL.out; omega)) (by have := HB3.out.size; omega)).mono ?_
              rintro e w4 ⟨rfl, hi, hb, _⟩
              have HI4 := Lib.hid hi
              have HB4 := Lib.hid (HB3.out.trans hb)
              clear hi hb
              go_wp2_with fail
              go_roundw
              case rel => exact ⟨j + 1, false, _, by go_num, by first | rfl | go_num, by omega, HALL.out, by have := HI4.out; first | exact this | (simp only [List.append_assoc, List.cons_append, List.nil_append] at this; exact this), by simp only [List.length_append, List.length_cons, List.length_nil]; first | omega | (have := HDL.out; omega), HST.out, HB4.out⟩
              case measure => simp [intOf]; omega
        · by_cases c2 : n < 32 ∨ 126 < n
          · have hd : isD n = false := by unfold isD; simp; omega
            have hw : isNumW n = true := by unfold isNumW; simp; omega
            have hp : pieceW n = 92 :: Lib.decDigits n := by unfold pieceW; rw [if_neg (by omega), if_pos (by omega), Int.toNat_natCast]
            have HST := Lib.hid (show (acc ++ (92 :: Lib.decDigits n)) ++ bodyW true (L.drop (j + 1)) = 34 :: bodyW false L from by
              have := HSTEP.out
              rw [hd, Bool.and_false, hp, hw] at this
              simpa only [List.append_assoc, List.nil_append, List.cons_append, if_neg (show ¬ (false = true) from by simp)] using this)
            have HDL := Lib.hid (dec_len7 7 n (by omega) (by omega))
            have hds : (⟨(Lib.decDigits n).toArray⟩ : ByteArray).size = (Lib.decDigits n).length := by simp only [ByteArray.size, List.size_toArray]
            have I1 := Lib.hid fun w hT => itoa_any n w (by omega) hT
            have hq7 : (decide ((7 : Int) ≤ n) = false) ∨ (decide ((7 : Int) ≤ n) = true ∧ decide ((n : Int) ≤ 13) = false) := by
              by_cases h : 7 ≤ n
              · exact .inr ⟨by simp; omega, by simp; omega⟩
              · exact .inl (by simp; omega)
            have hq8 : (decide ((n : Int) < 32) = true) ∨ (decide ((n : Int) < 32) = false ∧ decide ((126 : Int) < n) = true) := by
              by_cases h : n < 32
              · exact .inl (by simp; omega)
              · exact .inr ⟨by simp; omega, by simp; omega⟩
            have hq9 : (decide ((48 : Int) ≤ n) = false) ∨ (decide ((48 : Int) ≤ n) = true ∧ decide ((n : Int) ≤ 57) = false) := by
              by_cases h : 48 ≤ n
              · exact .inr ⟨by simp; omega, by simp; omega⟩
              · exact .inl (by simp; omega)
            have HHD := Lib.hid hds
            generalize hDD : (⟨(Lib.decDigits n).toArray⟩ : ByteArray) = D at *
            have HDD := Lib.hid (show D.data.toList = Lib.decDigits n from by rw [← hDD])
            clear HSTEP hd hw hp c1 c2 hDD hds
            generalize Lib.decDigits n = dd at *
            cases num
            all_goals
              rcases hq7 with q7 | ⟨q7, q7b⟩ <;> rcases hq8 with q8 | ⟨q8, q8b⟩ <;> rcases hq9 with q9 | ⟨q9, q9b⟩
              all_goals first
                | (exfalso; simp only [decide_eq_true_eq, decide_eq_false_iff_not] at *; omega)
                | skip
              all_goals
                go_wp2_with fail
                refine (writeByte_of w.heap.size w.heap.size acc 92 92 rfl _ HI2.out (by (try simp only [List.length_append, List.length_cons, List.length_nil]); first | omega | (have := HDL.out; omega)) (by have := HB2.out.size; omega)).mono ?_
                rintro e w3 ⟨rfl, hi, hb, _⟩
                have HI3 := Lib.hid hi
                have HB3 := Lib.hid (HB2.out.trans hb)
                clear hi hb
                go_wp2_with fail
                refine (I1.out _ (HT.out.below HB3.out)).mono ?_
                rintro e w4 ⟨rfl, hb⟩
                have HI4 := Lib.hid (HI3.out.below hb)
                have HB4 := Lib.hid (HB3.out.trans (hb.mono (by have := HB3.out.size; omega)))
                clear hb
                go_wp2_with fail
                refine (writeStr_any w.heap.size w.heap.size (acc ++ [92]) D _ HI4.out (by rw [HHD.out]; simp only [List.length_append, List.length_cons, List.length_nil]; have := HDL.out; omega) (by have := HB4.out.size; omega)).mono ?_
                rintro e w5 ⟨rfl, hi, hb, _⟩
                have HI5 := Lib.hid hi
                have HB5 := Lib.hid (HB4.out.trans hb)
                clear hi hb
                go_wp2_with fail
                go_roundw
                case rel => exact ⟨j + 1, true, _, by go_num, by first | rfl | go_num, by omega, HALL.out, by have := HI5.out; rw [HDD.out] at this; simp only [List.append_assoc, List.cons_append, List.nil_append] at this; exact this, by simp only [List.length_append, List.length_cons, List.length_nil]; have := HDL.out; omega, HST.out, HB5.out⟩
                case measure => simp [intOf]; omega
          · by_cases c3 : n = 34 ∨ n = 92
            · clear c1 c2
              rcases c3 with rfl | rfl
              · have HST := Lib.hid (show (acc ++ [92, 34]) ++ bodyW false (L.drop (j + 1)) = 34 :: bodyW false L from by
                  have := HSTEP.out
                  rw [show (num && isD ((34 : Nat) : Int)) = false from by rw [show isD ((34 : Nat) : Int) = false from by decide, Bool.and_false], show pieceW ((34 : Nat) : Int) = [92, 34] from by decide, show isNumW ((34 : Nat) : Int) = false from by decide] at this
                  simpa only [List.append_assoc, List.nil_append, List.cons_append, if_neg (show ¬ (false = true) from by simp)] using this)
                clear HSTEP
                cases num
                all_goals
                  go_wp2_with fail
                  refine (writeByte_of w.heap.size w.heap.size acc 92 92 rfl _ HI2.out (by (try simp only [List.length_append, List.length_cons, List.length_nil]); first | omega | (have := HDL.out; omega)) (by have := HB2.out.size; omega)).mono ?_
                  rintro e w3 ⟨rfl, hi, hb, _⟩
                  have HI3 := Lib.hid hi
                  have HB3 := Lib.hid (HB2.out.trans hb)
                  clear hi hb
                  go_wp2_with fail
                  refine (writeByte_of w.heap.size w.heap.size (acc ++ [92]) _ 34 (by first | rfl | decide) _ HI3.out (by (try simp only [List.length_append, List.length_cons, List.length_nil]); first | omega | (have := HDL.out; omega)) (by have := HB3.out.size; omega)).mono ?_
                  rintro e w4 ⟨rfl, hi, hb, _⟩
                  have HI4 := Lib.hid hi
                  have HB4 := Lib.hid (HB3.out.trans hb)
                  clear hi hb
                  go_wp2_with fail
                  go_roundw
                  case rel => exact ⟨j + 1, false, _, by go_num, by first | rfl | go_num, by omega, HALL.out, by have := HI4.out; first | exact this | (simp only [List.append_assoc, List.cons_append, List.nil_append] at this; exact this), by simp only [List.length_append, List.length_cons, List.length_nil]; first | omega | (have := HDL.out; omega), HST.out, HB4.out⟩
                  case measure => simp [intOf]; omega
              · have HST := Lib.hid (show (acc ++ [92, 92]) ++ bodyW false (L.drop (j + 1)) = 34 :: bodyW false L from by
                  have := HSTEP.out
                  rw [show (num && isD ((92 : Nat) : Int)) = false from by rw [show isD ((92 : Nat) : Int) = false from by decide, Bool.and_false], show pieceW ((92 : Nat) : Int) = [92, 92] from by decide, show isNumW ((92 : Nat) : Int) = false from by decide] at this
                  simpa only [List.append_assoc, List.nil_append, List.cons_append, if_neg (show ¬ (false = true) from by simp)] using this)
                clear HSTEP
                cases num
                all_goals
                  go_wp2_with fail
                  refine (writeByte_of w.heap.size w.heap.size acc 92 92 rfl _ HI2.out (by (try simp only [List.length_append, List.length_cons, List.length_nil]); first | omega | (have := HDL.out; omega)) (by have := HB2.out.size; omega)).mono ?_
                  rintro e w3 ⟨rfl, hi, hb, _⟩
                  have HI3 := Lib.hid hi
                  have HB3 := Lib.hid (HB2.out.trans hb)
                  clear hi hb
                  go_wp2_with fail
                  refine (writeByte_of w.heap.size w.heap.size (acc ++ [92]) _ 92 (by first | rfl | decide) _ HI3.out (by (try simp only [List.length_append, List.length_cons, List.length_nil]); first | omega | (have := HDL.out; omega)) (by have := HB3.out.size; omega)).mono ?_
                  rintro e w4 ⟨rfl, hi, hb, _⟩
                  have HI4 := Lib.hid hi
                  have HB4 := Lib.hid (HB3.out.trans hb)
                  clear hi hb
                  go_wp2_with fail
                  go_roundw
                  case rel => exact ⟨j + 1, false, _, by go_num, by first | rfl | go_num, by omega, HALL.out, by have := HI4.out; first | exact this | (simp only [List.append_assoc, List.cons_append, List.nil_append] at this; exact this), by simp only [List.length_append, List.length_cons, List.length_nil]; first | omega | (have := HDL.out; omega), HST.out, HB4.out⟩
                  case measure => simp [intOf]; omega
            · have hw : isNumW n = false := by unfold isNumW; simp; omega
              have hp : pieceW n = [UInt8.ofNat n] := by unfold pieceW; rw [if_neg (by omega), if_neg (by omega), if_neg (by omega), Int.toNat_natCast]
              have k7 : decide ((7 : Int) ≤ n) = true := by simp; omega
              have k13 : decide ((n : Int) ≤ 13) = false := by simp; omega
              have k32 : decide ((n : Int) < 32) = false := by simp; omega
              have k126 : decide ((126 : Int) < n) = false := by simp; omega
              have k34 : ((n : Int) == 34) = false := beq_eq_false_iff_ne.2 (by omega)
              have k92 : ((n : Int) == 92) = false := beq_eq_false_iff_ne.2 (by omega)
              have m34 : (n == 34) = false := beq_eq_false_iff_ne.2 (by omega)
              have m92 : (n == 92) = false := beq_eq_false_iff_ne.2 (by omega)
              have HWR := Lib.hid (show (n : Int) % 256 = (UInt8.ofNat n).toNat from by rw [UInt8.toNat_ofNat']; omega)
              by_cases c4 : 48 ≤ n ∧ n ≤ 57
              · have hd : isD n = true := by unfold isD; simp; omega
                have k48 : decide ((48 : Int) ≤ n) = true := by simp; omega
                have k57 : decide ((n : Int) ≤ 57) = true := by simp; omega
                cases num
                · have HST := Lib.hid (show (acc ++ [UInt8.ofNat n]) ++ bodyW false (L.drop (j + 1)) = 34 :: bodyW false L from by
                    have := HSTEP.out
                    rw [hp, hw] at this
                    simpa only [List.append_assoc, List.nil_append, List.cons_append, Bool.false_and, if_neg (show ¬ (false = true) from by simp)] using this)
                  clear HSTEP hd hw hp c1 c2 c3 c4
                  go_wp2_with fail
                  refine (writeByte_of w.heap.size w.heap.size acc _ (UInt8.ofNat n) HWR.out _ HI2.out (by (try simp only [List.length_append, List.length_cons, List.length_nil]); first | omega | (have := HDL.out; omega)) (by have := HB2.out.size; omega)).mono ?_
                  rintro e w3 ⟨rfl, hi, hb, _⟩
                  have HI3 := Lib.hid hi
                  have HB3 := Lib.hid (HB2.out.trans hb)
                  clear hi hb
                  go_wp2_with fail
                  go_roundw
                  case rel => exact ⟨j + 1, false, _, by go_num, by first | rfl | go_num, by omega, HALL.out, by have := HI3.out; first | exact this | (simp only [List.append_assoc, List.cons_append, List.nil_append] at this; exact this), by simp only [List.length_append, List.length_cons, List.length_nil]; first | omega | (have := HDL.out; omega), HST.out, HB3.out⟩
                  case measure => simp [intOf]; omega
                · have HST := Lib.hid (show ((acc ++ [92, 38]) ++ [UInt8.ofNat n]) ++ bodyW false (L.drop (j + 1)) = 34 :: bodyW false L from by
                    have := HSTEP.out
                    rw [hp, hw, hd] at this
                    simpa only [List.append_assoc, List.nil_append, List.cons_append, Bool.true_and, if_pos] using this)
                  clear HSTEP hd hw hp c1 c2 c3 c4
                  go_wp2_with fail
                  refine (writeStr_of w.heap.size w.heap.size acc _ [92, 38] rfl _ HI2.out (by simp only [List.length_cons, List.length_nil]; omega) (by have := HB2.out.size; omega)).mono ?_
                  rintro e w3 ⟨rfl, hi, hb, _⟩
                  have HI3 := Lib.hid hi
                  have HB3 := Lib.hid (HB2.out.trans hb)
                  clear hi hb
                  go_wp2_with fail
                  refine (writeByte_of w.heap.size w.heap.size (acc ++ [92, 38]) _ (UInt8.ofNat n) HWR.out _ HI3.out (by (try simp only [List.length_append, List.length_cons, List.length_nil]); first | omega | (have := HDL.out; omega)) (by have := HB3.out.size; omega)).mono ?_
                  rintro e w4 ⟨rfl, hi, hb, _⟩
                  have HI4 := Lib.hid hi
                  have HB4 := Lib.hid (HB3.out.trans hb)
                  clear hi hb
                  go_wp2_with fail
                  go_roundw
                  case rel => exact ⟨j + 1, false, _, by go_num, by first | rfl | go_num, by omega, HALL.out, by have := HI4.out; first | exact this | (simp only [List.append_assoc, List.cons_append, List.nil_append] at this; exact this), by simp only [List.length_append, List.length_cons, List.length_nil]; first | omega | (have := HDL.out; omega), HST.out, HB4.out⟩
                  case measure => simp [intOf]; omega
              · have hd : isD n = false := by unfold isD; simp; omega
                have hq9 : (decide ((48 : Int) ≤ n) = false) ∨ (decide ((48 : Int) ≤ n) = true ∧ decide ((n : Int) ≤ 57) = false) := by
                  by_cases h : 48 ≤ n
                  · exact .inr ⟨by simp; omega, by simp; omega⟩
                  · exact .inl (by simp; omega)
                have HST := Lib.hid (show (acc ++ [UInt8.ofNat n]) ++ bodyW false (L.drop (j + 1)) = 34 :: bodyW false L from by
                  have := HSTEP.out
                  rw [hp, hw, hd] at this
                  simpa only [List.append_assoc, List.nil_append, List.cons_append, Bool.and_false, if_neg (show ¬ (false = true) from by simp)] using this)
                clear HSTEP hd hw hp c1 c2 c3 c4
                rcases hq9 with q9 | ⟨q9, q9b⟩ <;> cases num
                all_goals
                  go_wp2_with fail
                  refine (writeByte_of w.heap.size w.heap.size acc _ (UInt8.ofNat n) HWR.out _ HI2.out (by (try simp only [List.length_append, List.length_cons, List.length_nil]); first | omega | (have := HDL.out; omega)) (by have := HB2.out.size; omega)).mono ?_
                  rintro e w3 ⟨rfl, hi, hb, _⟩
                  have HI3 := Lib.hid hi
                  have HB3 := Lib.hid (HB2.out.trans hb)
                  clear hi hb
                  go_wp2_with fail
                  go_roundw
                  case rel => exact ⟨j + 1, false, _, by go_num, by first | rfl | go_num, by omega, HALL.out, by have := HI3.out; first | exact this | (simp only [List.append_assoc, List.cons_append, List.nil_append] at this; exact this), by simp only [List.length_append, List.length_cons, List.length_nil]; first | omega | (have := HDL.out; omega), HST.out, HB3.out⟩
                  case measure => simp [intOf]; omega
      · have hbad : decide (c < 0) = true ∨ (decide (c < 0) = false ∧ decide (1114111 < c) = true) := by
          unfold inW at hin
          by_cases h : c < 0
          · exact .inl (decide_eq_true h)
          · refine .inr ⟨decide_eq_false h, decide_eq_true ?_⟩
            simp at hin
            omega
        have HR2 := Lib.hid (show R = ([], 1) from by
          rw [← HR.out]
          unfold writeX writeP
          rw [if_neg (fun h => hin (List.all_eq_true.1 h c hmem))])
        clear hdrop htake hmem hin hc
        rcases hbad with k1 | ⟨k1, k2⟩
        all_goals
          go_wp2_with fail
          go_ret2
          exact ⟨by rw [HR2.out]; rfl, HB2.out⟩
    · have hj' : j = L.length := by omega
      have hst := HSZ.out
      rw [List.drop_of_length_le (by omega)] at hst
      have hacc : acc = 34 :: bodyW false L := by rw [← hst]; show acc = acc ++ []; rw [List.append_nil]
      have hall2 : L.all inW = true := by have := HA0.out; rwa [hj', List.take_length] at this
      have HR2 := Lib.hid (show R = (acc ++ [34], 0) from by
        rw [← HR.out, hacc]
        unfold writeX writeP
        rw [if_pos hall2]
        rfl)
      clear hst hacc hall2 hj'
      go_wp2_with fail
      refine (writeByte_of w.heap.size w.heap.size acc 34 34 rfl _ HI2.out (by (try simp only [List.length_append, List.length_cons, List.length_nil]); first | omega | (have := HDL.out; omega)) (by have := HB2.out.size; omega)).mono ?_
      rintro e w3 ⟨rfl, hi, hb, _⟩
      have HI3 := Lib.hid hi
      have HB3 := Lib.hid (HB2.out.trans hb)
      clear hi hb
      go_wp2_with fail
      refine (bString_any w.heap.size w.heap.size _ _ HI3.out (by have := HB3.out.size; omega)).mono ?_
      rintro e w4 ⟨rfl, _, hb, _⟩
      have HB4 := Lib.hid (HB3.out.trans hb)
      clear hb
      go_wp2_with fail
      go_ret2
      exact ⟨by rw [HR2.out]; rfl, HB4.out⟩
end Go.Proofs.YtmgnpgbganjgfaaDoor
