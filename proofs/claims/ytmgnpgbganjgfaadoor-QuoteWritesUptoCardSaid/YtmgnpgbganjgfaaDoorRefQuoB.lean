/- DERIVED. The walk of the document's Write. -/
import Derived.Test.YtmgnpgbganjgfaaDoorQuoB
import Derived.Test.YtmgnpgbganjgfaaDoorRefQuoA
set_option linter.unusedSimpArgs false
set_option linter.unusedVariables false
namespace Go.Proofs.YtmgnpgbganjgfaaDoor
open Go.RowKit

set_option maxRecDepth 20000 in
set_option maxHeartbeats 16000000 in
theorem refWrite_any (v : Value) (L : List Int) (w : World) (hL : IntsAt w v L) (hlen : L.length ≤ 1048576) :
    Calls Tryd.prog 17 #[v] w fun e w' => e = .returned (textV (writeX L)) ∧ Below w.heap.size w w' := by
  obtain ⟨a, cap, rfl, hcell⟩ := hL
  have HC := Lib.hid hcell
  obtain ⟨R, hR⟩ : ∃ R, writeX L = R := ⟨_, rfl⟩
  rw [hR]
  have HR := Lib.hid hR
  have HI0 := Lib.hid (Buf.nil w.heap.size w w (Below.refl _ _) (Nat.le_refl _))
  clear hcell hR
  go_enter Tryd.func17, Tryd.ntmps17
  go_wp2_with ((at_builtin; refine buf_add rfl _ _ rfl w.heap.size _ [] [34] ?hs101 w _ HI0.out _ ?hc101 1 rfl ?gg101 ?hh101 ?hx101 (by (try simp only [List.length_append, List.length_cons, List.length_nil]); first | omega | (have := HDL.out; omega)) ?_; (case hs101 => rfl); (case hx101 => rfl); (case hc101 => rfl); (case hh101 => first | rfl | simp); rintro v1 w1 hI1 _; have HI1 := Lib.hid hI1; clear hI1))
  go_loopw [4, 5, 6] (fun bv nv jv wr => ∃ (j : Nat) (num : Bool) (acc : List UInt8), jv = .int .i64 (j : Int) ∧ nv = .bool num ∧ j ≤ L.length ∧ (L.take j).all inW = true ∧ Buf w.heap.size bv acc w wr ∧ acc.length ≤ 1 + 12 * j ∧ acc ++ bodyW num (L.drop j) = 34 :: bodyW false L) (fun _ _ jv _ => L.length - (intOf jv).toNat)
  case atStart => exact ⟨0, false, _, rfl, rfl, Nat.zero_le _, rfl, HI1.out, by simp, rfl⟩
  case round =>
    obtain ⟨j, num, acc, rfl, rfl, hj, hall, hI, hal, hst⟩ := hrel
    have HI2 := Lib.hid hI
    have HB2 := Lib.hid hI.below
    have HSZ := Lib.hid hst
    have HA0 := Lib.hid hall
    clear hI hst hall
    by_cases hjl : j < L.length
    · have t0 : decide ((j : Int) < L.length) = true := by simp; omega
      obtain ⟨b, o, rfl, hbl, hlc, hcl⟩ := HC.out (by omega)
      obtain ⟨c, hc⟩ : ∃ c, L[j]? = some c := ⟨_, List.getElem?_eq_getElem hjl⟩
      have e0 : wr.cell? ⟨b, o + j, none⟩ = some (.int .i64 c) := by rw [HB2.out.cell (by exact hbl)]; exact hcl j c hc
      have hdrop : L.drop j = c :: L.drop (j + 1) := by
        have := (List.getElem?_eq_some_iff.1 hc).2
        rw [List.drop_eq_getElem_cons hjl, this]
      have htake : L.take (j + 1) = L.take j ++ [c] := by
        have := (List.getElem?_eq_some_iff.1 hc).2
        rw [List.take_succ_eq_append_getElem hjl, this]
      have hmem : c ∈ L := List.mem_of_getElem? hc
      clear hcl
      by_cases hin : inW c = true
      · have hin2 := hin
        unfold inW at hin2
        simp only [Bool.and_eq_true, decide_eq_true_eq] at hin2
        obtain ⟨n, rfl⟩ := Int.eq_ofNat_of_zero_le hin2.1
        have k1 : decide ((n : Int) < 0) = false := by simp
        have k2 : decide ((1114111 : Int) < n) = false := by simp; omega
        have HALL := Lib.hid (show (L.take (j + 1)).all inW = true from by rw [htake, List.all_append, HA0.out]; simp [hin])
        have hstep := HSZ.out
        rw [hdrop] at hstep
        rw [show bodyW num ((n : Int) :: L.drop (j + 1)) = (if (num && isD n) = true then [92, 38] else []) ++ pieceW n ++ bodyW (isNumW n) (L.drop (j + 1)) from rfl] at hstep
        have HSTEP := Lib.hid hstep
        clear hstep hdrop htake hmem hin hc
        by_cases c1 : 7 ≤ n ∧ n ≤ 13
        · have hcs : n = 7 ∨ n = 8 ∨ n = 9 ∨ n = 10 ∨ n = 11 ∨ n = 12 ∨ n = 13 := by omega
          clear c1
          rcases hcs with rfl | rfl | rfl | rfl | rfl | rfl | rfl
          · have HST := Lib.hid (show (acc ++ [92, 97]) ++ bodyW false (L.drop (j + 1)) = 34 :: bodyW false L from by
              have := HSTEP.out
              rw [show (num && isD ((7 : Nat) : Int)) = false from by rw [show isD ((7 : Nat) : Int) = false from by decide, Bool.and_false], show isNumW ((7 : Nat) : Int) = false from by decide, show pieceW ((7 : Nat) : Int) = [92, 97] from by decide] at this
              simpa only [List.append_assoc, List.nil_append, List.cons_append, Bool.false_and, Bool.true_and, Bool.and_false, if_pos, if_neg (show ¬ (false = true) from by simp)] using this)
            clear HSTEP
            cases num
            · go_wp2_with (first | (at_builtin; refine buf_add rfl _ _ rfl w.heap.size _ (acc ++ [92]) [97] ?hs102 w _ HI3.out _ ?hc102 1 rfl ?gg102 ?hh102 ?hx102 (by (try simp only [List.length_append, List.length_cons, List.length_nil]); first | omega | (have := HDL.out; omega)) ?_; (case hs102 => rfl); (case hx102 => rfl); (case hc102 => rfl); (case hh102 => first | rfl | simp); rintro v4 w4 hI4 _; have HI4 := Lib.hid hI4; clear hI4) | (at_builtin; refine buf_add rfl _ _ rfl w.heap.size _ acc [92] ?hs103 w _ HI2.out _ ?hc103 1 rfl ?gg103 ?hh103 ?hx103 (by (try simp only [List.length_append, List.length_cons, List.length_nil]); first | omega | (have := HDL.out; omega)) ?_; (case hs103 => rfl); (case hx103 => rfl); (case hc103 => rfl); (case hh103 => first | rfl | simp); rintro v3 w3 hI3 _; have HI3 := Lib.hid hI3; clear hI3))
              go_roundw
              case rel => exact ⟨j + 1, false, _, by go_num, by first | rfl | go_num, by omega, HALL.out, by have := HI4.out; first | exact this | (simp only [List.append_assoc, List.cons_append, List.nil_append] at this; exact this), by (try simp only [List.length_append, List.length_cons, List.length_nil]); first | omega | (have := HDL.out; omega), HST.out⟩
              case measure => simp [intOf]; omega
            · go_wp2_with (first | (at_builtin; refine buf_add rfl _ _ rfl w.heap.size _ (acc ++ [92]) [97] ?hs104 w _ HI3.out _ ?hc104 1 rfl ?gg104 ?hh104 ?hx104 (by (try simp only [List.length_append, List.length_cons, List.length_nil]); first | omega | (have := HDL.out; omega)) ?_; (case hs104 => rfl); (case hx104 => rfl); (case hc104 => rfl); (case hh104 => first | rfl | simp); rintro v4 w4 hI4 _; have HI4 := Lib.hid hI4; clear hI4) | (at_builtin; refine buf_add rfl _ _ rfl w.heap.size _ acc [92] ?hs105 w _ HI2.out _ ?hc105 1 rfl ?gg105 ?hh105 ?hx105 (by (try simp only [List.length_append, List.length_cons, List.length_nil]); first | omega | (have := HDL.out; omega)) ?_; (case hs105 => rfl); (case hx105 => rfl); (case hc105 => rfl); (case hh105 => first | rfl | simp); rintro v3 w3 hI3 _; have HI3 := Lib.hid hI3; clear hI3))
              go_roundw
              case rel => exact ⟨j + 1, false, _, by go_num, by first | rfl | go_num, by omega, HALL.out, by have := HI4.out; first | exact this | (simp only [List.append_assoc, List.cons_append, List.nil_append] at this; exact this), by (try simp only [List.length_append, List.length_cons, List.length_nil]); first | omega | (have := HDL.out; omega), HST.out⟩
              case measure => simp [intOf]; omega
          · have HST := Lib.hid (show (acc ++ [92, 98]) ++ bodyW false (L.drop (j + 1)) = 34 :: bodyW false L from by
              have := HSTEP.out
              rw [show (num && isD ((8 : Nat) : Int)) = false from by rw [show isD ((8 : Nat) : Int) = false from by decide, Bool.and_false], show isNumW ((8 : Nat) : Int) = false from by decide, show pieceW ((8 : Nat) : Int) = [92, 98] from by decide] at this
              simpa only [List.append_assoc, List.nil_append, List.cons_append, Bool.false_and, Bool.true_and, Bool.and_false, if_pos, if_neg (show ¬ (false = true) from by simp)] using this)
            clear HSTEP
            cases num
            · go_wp2_with (first | (at_builtin; refine buf_add rfl _ _ rfl w.heap.size _ (acc ++ [92]) [98] ?hs106 w _ HI3.out _ ?hc106 1 rfl ?gg106 ?hh106 ?hx106 (by (try simp only [List.length_append, List.length_cons, List.length_nil]); first | omega | (have := HDL.out; omega)) ?_; (case hs106 => rfl); (case hx106 => rfl); (case hc106 => rfl); (case hh106 => first | rfl | simp); rintro v4 w4 hI4 _; have HI4 := Lib.hid hI4; clear hI4) | (at_builtin; refine buf_add rfl _ _ rfl w.heap.size _ acc [92] ?hs107 w _ HI2.out _ ?hc107 1 rfl ?gg107 ?hh107 ?hx107 (by (try simp only [List.length_append, List.length_cons, List.length_nil]); first | omega | (have := HDL.out; omega)) ?_; (case hs107 => rfl); (case hx107 => rfl); (case hc107 => rfl); (case hh107 => first | rfl | simp); rintro v3 w3 hI3 _; have HI3 := Lib.hid hI3; clear hI3))
              go_roundw
              case rel => exact ⟨j + 1, false, _, by go_num, by first | rfl | go_num, by omega, HALL.out, by have := HI4.out; first | exact this | (simp only [List.append_assoc, List.cons_append, List.nil_append] at this; exact this), by (try simp only [List.length_append, List.length_cons, List.length_nil]); first | omega | (have := HDL.out; omega), HST.out⟩
              case measure => simp [intOf]; omega
            · go_wp2_with (first | (at_builtin; refine buf_add rfl _ _ rfl w.heap.size _ (acc ++ [92]) [98] ?hs108 w _ HI3.out _ ?hc108 1 rfl ?gg108 ?hh108 ?hx108 (by (try simp only [List.length_append, List.length_cons, List.length_nil]); first | omega | (have := HDL.out; omega)) ?_; (case hs108 => rfl); (case hx108 => rfl); (case hc108 => rfl); (case hh108 => first | rfl | simp); rintro v4 w4 hI4 _; have HI4 := Lib.hid hI4; clear hI4) | (at_builtin; refine buf_add rfl _ _ rfl w.heap.size _ acc [92] ?hs109 w _ HI2.out _ ?hc109 1 rfl ?gg109 ?hh109 ?hx109 (by (try simp only [List.length_append, List.length_cons, List.length_nil]); first | omega | (have := HDL.out; omega)) ?_; (case hs109 => rfl); (case hx109 => rfl); (case hc109 => rfl); (case hh109 => first | rfl | simp); rintro v3 w3 hI3 _; have HI3 := Lib.hid hI3; clear hI3))
              go_roundw
              case rel => exact ⟨j + 1, false, _, by go_num, by first | rfl | go_num, by omega, HALL.out, by have := HI4.out; first | exact this | (simp only [List.append_assoc, List.cons_append, List.nil_append] at this; exact this), by (try simp only [List.length_append, List.length_cons, List.length_nil]); first | omega | (have := HDL.out; omega), HST.out⟩
              case measure => simp [intOf]; omega
          · have HST := Lib.hid (show (acc ++ [92, 116]) ++ bodyW false (L.drop (j + 1)) = 34 :: bodyW false L from by
              have := HSTEP.out
              rw [show (num && isD ((9 : Nat) : Int)) = false from by rw [show isD ((9 : Nat) : Int) = false from by decide, Bool.and_false], show isNumW ((9 : Nat) : Int) = false from by decide, show pieceW ((9 : Nat) : Int) = [92, 116] from by decide] at this
              simpa only [List.append_assoc, List.nil_append, List.cons_append, Bool.false_and, Bool.true_and, Bool.and_false, if_pos, if_neg (show ¬ (false = true) from by simp)] using this)
            clear HSTEP
            cases num
            · go_wp2_with (first | (at_builtin; refine buf_add rfl _ _ rfl w.heap.size _ (acc ++ [92]) [116] ?hs110 w _ HI3.out _ ?hc110 1 rfl ?gg110 ?hh110 ?hx110 (by (try simp only [List.length_append, List.length_cons, List.length_nil]); first | omega | (have := HDL.out; omega)) ?_; (case hs110 => rfl); (case hx110 => rfl); (case hc110 => rfl); (case hh110 => first | rfl | simp); rintro v4 w4 hI4 _; have HI4 := Lib.hid hI4; clear hI4) | (at_builtin; refine buf_add rfl _ _ rfl w.heap.size _ acc [92] ?hs111 w _ HI2.out _ ?hc111 1 rfl ?gg111 ?hh111 ?hx111 (by (try simp only [List.length_append, List.length_cons, List.length_nil]); first | omega | (have := HDL.out; omega)) ?_; (case hs111 => rfl); (case hx111 => rfl); (case hc111 => rfl); (case hh111 => first | rfl | simp); rintro v3 w3 hI3 _; have HI3 := Lib.hid hI3; clear hI3))
              go_roundw
              case rel => exact ⟨j + 1, false, _, by go_num, by first | rfl | go_num, by omega, HALL.out, by have := HI4.out; first | exact this | (simp only [List.append_assoc, List.cons_append, List.nil_append] at this; exact this), by (try simp only [List.length_append, List.length_cons, List.length_nil]); first | omega | (have := HDL.out; omega), HST.out⟩
              case measure => simp [intOf]; omega
            · go_wp2_with (first | (at_builtin; refine buf_add rfl _ _ rfl w.heap.size _ (acc ++ [92]) [116] ?hs112 w _ HI3.out _ ?hc112 1 rfl ?gg112 ?hh112 ?hx112 (by (try simp only [List.length_append, List.length_cons, List.length_nil]); first | omega | (have := HDL.out; omega)) ?_; (case hs112 => rfl); (case hx112 => rfl); (case hc112 => rfl); (case hh112 => first | rfl | simp); rintro v4 w4 hI4 _; have HI4 := Lib.hid hI4; clear hI4) | (at_builtin; refine buf_add rfl _ _ rfl w.heap.size _ acc [92] ?hs113 w _ HI2.out _ ?hc113 1 rfl ?gg113 ?hh113 ?hx113 (by (try simp only [List.length_append, List.length_cons, List.length_nil]); first | omega | (have := HDL.out; omega)) ?_; (case hs113 => rfl); (case hx113 => rfl); (case hc113 => rfl); (case hh113 => first | rfl | simp); rintro v3 w3 hI3 _; have HI3 := Lib.hid hI3; clear hI3))
              go_roundw
              case rel => exact ⟨j + 1, false, _, by go_num, by first | rfl | go_num, by omega, HALL.out, by have := HI4.out; first | exact this | (simp only [List.append_assoc, List.cons_append, List.nil_append] at this; exact this), by (try simp only [List.length_append, List.length_cons, List.length_nil]); first | omega | (have := HDL.out; omega), HST.out⟩
              case measure => simp [intOf]; omega
          · have HST := Lib.hid (show (acc ++ [92, 110]) ++ bodyW false (L.drop (j + 1)) = 34 :: bodyW false L from by
              have := HSTEP.out
              rw [show (num && isD ((10 : Nat) : Int)) = false from by rw [show isD ((10 : Nat) : Int) = false from by decide, Bool.and_false], show isNumW ((10 : Nat) : Int) = false from by decide, show pieceW ((10 : Nat) : Int) = [92, 110] from by decide] at this
              simpa only [List.append_assoc, List.nil_append, List.cons_append, Bool.false_and, Bool.true_and, Bool.and_false, if_pos, if_neg (show ¬ (false = true) from by simp)] using this)
            clear HSTEP
            cases num
            · go_wp2_with (first | (at_builtin; refine buf_add rfl _ _ rfl w.heap.size _ (acc ++ [92]) [110] ?hs114 w _ HI3.out _ ?hc114 1 rfl ?gg114 ?hh114 ?hx114 (by (try simp only [List.length_append, List.length_cons, List.length_nil]); first | omega | (have := HDL.out; omega)) ?_; (case hs114 => rfl); (case hx114 => rfl); (case hc114 => rfl); (case hh114 => first | rfl | simp); rintro v4 w4 hI4 _; have HI4 := Lib.hid hI4; clear hI4) | (at_builtin; refine buf_add rfl _ _ rfl w.heap.size _ acc [92] ?hs115 w _ HI2.out _ ?hc115 1 rfl ?gg115 ?hh115 ?hx115 (by (try simp only [List.length_append, List.length_cons, List.length_nil]); first | omega | (have := HDL.out; omega)) ?_; (case hs115 => rfl); (case hx115 => rfl); (case hc115 => rfl); (case hh115 => first | rfl | simp); rintro v3 w3 hI3 _; have HI3 := Lib.hid hI3; clear hI3))
              go_roundw
              case rel => exact ⟨j + 1, false, _, by go_num, by first | rfl | go_num, by omega, HALL.out, by have := HI4.out; first | exact this | (simp only [List.append_assoc, List.cons_append, List.nil_append] at this; exact this), by (try simp only [List.length_append, List.length_cons, List.length_nil]); first | omega | (have := HDL.out; omega), HST.out⟩
              case measure => simp [intOf]; omega
            · go_wp2_with (first | (at_builtin; refine buf_add rfl _ _ rfl w.heap.size _ (acc ++ [92]) [110] ?hs116 w _ HI3.out _ ?hc116 1 rfl ?gg116 ?hh116 ?hx116 (by (try simp only [List.length_append, List.length_cons, List.length_nil]); first | omega | (have := HDL.out; omega)) ?_; (case hs116 => rfl); (case hx116 => rfl); (case hc116 => rfl); (case hh116 => first | rfl | simp); rintro v4 w4 hI4 _; have HI4 := Lib.hid hI4; clear hI4) | (at_builtin; refine buf_add rfl _ _ rfl w.heap.size _ acc [92] ?hs117 w _ HI2.out _ ?hc117 1 rfl ?gg117 ?hh117 ?hx117 (by (try simp only [List.length_append, List.length_cons, List.length_nil]); first | omega | (have := HDL.out; omega)) ?_; (case hs117 => rfl); (case hx117 => rfl); (case hc117 => rfl); (case hh117 => first | rfl | simp); rintro v3 w3 hI3 _; have HI3 := Lib.hid hI3; clear hI3))
              go_roundw
              case rel => exact ⟨j + 1, false, _, by go_num, by first | rfl | go_num, by omega, HALL.out, by have := HI4.out; first | exact this | (simp only [List.append_assoc, List.cons_append, List.nil_append] at this; exact this), by (try simp only [List.length_append, List.length_cons, List.length_nil]); first | omega | (have := HDL.out; omega), HST.out⟩
              case measure => simp [intOf]; omega
          · have HST := Lib.hid (show (acc ++ [92, 118]) ++ bodyW false (L.drop (j + 1)) = 34 :: bodyW false L from by
              have := HSTEP.out
              rw [show (num && isD ((11 : Nat) : Int)) = false from by rw [show isD ((11 : Nat) : Int) = false from by decide, Bool.and_false], show isNumW ((11 : Nat) : Int) = false from by decide, show pieceW ((11 : Nat) : Int) = [92, 118] from by decide] at this
              simpa only [List.append_assoc, List.nil_append, List.cons_append, Bool.false_and, Bool.true_and, Bool.and_false, if_pos, if_neg (show ¬ (false = true) from by simp)] using this)
            clear HSTEP
            cases num
            · go_wp2_with (first | (at_builtin; refine buf_add rfl _ _ rfl w.heap.size _ (acc ++ [92]) [118] ?hs118 w _ HI3.out _ ?hc118 1 rfl ?gg118 ?hh118 ?hx118 (by (try simp only [List.length_append, List.length_cons, List.length_nil]); first | omega | (have := HDL.out; omega)) ?_; (case hs118 => rfl); (case hx118 => rfl); (case hc118 => rfl); (case hh118 => first | rfl | simp); rintro v4 w4 hI4 _; have HI4 := Lib.hid hI4; clear hI4) | (at_builtin; refine buf_add rfl _ _ rfl w.heap.size _ acc [92] ?hs119 w _ HI2.out _ ?hc119 1 rfl ?gg119 ?hh119 ?hx119 (by (try simp only [List.length_append, List.length_cons, List.length_nil]); first | omega | (have := HDL.out; omega)) ?_; (case hs119 => rfl); (case hx119 => rfl); (case hc119 => rfl); (case hh119 => first | rfl | simp); rintro v3 w3 hI3 _; have HI3 := Lib.hid hI3; clear hI3))
              go_roundw
              case rel => exact ⟨j + 1, false, _, by go_num, by first | rfl | go_num, by omega, HALL.out, by have := HI4.out; first | exact this | (simp only [List.append_assoc, List.cons_append, List.nil_append] at this; exact this), by (try simp only [List.length_append, List.length_cons, List.length_nil]); first | omega | (have := HDL.out; omega), HST.out⟩
              case measure => simp [intOf]; omega
            · go_wp2_with (first | (at_builtin; refine buf_add rfl _ _ rfl w.heap.size _ (acc ++ [92]) [118] ?hs120 w _ HI3.out _ ?hc120 1 rfl ?gg120 ?hh120 ?hx120 (by (try simp only [List.length_append, List.length_cons, List.length_nil]); first | omega | (have := HDL.out; omega)) ?_; (case hs120 => rfl); (case hx120 => rfl); (case hc120 => rfl); (case hh120 => first | rfl | simp); rintro v4 w4 hI4 _; have HI4 := Lib.hid hI4; clear hI4) | (at_builtin; refine buf_add rfl _ _ rfl w.heap.size _ acc [92] ?hs121 w _ HI2.out _ ?hc121 1 rfl ?gg121 ?hh121 ?hx121 (by (try simp only [List.length_append, List.length_cons, List.length_nil]); first | omega | (have := HDL.out; omega)) ?_; (case hs121 => rfl); (case hx121 => rfl); (case hc121 => rfl); (case hh121 => first | rfl | simp); rintro v3 w3 hI3 _; have HI3 := Lib.hid hI3; clear hI3))
              go_roundw
              case rel => exact ⟨j + 1, false, _, by go_num, by first | rfl | go_num, by omega, HALL.out, by have := HI4.out; first | exact this | (simp only [List.append_assoc, List.cons_append, List.nil_append] at this; exact this), by (try simp only [List.length_append, List.length_cons, List.length_nil]); first | omega | (have := HDL.out; omega), HST.out⟩
              case measure => simp [intOf]; omega
          · have HST := Lib.hid (show (acc ++ [92, 102]) ++ bodyW false (L.drop (j + 1)) = 34 :: bodyW false L from by
              have := HSTEP.out
              rw [show (num && isD ((12 : Nat) : Int)) = false from by rw [show isD ((12 : Nat) : Int) = false from by decide, Bool.and_false], show isNumW ((12 : Nat) : Int) = false from by decide, show pieceW ((12 : Nat) : Int) = [92, 102] from by decide] at this
              simpa only [List.append_assoc, List.nil_append, List.cons_append, Bool.false_and, Bool.true_and, Bool.and_false, if_pos, if_neg (show ¬ (false = true) from by simp)] using this)
            clear HSTEP
            cases num
            · go_wp2_with (first | (at_builtin; refine buf_add rfl _ _ rfl w.heap.size _ (acc ++ [92]) [102] ?hs122 w _ HI3.out _ ?hc122 1 rfl ?gg122 ?hh122 ?hx122 (by (try simp only [List.length_append, List.length_cons, List.length_nil]); first | omega | (have := HDL.out; omega)) ?_; (case hs122 => rfl); (case hx122 => rfl); (case hc122 => rfl); (case hh122 => first | rfl | simp); rintro v4 w4 hI4 _; have HI4 := Lib.hid hI4; clear hI4) | (at_builtin; refine buf_add rfl _ _ rfl w.heap.size _ acc [92] ?hs123 w _ HI2.out _ ?hc123 1 rfl ?gg123 ?hh123 ?hx123 (by (try simp only [List.length_append, List.length_cons, List.length_nil]); first | omega | (have := HDL.out; omega)) ?_; (case hs123 => rfl); (case hx123 => rfl); (case hc123 => rfl); (case hh123 => first | rfl | simp); rintro v3 w3 hI3 _; have HI3 := Lib.hid hI3; clear hI3))
              go_roundw
              case rel => exact ⟨j + 1, false, _, by go_num, by first | rfl | go_num, by omega, HALL.out, by have := HI4.out; first | exact this | (simp only [List.append_assoc, List.cons_append, List.nil_append] at this; exact this), by (try simp only [List.length_append, List.length_cons, List.length_nil]); first | omega | (have := HDL.out; omega), HST.out⟩
              case measure => simp [intOf]; omega
            · go_wp2_with (first | (at_builtin; refine buf_add rfl _ _ rfl w.heap.size _ (acc ++ [92]) [102] ?hs124 w _ HI3.out _ ?hc124 1 rfl ?gg124 ?hh124 ?hx124 (by (try simp only [List.length_append, List.length_cons, List.length_nil]); first | omega | (have := HDL.out; omega)) ?_; (case hs124 => rfl); (case hx124 => rfl); (case hc124 => rfl); (case hh124 => first | rfl | simp); rintro v4 w4 hI4 _; have HI4 := Lib.hid hI4; clear hI4) | (at_builtin; refine buf_add rfl _ _ rfl w.heap.size _ acc [92] ?hs125 w _ HI2.out _ ?hc125 1 rfl ?gg125 ?hh125 ?hx125 (by (try simp only [List.length_append, List.length_cons, List.length_nil]); first | omega | (have := HDL.out; omega)) ?_; (case hs125 => rfl); (case hx125 => rfl); (case hc125 => rfl); (case hh125 => first | rfl | simp); rintro v3 w3 hI3 _; have HI3 := Lib.hid hI3; clear hI3))
              go_roundw
              case rel => exact ⟨j + 1, false, _, by go_num, by first | rfl | go_num, by omega, HALL.out, by have := HI4.out; first | exact this | (simp only [List.append_assoc, List.cons_append, List.nil_append] at this; exact this), by (try simp only [List.length_append, List.length_cons, List.length_nil]); first | omega | (have := HDL.out; omega), HST.out⟩
              case measure => simp [intOf]; omega
          · have HST := Lib.hid (show (acc ++ [92, 114]) ++ bodyW false (L.drop (j + 1)) = 34 :: bodyW false L from by
              have := HSTEP.out
              rw [show (num && isD ((13 : Nat) : Int)) = false from by rw [show isD ((13 : Nat) : Int) = false from by decide, Bool.and_false], show isNumW ((13 : Nat) : Int) = false from by decide, show pieceW ((13 : Nat) : Int) = [92, 114] from by decide] at this
              simpa only [List.append_assoc, List.nil_append, List.cons_append, Bool.false_and, Bool.true_and, Bool.and_false, if_pos, if_neg (show ¬ (false = true) from by simp)] using this)
            clear HSTEP
            cases num
            · go_wp2_with (first | (at_builtin; refine buf_add rfl _ _ rfl w.heap.size _ (acc ++ [92]) [114] ?hs126 w _ HI3.out _ ?hc126 1 rfl ?gg126 ?hh126 ?hx126 (by (try simp only [List.length_append, List.length_cons, List.length_nil]); first | omega | (have := HDL.out; omega)) ?_; (case hs126 => rfl); (case hx126 => rfl); (case hc126 => rfl); (case hh126 => first | rfl | simp); rintro v4 w4 hI4 _; have HI4 := Lib.hid hI4; clear hI4) | (at_builtin; refine buf_add rfl _ _ rfl w.heap.size _ acc [92] ?hs127 w _ HI2.out _ ?hc127 1 rfl ?gg127 ?hh127 ?hx127 (by (try simp only [List.length_append, List.length_cons, List.length_nil]); first | omega | (have := HDL.out; omega)) ?_; (case hs127 => rfl); (case hx127 => rfl); (case hc127 => rfl); (case hh127 => first | rfl | simp); rintro v3 w3 hI3 _; have HI3 := Lib.hid hI3; clear hI3))
              go_roundw
              case rel => exact ⟨j + 1, false, _, by go_num, by first | rfl | go_num, by omega, HALL.out, by have := HI4.out; first | exact this | (simp only [List.append_assoc, List.cons_append, List.nil_append] at this; exact this), by (try simp only [List.length_append, List.length_cons, List.length_nil]); first | omega | (have := HDL.out; omega), HST.out⟩
              case measure => simp [intOf]; omega
            · go_wp2_with (first | (at_builtin; refine buf_add rfl _ _ rfl w.heap.size _ (acc ++ [92]) [114] ?hs128 w _ HI3.out _ ?hc128 1 rfl ?gg128 ?hh128 ?hx128 (by (try simp only [List.length_append, List.length_cons, List.length_nil]); first | omega | (have := HDL.out; omega)) ?_; (case hs128 => rfl); (case hx128 => rfl); (case hc128 => rfl); (case hh128 => first | rfl | simp); rintro v4 w4 hI4 _; have HI4 := Lib.hid hI4; clear hI4) | (at_builtin; refine buf_add rfl _ _ rfl w.heap.size _ acc [92] ?hs129 w _ HI2.out _ ?hc129 1 rfl ?gg129 ?hh129 ?hx129 (by (try simp only [List.length_append, List.length_cons, List.length_nil]); first | omega | (have := HDL.out; omega)) ?_; (case hs129 => rfl); (case hx129 => rfl); (case hc129 => rfl); (case hh129 => first | rfl | simp); rintro v3 w3 hI3 _; have HI3 := Lib.hid hI3; clear hI3))
              go_roundw
              case rel => exact ⟨j + 1, false, _, by go_num, by first | rfl | go_num, by omega, HALL.out, by have := HI4.out; first | exact this | (simp only [List.append_assoc, List.cons_append, List.nil_append] at this; exact this), by (try simp only [List.length_append, List.length_cons, List.length_nil]); first | omega | (have := HDL.out; omega), HST.out⟩
              case measure => simp [intOf]; omega
        · by_cases c2 : n < 32 ∨ 126 < n
          · have hd : isD n = false := by unfold isD; simp; omega
            have hw : isNumW n = true := by unfold isNumW; simp; omega
            have hp : pieceW n = 92 :: Lib.decDigits n := by unfold pieceW; rw [if_neg (by omega), if_pos (by omega), Int.toNat_natCast]
            have HST := Lib.hid (show (acc ++ (92 :: Lib.decDigits n)) ++ bodyW true (L.drop (j + 1)) = 34 :: bodyW false L from by
              have := HSTEP.out
              rw [hd, Bool.and_false, hp, hw] at this
              simpa only [List.append_assoc, List.nil_append, List.cons_append, Bool.false_and, Bool.true_and, Bool.and_false, if_pos, if_neg (show ¬ (false = true) from by simp)] using this)
            have HDL := Lib.hid (dec_len7 7 n (by omega) (by omega))
            have hds : (⟨(Lib.decDigits n).toArray⟩ : ByteArray).size = (Lib.decDigits n).length := by simp only [ByteArray.size, List.size_toArray]
            have I1 := Lib.hid fun w => refDecimal_any n n w (Nat.le_refl _) (by omega)
            have hq7 : (decide ((7 : Int) ≤ n) = false) ∨ (decide ((7 : Int) ≤ n) = true ∧ decide ((n : Int) ≤ 13) = false) := by
              by_cases h : 7 ≤ n
              · exact .inr ⟨by simp; omega, by simp; omega⟩
              · exact .inl (by simp; omega)
            have hq8 : (decide ((n : Int) < 32) = true) ∨ (decide ((n : Int) < 32) = false ∧ decide ((126 : Int) < n) = true) := by
              by_cases h : n < 32
              · exact .inl (by simp; omega)
              · exact .inr ⟨by simp; omega, by simp; omega⟩
            have HHD := Lib.hid hds
            generalize hDD : (⟨(Lib.decDigits n).toArray⟩ : ByteArray) = D at *
            have HDD := Lib.hid (show D.data.toList = Lib.decDigits n from by rw [← hDD])
            clear HSTEP hd hw hp c1 c2 hDD hds
            generalize Lib.decDigits n = dd at *
            cases num
            all_goals
              rcases hq7 with q7 | ⟨q7, q7b⟩ <;> rcases hq8 with q8 | ⟨q8, q8b⟩
              all_goals first
                | (exfalso; simp only [decide_eq_true_eq, decide_eq_false_iff_not] at *; omega)
                | skip
            · go_wp2_with ((at_builtin; refine buf_add rfl _ _ rfl w.heap.size _ acc [92] ?hs130 w _ HI2.out _ ?hc130 1 rfl ?gg130 ?hh130 ?hx130 (by (try simp only [List.length_append, List.length_cons, List.length_nil]); first | omega | (have := HDL.out; omega)) ?_; (case hs130 => rfl); (case hx130 => rfl); (case hc130 => rfl); (case hh130 => first | rfl | simp); rintro v3 w3 hI3 _; have HI3 := Lib.hid hI3; clear hI3))
              refine (I1.out _).mono ?_
              rintro e w4 ⟨rfl, q4, rfl⟩
              have HI4 := Lib.hid (HI3.out.drewN q4)
              clear HI3
              go_wp2_with ((at_builtin; refine buf_text rfl _ _ rfl w.heap.size _ (acc ++ [92]) ?hs131 w _ HI4.out D ?hx131 (by rw [HHD.out]; simp only [List.length_append, List.length_cons, List.length_nil]; have := HDL.out; omega) ?_; (case hs131 => rfl); (case hx131 => rfl); rintro v5 w5 hI5 _; have HI5 := Lib.hid hI5; clear hI5))
              go_roundw
              case rel => exact ⟨j + 1, true, _, by go_num, by first | rfl | go_num, by omega, HALL.out, by have := HI5.out; rw [HDD.out] at this; first | exact this | (simp only [List.append_assoc, List.cons_append, List.nil_append] at this; exact this), by (try simp only [List.length_append, List.length_cons, List.length_nil]); first | omega | (have := HDL.out; omega), HST.out⟩
              case measure => simp [intOf]; omega
            · go_wp2_with ((at_builtin; refine buf_add rfl _ _ rfl w.heap.size _ acc [92] ?hs132 w _ HI2.out _ ?hc132 1 rfl ?gg132 ?hh132 ?hx132 (by (try simp only [List.length_append, List.length_cons, List.length_nil]); first | omega | (have := HDL.out; omega)) ?_; (case hs132 => rfl); (case hx132 => rfl); (case hc132 => rfl); (case hh132 => first | rfl | simp); rintro v3 w3 hI3 _; have HI3 := Lib.hid hI3; clear hI3))
              refine (I1.out _).mono ?_
              rintro e w4 ⟨rfl, q4, rfl⟩
              have HI4 := Lib.hid (HI3.out.drewN q4)
              clear HI3
              go_wp2_with ((at_builtin; refine buf_text rfl _ _ rfl w.heap.size _ (acc ++ [92]) ?hs133 w _ HI4.out D ?hx133 (by rw [HHD.out]; simp only [List.length_append, List.length_cons, List.length_nil]; have := HDL.out; omega) ?_; (case hs133 => rfl); (case hx133 => rfl); rintro v5 w5 hI5 _; have HI5 := Lib.hid hI5; clear hI5))
              go_roundw
              case rel => exact ⟨j + 1, true, _, by go_num, by first | rfl | go_num, by omega, HALL.out, by have := HI5.out; rw [HDD.out] at this; first | exact this | (simp only [List.append_assoc, List.cons_append, List.nil_append] at this; exact this), by (try simp only [List.length_append, List.length_cons, List.length_nil]); first | omega | (have := HDL.out; omega), HST.out⟩
              case measure => simp [intOf]; omega
            · go_wp2_with ((at_builtin; refine buf_add rfl _ _ rfl w.heap.size _ acc [92] ?hs134 w _ HI2.out _ ?hc134 1 rfl ?gg134 ?hh134 ?hx134 (by (try simp only [List.length_append, List.length_cons, List.length_nil]); first | omega | (have := HDL.out; omega)) ?_; (case hs134 => rfl); (case hx134 => rfl); (case hc134 => rfl); (case hh134 => first | rfl | simp); rintro v3 w3 hI3 _; have HI3 := Lib.hid hI3; clear hI3))
              refine (I1.out _).mono ?_
              rintro e w4 ⟨rfl, q4, rfl⟩
              have HI4 := Lib.hid (HI3.out.drewN q4)
              clear HI3
              go_wp2_with ((at_builtin; refine buf_text rfl _ _ rfl w.heap.size _ (acc ++ [92]) ?hs135 w _ HI4.out D ?hx135 (by rw [HHD.out]; simp only [List.length_append, List.length_cons, List.length_nil]; have := HDL.out; omega) ?_; (case hs135 => rfl); (case hx135 => rfl); rintro v5 w5 hI5 _; have HI5 := Lib.hid hI5; clear hI5))
              go_roundw
              case rel => exact ⟨j + 1, true, _, by go_num, by first | rfl | go_num, by omega, HALL.out, by have := HI5.out; rw [HDD.out] at this; first | exact this | (simp only [List.append_assoc, List.cons_append, List.nil_append] at this; exact this), by (try simp only [List.length_append, List.length_cons, List.length_nil]); first | omega | (have := HDL.out; omega), HST.out⟩
              case measure => simp [intOf]; omega
            · go_wp2_with ((at_builtin; refine buf_add rfl _ _ rfl w.heap.size _ acc [92] ?hs136 w _ HI2.out _ ?hc136 1 rfl ?gg136 ?hh136 ?hx136 (by (try simp only [List.length_append, List.length_cons, List.length_nil]); first | omega | (have := HDL.out; omega)) ?_; (case hs136 => rfl); (case hx136 => rfl); (case hc136 => rfl); (case hh136 => first | rfl | simp); rintro v3 w3 hI3 _; have HI3 := Lib.hid hI3; clear hI3))
              refine (I1.out _).mono ?_
              rintro e w4 ⟨rfl, q4, rfl⟩
              have HI4 := Lib.hid (HI3.out.drewN q4)
              clear HI3
              go_wp2_with ((at_builtin; refine buf_text rfl _ _ rfl w.heap.size _ (acc ++ [92]) ?hs137 w _ HI4.out D ?hx137 (by rw [HHD.out]; simp only [List.length_append, List.length_cons, List.length_nil]; have := HDL.out; omega) ?_; (case hs137 => rfl); (case hx137 => rfl); rintro v5 w5 hI5 _; have HI5 := Lib.hid hI5; clear hI5))
              go_roundw
              case rel => exact ⟨j + 1, true, _, by go_num, by first | rfl | go_num, by omega, HALL.out, by have := HI5.out; rw [HDD.out] at this; first | exact this | (simp only [List.append_assoc, List.cons_append, List.nil_append] at this; exact this), by (try simp only [List.length_append, List.length_cons, List.length_nil]); first | omega | (have := HDL.out; omega), HST.out⟩
              case measure => simp [intOf]; omega
            · go_wp2_with ((at_builtin; refine buf_add rfl _ _ rfl w.heap.size _ acc [92] ?hs138 w _ HI2.out _ ?hc138 1 rfl ?gg138 ?hh138 ?hx138 (by (try simp only [List.length_append, List.length_cons, List.length_nil]); first | omega | (have := HDL.out; omega)) ?_; (case hs138 => rfl); (case hx138 => rfl); (case hc138 => rfl); (case hh138 => first | rfl | simp); rintro v3 w3 hI3 _; have HI3 := Lib.hid hI3; clear hI3))
              refine (I1.out _).mono ?_
              rintro e w4 ⟨rfl, q4, rfl⟩
              have HI4 := Lib.hid (HI3.out.drewN q4)
              clear HI3
              go_wp2_with ((at_builtin; refine buf_text rfl _ _ rfl w.heap.size _ (acc ++ [92]) ?hs139 w _ HI4.out D ?hx139 (by rw [HHD.out]; simp only [List.length_append, List.length_cons, List.length_nil]; have := HDL.out; omega) ?_; (case hs139 => rfl); (case hx139 => rfl); rintro v5 w5 hI5 _; have HI5 := Lib.hid hI5; clear hI5))
              go_roundw
              case rel => exact ⟨j + 1, true, _, by go_num, by first | rfl | go_num, by omega, HALL.out, by have := HI5.out; rw [HDD.out] at this; first | exact this | (simp only [List.append_assoc, List.cons_append, List.nil_append] at this; exact this), by (try simp only [List.length_append, List.length_cons, List.length_nil]); first | omega | (have := HDL.out; omega), HST.out⟩
              case measure => simp [intOf]; omega
            · go_wp2_with ((at_builtin; refine buf_add rfl _ _ rfl w.heap.size _ acc [92] ?hs140 w _ HI2.out _ ?hc140 1 rfl ?gg140 ?hh140 ?hx140 (by (try simp only [List.length_append, List.length_cons, List.length_nil]); first | omega | (have := HDL.out; omega)) ?_; (case hs140 => rfl); (case hx140 => rfl); (case hc140 => rfl); (case hh140 => first | rfl | simp); rintro v3 w3 hI3 _; have HI3 := Lib.hid hI3; clear hI3))
              refine (I1.out _).mono ?_
              rintro e w4 ⟨rfl, q4, rfl⟩
              have HI4 := Lib.hid (HI3.out.drewN q4)
              clear HI3
              go_wp2_with ((at_builtin; refine buf_text rfl _ _ rfl w.heap.size _ (acc ++ [92]) ?hs141 w _ HI4.out D ?hx141 (by rw [HHD.out]; simp only [List.length_append, List.length_cons, List.length_nil]; have := HDL.out; omega) ?_; (case hs141 => rfl); (case hx141 => rfl); rintro v5 w5 hI5 _; have HI5 := Lib.hid hI5; clear hI5))
              go_roundw
              case rel => exact ⟨j + 1, true, _, by go_num, by first | rfl | go_num, by omega, HALL.out, by have := HI5.out; rw [HDD.out] at this; first | exact this | (simp only [List.append_assoc, List.cons_append, List.nil_append] at this; exact this), by (try simp only [List.length_append, List.length_cons, List.length_nil]); first | omega | (have := HDL.out; omega), HST.out⟩
              case measure => simp [intOf]; omega
          · by_cases c3 : n = 34 ∨ n = 92
            · clear c1 c2
              rcases c3 with rfl | rfl
              · have HST := Lib.hid (show (acc ++ [92, 34]) ++ bodyW false (L.drop (j + 1)) = 34 :: bodyW false L from by
                  have := HSTEP.out
                  rw [show (num && isD ((34 : Nat) : Int)) = false from by rw [show isD ((34 : Nat) : Int) = false from by decide, Bool.and_false], show isNumW ((34 : Nat) : Int) = false from by decide, show pieceW ((34 : Nat) : Int) = [92, 34] from by decide] at this
                  simpa only [List.append_assoc, List.nil_append, List.cons_append, Bool.false_and, Bool.true_and, Bool.and_false, if_pos, if_neg (show ¬ (false = true) from by simp)] using this)
                clear HSTEP
                cases num
                · go_wp2_with (first | (at_builtin; refine buf_add rfl _ _ rfl w.heap.size _ (acc ++ [92]) [34] ?hs142 w _ HI3.out _ ?hc142 1 rfl ?gg142 ?hh142 ?hx142 (by (try simp only [List.length_append, List.length_cons, List.length_nil]); first | omega | (have := HDL.out; omega)) ?_; (case hs142 => rfl); (case hx142 => rfl); (case hc142 => rfl); (case hh142 => first | rfl | simp); rintro v4 w4 hI4 _; have HI4 := Lib.hid hI4; clear hI4) | (at_builtin; refine buf_add rfl _ _ rfl w.heap.size _ acc [92] ?hs143 w _ HI2.out _ ?hc143 1 rfl ?gg143 ?hh143 ?hx143 (by (try simp only [List.length_append, List.length_cons, List.length_nil]); first | omega | (have := HDL.out; omega)) ?_; (case hs143 => rfl); (case hx143 => rfl); (case hc143 => rfl); (case hh143 => first | rfl | simp); rintro v3 w3 hI3 _; have HI3 := Lib.hid hI3; clear hI3))
                  go_roundw
                  case rel => exact ⟨j + 1, false, _, by go_num, by first | rfl | go_num, by omega, HALL.out, by have := HI4.out; first | exact this | (simp only [List.append_assoc, List.cons_append, List.nil_append] at this; exact this), by (try simp only [List.length_append, List.length_cons, List.length_nil]); first | omega | (have := HDL.out; omega), HST.out⟩
                  case measure => simp [intOf]; omega
                · go_wp2_with (first | (at_builtin; refine buf_add rfl _ _ rfl w.heap.size _ (acc ++ [92]) [34] ?hs144 w _ HI3.out _ ?hc144 1 rfl ?gg144 ?hh144 ?hx144 (by (try simp only [List.length_append, List.length_cons, List.length_nil]); first | omega | (have := HDL.out; omega)) ?_; (case hs144 => rfl); (case hx144 => rfl); (case hc144 => rfl); (case hh144 => first | rfl | simp); rintro v4 w4 hI4 _; have HI4 := Lib.hid hI4; clear hI4) | (at_builtin; refine buf_add rfl _ _ rfl w.heap.size _ acc [92] ?hs145 w _ HI2.out _ ?hc145 1 rfl ?gg145 ?hh145 ?hx145 (by (try simp only [List.length_append, List.length_cons, List.length_nil]); first | omega | (have := HDL.out; omega)) ?_; (case hs145 => rfl); (case hx145 => rfl); (case hc145 => rfl); (case hh145 => first | rfl | simp); rintro v3 w3 hI3 _; have HI3 := Lib.hid hI3; clear hI3))
                  go_roundw
                  case rel => exact ⟨j + 1, false, _, by go_num, by first | rfl | go_num, by omega, HALL.out, by have := HI4.out; first | exact this | (simp only [List.append_assoc, List.cons_append, List.nil_append] at this; exact this), by (try simp only [List.length_append, List.length_cons, List.length_nil]); first | omega | (have := HDL.out; omega), HST.out⟩
                  case measure => simp [intOf]; omega
              · have HST := Lib.hid (show (acc ++ [92, 92]) ++ bodyW false (L.drop (j + 1)) = 34 :: bodyW false L from by
                  have := HSTEP.out
                  rw [show (num && isD ((92 : Nat) : Int)) = false from by rw [show isD ((92 : Nat) : Int) = false from by decide, Bool.and_false], show isNumW ((92 : Nat) : Int) = false from by decide, show pieceW ((92 : Nat) : Int) = [92, 92] from by decide] at this
                  simpa only [List.append_assoc, List.nil_append, List.cons_append, Bool.false_and, Bool.true_and, Bool.and_false, if_pos, if_neg (show ¬ (false = true) from by simp)] using this)
                clear HSTEP
                cases num
                · go_wp2_with (first | (at_builtin; refine buf_add rfl _ _ rfl w.heap.size _ (acc ++ [92]) [92] ?hs146 w _ HI3.out _ ?hc146 1 rfl ?gg146 ?hh146 ?hx146 (by (try simp only [List.length_append, List.length_cons, List.length_nil]); first | omega | (have := HDL.out; omega)) ?_; (case hs146 => rfl); (case hx146 => rfl); (case hc146 => rfl); (case hh146 => first | rfl | simp); rintro v4 w4 hI4 _; have HI4 := Lib.hid hI4; clear hI4) | (at_builtin; refine buf_add rfl _ _ rfl w.heap.size _ acc [92] ?hs147 w _ HI2.out _ ?hc147 1 rfl ?gg147 ?hh147 ?hx147 (by (try simp only [List.length_append, List.length_cons, List.length_nil]); first | omega | (have := HDL.out; omega)) ?_; (case hs147 => rfl); (case hx147 => rfl); (case hc147 => rfl); (case hh147 => first | rfl | simp); rintro v3 w3 hI3 _; have HI3 := Lib.hid hI3; clear hI3))
                  go_roundw
                  case rel => exact ⟨j + 1, false, _, by go_num, by first | rfl | go_num, by omega, HALL.out, by have := HI4.out; first | exact this | (simp only [List.append_assoc, List.cons_append, List.nil_append] at this; exact this), by (try simp only [List.length_append, List.length_cons, List.length_nil]); first | omega | (have := HDL.out; omega), HST.out⟩
                  case measure => simp [intOf]; omega
                · go_wp2_with (first | (at_builtin; refine buf_add rfl _ _ rfl w.heap.size _ (acc ++ [92]) [92] ?hs148 w _ HI3.out _ ?hc148 1 rfl ?gg148 ?hh148 ?hx148 (by (try simp only [List.length_append, List.length_cons, List.length_nil]); first | omega | (have := HDL.out; omega)) ?_; (case hs148 => rfl); (case hx148 => rfl); (case hc148 => rfl); (case hh148 => first | rfl | simp); rintro v4 w4 hI4 _; have HI4 := Lib.hid hI4; clear hI4) | (at_builtin; refine buf_add rfl _ _ rfl w.heap.size _ acc [92] ?hs149 w _ HI2.out _ ?hc149 1 rfl ?gg149 ?hh149 ?hx149 (by (try simp only [List.length_append, List.length_cons, List.length_nil]); first | omega | (have := HDL.out; omega)) ?_; (case hs149 => rfl); (case hx149 => rfl); (case hc149 => rfl); (case hh149 => first | rfl | simp); rintro v3 w3 hI3 _; have HI3 := Lib.hid hI3; clear hI3))
                  go_roundw
                  case rel => exact ⟨j + 1, false, _, by go_num, by first | rfl | go_num, by omega, HALL.out, by have := HI4.out; first | exact this | (simp only [List.append_assoc, List.cons_append, List.nil_append] at this; exact this), by (try simp only [List.length_append, List.length_cons, List.length_nil]); first | omega | (have := HDL.out; omega), HST.out⟩
                  case measure => simp [intOf]; omega
            · have hw : isNumW n = false := by unfold isNumW; simp; omega
              have hp : pieceW n = [UInt8.ofNat n] := by unfold pieceW; rw [if_neg (by omega), if_neg (by omega), if_neg (by omega), Int.toNat_natCast]
              have k7 : decide ((7 : Int) ≤ n) = true := by simp; omega
              have k13 : decide ((n : Int) ≤ 13) = false := by simp; omega
              have k32 : decide ((n : Int) < 32) = false := by simp; omega
              have k126 : decide ((126 : Int) < n) = false := by simp; omega
              have k34 : ((n : Int) == 34) = false := beq_eq_false_iff_ne.2 (by omega)
              have k92 : ((n : Int) == 92) = false := beq_eq_false_iff_ne.2 (by omega)
              have m34 : (n == 34) = false := beq_eq_false_iff_ne.2 (by omega)
              have m92 : (n == 92) = false := beq_eq_false_iff_ne.2 (by omega)
              have HCB := Lib.hid (show (#[Value.int .u8 ((n : Int) % 256)] : Array Value).toList = Lib.byteCells [UInt8.ofNat n] from by
                have h : (n : Int) % 256 = (UInt8.ofNat n).toNat := by rw [UInt8.toNat_ofNat']; omega
                rw [h]; rfl)
              by_cases c4 : 48 ≤ n ∧ n ≤ 57
              · have hd : isD n = true := by unfold isD; simp; omega
                have k48 : decide ((48 : Int) ≤ n) = true := by simp; omega
                have k57 : decide ((n : Int) ≤ 57) = true := by simp; omega
                cases num
                · have HST := Lib.hid (show (acc ++ [UInt8.ofNat n]) ++ bodyW false (L.drop (j + 1)) = 34 :: bodyW false L from by
                    have := HSTEP.out
                    rw [hp, hw] at this
                    simpa only [List.append_assoc, List.nil_append, List.cons_append, Bool.false_and, Bool.true_and, Bool.and_false, if_pos, if_neg (show ¬ (false = true) from by simp)] using this)
                  clear HSTEP hd hw hp c1 c2 c3 c4
                  go_wp2_with ((at_builtin; refine buf_add rfl _ _ rfl w.heap.size _ acc [UInt8.ofNat n] ?hs150 w _ HI2.out _ ?hc150 1 rfl ?gg150 ?hh150 ?hx150 (by (try simp only [List.length_append, List.length_cons, List.length_nil]); first | omega | (have := HDL.out; omega)) ?_; (case hs150 => rfl); (case hx150 => rfl); (case hc150 => exact HCB.out); (case hh150 => first | rfl | simp); rintro v3 w3 hI3 _; have HI3 := Lib.hid hI3; clear hI3))
                  go_roundw
                  case rel => exact ⟨j + 1, false, _, by go_num, by first | rfl | go_num, by omega, HALL.out, by have := HI3.out; first | exact this | (simp only [List.append_assoc, List.cons_append, List.nil_append] at this; exact this), by (try simp only [List.length_append, List.length_cons, List.length_nil]); first | omega | (have := HDL.out; omega), HST.out⟩
                  case measure => simp [intOf]; omega
                · have HST := Lib.hid (show ((acc ++ [92, 38]) ++ [UInt8.ofNat n]) ++ bodyW false (L.drop (j + 1)) = 34 :: bodyW false L from by
                    have := HSTEP.out
                    rw [hp, hw, hd] at this
                    simpa only [List.append_assoc, List.nil_append, List.cons_append, Bool.false_and, Bool.true_and, Bool.and_false, if_pos, if_neg (show ¬ (false = true) from by simp)] using this)
                  clear HSTEP hd hw hp c1 c2 c3 c4
                  go_wp2_with (first | (at_builtin; refine buf_add rfl _ _ rfl w.heap.size _ (acc ++ [92, 38]) [UInt8.ofNat n] ?hs151 w _ HI3.out _ ?hc151 1 rfl ?gg151 ?hh151 ?hx151 (by (try simp only [List.length_append, List.length_cons, List.length_nil]); first | omega | (have := HDL.out; omega)) ?_; (case hs151 => rfl); (case hx151 => rfl); (case hc151 => exact HCB.out); (case hh151 => first | rfl | simp); rintro v4 w4 hI4 _; have HI4 := Lib.hid hI4; clear hI4) | (at_builtin; refine buf_add rfl _ _ rfl w.heap.size _ acc [92, 38] ?hs152 w _ HI2.out _ ?hc152 2 rfl ?gg152 ?hh152 ?hx152 (by (try simp only [List.length_append, List.length_cons, List.length_nil]); first | omega | (have := HDL.out; omega)) ?_; (case hs152 => rfl); (case hx152 => rfl); (case hc152 => rfl); (case hh152 => first | rfl | simp); rintro v3 w3 hI3 _; have HI3 := Lib.hid hI3; clear hI3))
                  go_roundw
                  case rel => exact ⟨j + 1, false, _, by go_num, by first | rfl | go_num, by omega, HALL.out, by have := HI4.out; first | exact this | (simp only [List.append_assoc, List.cons_append, List.nil_append] at this; exact this), by (try simp only [List.length_append, List.length_cons, List.length_nil]); first | omega | (have := HDL.out; omega), HST.out⟩
                  case measure => simp [intOf]; omega
              · have hd : isD n = false := by unfold isD; simp; omega
                have hq9 : (decide ((48 : Int) ≤ n) = false) ∨ (decide ((48 : Int) ≤ n) = true ∧ decide ((n : Int) ≤ 57) = false) := by
                  by_cases h : 48 ≤ n
                  · exact .inr ⟨by simp; omega, by simp; omega⟩
                  · exact .inl (by simp; omega)
                have HST := Lib.hid (show (acc ++ [UInt8.ofNat n]) ++ bodyW false (L.drop (j + 1)) = 34 :: bodyW false L from by
                  have := HSTEP.out
                  rw [hp, hw, hd] at this
                  simpa only [List.append_assoc, List.nil_append, List.cons_append, Bool.false_and, Bool.true_and, Bool.and_false, if_pos, if_neg (show ¬ (false = true) from by simp)] using this)
                clear HSTEP hd hw hp c1 c2 c3 c4
                rcases hq9 with q9 | ⟨q9, q9b⟩ <;> cases num
                · go_wp2_with ((at_builtin; refine buf_add rfl _ _ rfl w.heap.size _ acc [UInt8.ofNat n] ?hs153 w _ HI2.out _ ?hc153 1 rfl ?gg153 ?hh153 ?hx153 (by (try simp only [List.length_append, List.length_cons, List.length_nil]); first | omega | (have := HDL.out; omega)) ?_; (case hs153 => rfl); (case hx153 => rfl); (case hc153 => exact HCB.out); (case hh153 => first | rfl | simp); rintro v3 w3 hI3 _; have HI3 := Lib.hid hI3; clear hI3))
                  go_roundw
                  case rel => exact ⟨j + 1, false, _, by go_num, by first | rfl | go_num, by omega, HALL.out, by have := HI3.out; first | exact this | (simp only [List.append_assoc, List.cons_append, List.nil_append] at this; exact this), by (try simp only [List.length_append, List.length_cons, List.length_nil]); first | omega | (have := HDL.out; omega), HST.out⟩
                  case measure => simp [intOf]; omega
                · go_wp2_with ((at_builtin; refine buf_add rfl _ _ rfl w.heap.size _ acc [UInt8.ofNat n] ?hs154 w _ HI2.out _ ?hc154 1 rfl ?gg154 ?hh154 ?hx154 (by (try simp only [List.length_append, List.length_cons, List.length_nil]); first | omega | (have := HDL.out; omega)) ?_; (case hs154 => rfl); (case hx154 => rfl); (case hc154 => exact HCB.out); (case hh154 => first | rfl | simp); rintro v3 w3 hI3 _; have HI3 := Lib.hid hI3; clear hI3))
                  go_roundw
                  case rel => exact ⟨j + 1, false, _, by go_num, by first | rfl | go_num, by omega, HALL.out, by have := HI3.out; first | exact this | (simp only [List.append_assoc, List.cons_append, List.nil_append] at this; exact this), by (try simp only [List.length_append, List.length_cons, List.length_nil]); first | omega | (have := HDL.out; omega), HST.out⟩
                  case measure => simp [intOf]; omega
                · go_wp2_with ((at_builtin; refine buf_add rfl _ _ rfl w.heap.size _ acc [UInt8.ofNat n] ?hs155 w _ HI2.out _ ?hc155 1 rfl ?gg155 ?hh155 ?hx155 (by (try simp only [List.length_append, List.length_cons, List.length_nil]); first | omega | (have := HDL.out; omega)) ?_; (case hs155 => rfl); (case hx155 => rfl); (case hc155 => exact HCB.out); (case hh155 => first | rfl | simp); rintro v3 w3 hI3 _; have HI3 := Lib.hid hI3; clear hI3))
                  go_roundw
                  case rel => exact ⟨j + 1, false, _, by go_num, by first | rfl | go_num, by omega, HALL.out, by have := HI3.out; first | exact this | (simp only [List.append_assoc, List.cons_append, List.nil_append] at this; exact this), by (try simp only [List.length_append, List.length_cons, List.length_nil]); first | omega | (have := HDL.out; omega), HST.out⟩
                  case measure => simp [intOf]; omega
                · go_wp2_with ((at_builtin; refine buf_add rfl _ _ rfl w.heap.size _ acc [UInt8.ofNat n] ?hs156 w _ HI2.out _ ?hc156 1 rfl ?gg156 ?hh156 ?hx156 (by (try simp only [List.length_append, List.length_cons, List.length_nil]); first | omega | (have := HDL.out; omega)) ?_; (case hs156 => rfl); (case hx156 => rfl); (case hc156 => exact HCB.out); (case hh156 => first | rfl | simp); rintro v3 w3 hI3 _; have HI3 := Lib.hid hI3; clear hI3))
                  go_roundw
                  case rel => exact ⟨j + 1, false, _, by go_num, by first | rfl | go_num, by omega, HALL.out, by have := HI3.out; first | exact this | (simp only [List.append_assoc, List.cons_append, List.nil_append] at this; exact this), by (try simp only [List.length_append, List.length_cons, List.length_nil]); first | omega | (have := HDL.out; omega), HST.out⟩
                  case measure => simp [intOf]; omega
      · have hbad : decide (c < 0) = true ∨ (decide (c < 0) = false ∧ decide (1114111 < c) = true) := by
          unfold inW at hin
          by_cases h : c < 0
          · exact .inl (decide_eq_true h)
          · refine .inr ⟨decide_eq_false h, decide_eq_true ?_⟩
            simp at hin
            omega
        have HR2 := Lib.hid (show R = ([], 1) from by
          rw [← HR.out]
          unfold writeX writeP
          rw [if_neg (fun h => hin (List.all_eq_true.1 h c hmem))])
        clear hdrop htake hmem hin hc
        rcases hbad with k1 | ⟨k1, k2⟩
        all_goals
          go_wp2_with fail
          go_ret2
          exact ⟨by rw [HR2.out]; rfl, HB2.out⟩
    · have t0 : decide ((j : Int) < L.length) = false := by simp; omega
      have hj' : j = L.length := by omega
      have hst := HSZ.out
      rw [List.drop_of_length_le (by omega)] at hst
      have hacc : acc = 34 :: bodyW false L := by rw [← hst]; show acc = acc ++ []; rw [List.append_nil]
      have hall2 : L.all inW = true := by have := HA0.out; rwa [hj', List.take_length] at this
      have HR2 := Lib.hid (show R = (acc ++ [34], 0) from by
        rw [← HR.out, hacc]
        unfold writeX writeP
        rw [if_pos hall2]
        rfl)
      clear hst hacc hall2 hj'
      go_wp2_with ((at_builtin; refine buf_add rfl _ _ rfl w.heap.size _ acc [34] ?hs157 w _ HI2.out _ ?hc157 1 rfl ?gg157 ?hh157 ?hx157 (by (try simp only [List.length_append, List.length_cons, List.length_nil]); first | omega | (have := HDL.out; omega)) ?_; (case hs157 => rfl); (case hx157 => rfl); (case hc157 => rfl); (case hh157 => first | rfl | simp); rintro v3 w3 hI3 _; have HI3 := Lib.hid hI3; clear hI3; have hcv := HI3.out.text))
      go_ret2
      exact ⟨by rw [HR2.out]; rfl, HI3.out.below⟩
end Go.Proofs.YtmgnpgbganjgfaaDoor
