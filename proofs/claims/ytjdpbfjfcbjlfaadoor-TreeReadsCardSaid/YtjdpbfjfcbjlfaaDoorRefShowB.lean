/- DERIVED. The walk of the reference's show. -/
import Derived.Test.YtjdpbfjfcbjlfaaDoorRefShowA
import Derived.Test.YtjdpbfjfcbjlfaaDoorShowC
import Derived.Test.YtjdpbfjfcbjlfaaDoorReadE
import Derived.Deep.RegionHeld3
set_option linter.unusedSimpArgs false
set_option linter.unusedVariables false
namespace Go.Proofs.YtjdpbfjfcbjlfaaDoor
open Go.RowKit

def AddPost (B : Nat) (l : List UInt8) (W0 w : World) (e : Ending) (w' : World) : Prop := ∃ v', e = .returned v' ∧ Buf B v' l W0 w' ∧ Oth w w'
theorem RowN.oth {w w' : World} {g : Nat} {t : Tr} {kv : Value} (h : RowN w g t kv) (ho : Oth w w') : RowN w' g t kv := ho.block h (by decide)
theorem u8_in {x : Int} (h0 : 0 ≤ x) (h1 : x < 256) : IntKind.u8.wrap x = x := by
  simp [IntKind.wrap, IntKind.signed, IntKind.bits]; omega
theorem byte_no {c : UInt8} {n : Nat} (h : c.toNat ≠ n) : ((c.toNat : Int) == n) = false := by rw [beq_eq_false_iff_ne]; omega
theorem esc_cells (c : UInt8) (h1 : ((c.toNat : Int) / 16).toNat < (⟨#[48, 49, 50, 51, 52, 53, 54, 55, 56, 57, 97, 98, 99, 100, 101, 102]⟩ : ByteArray).size) (h2 : ((c.toNat : Int) % 16).toNat < (⟨#[48, 49, 50, 51, 52, 53, 54, 55, 56, 57, 97, 98, 99, 100, 101, 102]⟩ : ByteArray).size) :
    (#[Value.int IntKind.u8 92, Value.int IntKind.u8 ((⟨#[48, 49, 50, 51, 52, 53, 54, 55, 56, 57, 97, 98, 99, 100, 101, 102]⟩ : ByteArray)[((c.toNat : Int) / 16).toNat]'h1).toNat, Value.int IntKind.u8 ((⟨#[48, 49, 50, 51, 52, 53, 54, 55, 56, 57, 97, 98, 99, 100, 101, 102]⟩ : ByteArray)[((c.toNat : Int) % 16).toNat]'h2).toNat] : Array Value).toList =
      Lib.byteCells [92, hexD (c.toNat / 16), hexD (c.toNat % 16)] := by
  have e1 : ((c.toNat : Int) / 16).toNat = c.toNat / 16 := by omega
  have e2 : ((c.toNat : Int) % 16).toNat = c.toNat % 16 := by omega
  simp only [hex_get, e1, e2]
  rfl

set_option maxHeartbeats 4000000 in
theorem refShow1_any (n : Nat) : ∀ (t : Tr) (kv v : Value) (acc : List UInt8) (W0 w : World), t.size ≤ n → t.may = true → acc.length + 3 * t.blk ≤ 1099511627776 → Lies W0 t kv → Buf W0.heap.size v acc W0 w →
    Calls Tryd.prog 32 #[v, nodeV t kv] w (AddPost W0.heap.size (acc ++ t.showL) W0 w) := by
  induction n with
  | zero => intro t kv v acc W0 w h; rw [Tr.size_def] at h; omega
  | succ n ih =>
    intro t kv v acc W0 w hn hm hs hl hI
    obtain ⟨xa, cap, b, o, K, rfl, hxa, hk⟩ := hl.kidsOf
    obtain ⟨a1, a2, a3, a4, a5, a6⟩ := may_parts t hm
    have hsz := Tr.size_def t
    have hblk := Tr.blk_def t
    have hlen := sizes_len t.kids
    have hsb := size_le_blk _ t (Nat.le_refl _)
    obtain ⟨kd, hkd⟩ := Int.eq_ofNat_of_zero_le (show 0 ≤ t.kind by omega)
    obtain ⟨fm, hfm⟩ := Int.eq_ofNat_of_zero_le (show 0 ≤ t.form by omega)
    have hfm2 : fm < 22 := by omega
    have hkd2 : kd < 54 := by omega
    have hrn := rowN_new w t (.slice xa t.kids.length cap)
    have IH := Lib.hid ih
    have HK := Lib.hid hk
    have HX := Lib.hid hxa
    have HI := Lib.hid (hI.alloc (.cells #[.int .i64 t.kind, .int .i64 t.form, .string t.text, .int .i64 t.line, .int .i64 t.col, .slice xa t.kids.length cap] 24))
    have HO := Lib.hid ((Oth.refl w).alloc (.cells #[.int .i64 t.kind, .int .i64 t.form, .string t.text, .int .i64 t.line, .int .i64 t.col, .slice xa t.kids.length cap] 24))
    have HN := Lib.hid hrn
    clear ih hk hl hxa hI hrn
    unfold nodeV
    by_cases h1 : t.kind = 1
    · have hsl : t.showL = Lib.decDigits fm ++ quotedL t.text.data.toList := by rw [Tr.showL_def, if_pos h1, hfm, Int.toNat_natCast]
      rw [hsl]
      have t1 : (t.kind == 1) = true := by simp; exact h1
      have hdl := dec_small2 fm (by omega)
      have hql := escs_len t.text.data.toList
      rw [← Lib.size_eq] at hql
      rw [hfm] at *
      clear h1 hsl a5 a6 hfm hkd hm
      go_enter Tryd.func32, Tryd.ntmps32
      go_wp2_with fail
      refine (digits_any fm fm _ (Nat.le_refl _) (by omega)).mono ?_
      rintro e w1 ⟨rfl, rfl⟩
      go_wp2_with (first | (at_builtin; refine buf_text rfl _ _ rfl W0.heap.size _ _ ?hs1 W0 _ HI.out ⟨(Lib.decDigits fm).toArray⟩ ?hx1 (by simp [ByteArray.size]; omega) ?_; (case hs1 => rfl); (case hx1 => rfl); rintro v1 w1 hI1 ho1; have HI1 := Lib.hid hI1; have HO1 := Lib.hid ho1; clear hI1 ho1) | (at_builtin; refine buf_add rfl _ _ rfl W0.heap.size _ _ [34] ?hs2 W0 _ HI1.out _ ?hc2 1 rfl ?gg2 ?hh2 ?hx2 (by simp; omega) ?_; (case hs2 => rfl); (case hx2 => rfl); (case hc2 => rfl); (case hh2 => first | rfl | simp); rintro v2 w2 hI2 ho2; have HI2 := Lib.hid hI2; have HO2 := Lib.hid ho2; clear hI2 ho2))
      have HQ2 := Lib.hid (HO.out.trans (HO1.out.trans HO2.out))
      have HM2 := Lib.hid (HN.out.oth (HO1.out.trans HO2.out))
      go_loopw [0, 5] (fun bv a wr => ∃ i : Nat, a = .int .i64 i ∧ i ≤ t.text.size ∧ Buf W0.heap.size bv (acc ++ Lib.decDigits fm ++ [34] ++ (t.text.data.toList.take i).flatMap escL) W0 wr ∧ Oth w wr ∧ RowN wr w.heap.size t (.slice xa t.kids.length cap)) (fun _ a _ => t.text.size - (intOf a).toNat)
      case atStart =>
        exact ⟨0, rfl, by omega, by simpa using HI2.out, HQ2.out, HM2.out⟩
      case round =>
        obtain ⟨i, rfl, hi, hI3, hO3, hN3⟩ := hrel
        have HI3 := Lib.hid hI3
        have HO3 := Lib.hid hO3
        have HN3 := Lib.hid hN3
        have c2 := hN3.cells.2.2.1
        have hei := escs_len (t.text.data.toList.take i)
        rw [List.length_take, ← Lib.size_eq] at hei
        clear hI3 hO3 hN3
        by_cases hin : i < t.text.size
        · have htk : (t.text.data.toList.take (i + 1)).flatMap escL = (t.text.data.toList.take i).flatMap escL ++ escL t.text[i] := by
            rw [List.take_succ_eq_append_getElem (by rw [← Lib.size_eq]; exact hin), List.flatMap_append]; simp; rfl
          have HT := Lib.hid htk
          clear htk
          have hcl := t.text[i].toNat_lt
          by_cases hp : plainB t.text[i] = true
          · have he : escL t.text[i] = [t.text[i]] := by unfold escL; rw [if_pos hp]
            have HE := Lib.hid he
            rw [plain_iff] at hp
            have t2 : decide ((t.text[i].toNat : Int) < 32) = false := by simp; omega
            have t4 : decide ((126 : Int) < t.text[i].toNat) = false := by simp; omega
            have t5 : ((t.text[i].toNat : Int) == 34) = false := byte_no hp.2.2.1
            have t6 : ((t.text[i].toNat : Int) == 92) = false := byte_no hp.2.2.2
            clear he hp
            go_wp2_with (at_builtin; refine buf_add rfl _ _ rfl W0.heap.size _ _ [t.text[i]] ?hs5 W0 _ HI3.out _ ?hc5 1 rfl ?gg5 ?hh5 ?hx5 (by (try simp only [List.length_append, List.length_cons, List.length_nil]); omega) ?_; (case hs5 => rfl); (case hx5 => rfl); (case hc5 => rfl); (case hh5 => first | rfl | simp); rintro v5 w5 hI5 ho5; have HI5 := Lib.hid hI5; have HO5 := Lib.hid ho5; clear hI5 ho5)
            go_roundw
            case rel => exact ⟨i + 1, by go_num, by omega, by rw [HT.out, HE.out, ← List.append_assoc]; exact HI5.out, HO3.out.trans HO5.out, HN3.out.oth HO5.out⟩
            case measure => simp [intOf]; omega
          · obtain ⟨c, hc⟩ : ∃ c, t.text[i] = c := ⟨_, rfl⟩
            rw [hc] at HT hp hcl
            have he : escL c = [92, hexD (c.toNat / 16), hexD (c.toNat % 16)] := by unfold escL; rw [if_neg hp]
            have HE := Lib.hid he
            have h4 : decide ((c.toNat : Int) < 32) = true ∨ (decide ((c.toNat : Int) < 32) = false ∧ decide ((126 : Int) < c.toNat) = true) ∨ (decide ((c.toNat : Int) < 32) = false ∧ decide ((126 : Int) < c.toNat) = false ∧ ((c.toNat : Int) == 34) = true) ∨ (decide ((c.toNat : Int) < 32) = false ∧ decide ((126 : Int) < c.toNat) = false ∧ ((c.toNat : Int) == 34) = false ∧ ((c.toNat : Int) == 92) = true) := by
              have h5 : c.toNat < 32 ∨ 126 < c.toNat ∨ c.toNat = 34 ∨ c.toNat = 92 := by
                false_or_by_contra
                exact hp (plain_iff.2 (by omega))
              simp only [decide_eq_true_eq, decide_eq_false_iff_not, beq_iff_eq, beq_eq_false_iff_ne, ne_eq]
              omega
            clear he hp
            have g1 : 0 ≤ (c.toNat : Int) / 16 := by omega
            have g2 : (c.toNat : Int) / 16 < 16 := by omega
            have g3 : 0 ≤ (c.toNat : Int) % 16 := by omega
            have g4 : (c.toNat : Int) % 16 < 16 := by omega
            rcases h4 with h4 | ⟨h4, h5⟩ | ⟨h4, h5, h6⟩ | ⟨h4, h5, h6, h7⟩
            all_goals
              go_wp2_with fail
              have z1 : IntKind.u8.wrap ((c.toNat : Int) / 16) = (c.toNat : Int) / 16 := u8_in (by omega) (by omega)
              have z2 : IntKind.u8.wrap ((c.toNat : Int) % 16) = (c.toNat : Int) % 16 := u8_in (by omega) (by omega)
              have z3 : (c.toNat : Int).tmod 16 = (c.toNat : Int) % 16 := Int.tmod_eq_emod_of_nonneg (by omega)
              go_region_held3 (fun _ => True) (trivial) (((refine buf_add_step (by rfl) _ _ (by rfl) W0.heap.size _ _ [92, hexD (c.toNat / 16), hexD (c.toNat % 16)] ?hs6 W0 _ (HI3.out.drew) _ ?hc6 3 rfl ?gg6 ?hh6 ?hx6 (by (try simp only [List.length_append, List.length_cons, List.length_nil]); omega) ?_; (case hs6 => rfl); (case hx6 => rfl); (case hc6 => exact esc_cells c _ _); (case hh6 => first | rfl | simp); rintro v6 w6 hI6 ho6; have HI6 := Lib.hid hI6; have HO6 := Lib.hid ho6; clear hI6 ho6)))
              all_goals
                go_wp2_with fail
                go_roundw
                case rel => exact ⟨i + 1, by go_num, by omega, by rw [HT.out, HE.out, ← List.append_assoc]; exact HI6.out, HO3.out.trans (HO6.out), HN3.out.oth (HO6.out)⟩
                case measure => simp [intOf]; omega
        · have hi' : i = t.text.size := by omega
          subst hi'
          have t3 : decide ((t.text.size : Int) < t.text.size) = false := by simp
          rw [List.take_of_length_le (by rw [← Lib.size_eq]; exact Nat.le_refl _)] at HI3
          go_wp2_with (at_builtin; refine buf_add rfl _ _ rfl W0.heap.size _ _ [34] ?hs4 W0 _ HI3.out _ ?hc4 1 rfl ?gg4 ?hh4 ?hx4 (by (try simp only [List.length_append, List.length_cons, List.length_nil]); omega) ?_; (case hs4 => rfl); (case hx4 => rfl); (case hc4 => rfl); (case hh4 => first | rfl | simp); rintro v4 w4 hI4 ho4; have HI4 := Lib.hid hI4; have HO4 := Lib.hid ho4; clear hI4 ho4)
          go_ret
          refine ⟨_, rfl, ?_, HO3.out.trans HO4.out⟩
          have := HI4.out
          simp only [List.append_assoc, quotedL, List.cons_append, List.nil_append] at this ⊢
          exact this
    · have hsl : t.showL = 40 :: (Lib.decDigits kd ++ ((if t.form = 1 then [33] else []) ++ (showsL t.kids ++ [41]))) := by rw [Tr.showL_def, if_neg h1, hkd, Int.toNat_natCast]
      obtain ⟨b1, b2, b3⟩ := a6 h1
      have t1 : (t.kind == 1) = false := by simp; exact h1
      have hdl := dec_small2 kd (by omega)
      have hsk := shows_len t.kids b3
      have HS := Lib.hid hsl
      have HB3 := Lib.hid b3
      have hdg : ∀ w, Calls Tryd.prog 39 #[.int .i64 t.kind] w fun e w' => e = .returned (.string ⟨(Lib.decDigits kd).toArray⟩) ∧ w = w' := by
        intro w
        rw [hkd]; exact digits_any kd kd w (Nat.le_refl _) (by omega)
      have HDG := Lib.hid hdg
      clear h1 hsl a5 a6 hfm hkd hm b1 b3 hdg
      by_cases hf : t.form = 1
      · have t2 : (t.form == 1) = true := by simp; exact hf
        have HF := Lib.hid hf
        clear hf
        go_enter Tryd.func32, Tryd.ntmps32
        go_wp2_with (first | (go_at_call 39; (with_reducible refine (HDG.out _).mono ?_); rintro e w8 ⟨rfl, rfl⟩) | (at_builtin; refine buf_text rfl _ _ rfl W0.heap.size _ _ ?hs12 W0 _ HI11.out ⟨(Lib.decDigits kd).toArray⟩ ?hx12 (by simp [ByteArray.size]; omega) ?_; (case hs12 => rfl); (case hx12 => rfl); rintro v12 w12 hI12 ho12; have HI12 := Lib.hid hI12; have HO12 := Lib.hid ho12; clear hI12 ho12; have HN12 := Lib.hid (HN11.out.oth HO12.out); obtain ⟨z120, z121, z122, z123, z124, z125⟩ := HN12.out.cells) | (at_builtin; refine buf_add rfl _ _ rfl W0.heap.size _ _ [33] ?hs13 W0 _ HI12.out _ ?hc13 1 rfl ?gg13 ?hh13 ?hx13 (by simp; omega) ?_; (case hs13 => rfl); (case hx13 => rfl); (case hc13 => rfl); (case hh13 => first | rfl | simp); rintro v13 w13 hI13 ho13; have HI13 := Lib.hid hI13; have HO13 := Lib.hid ho13; clear hI13 ho13; have HN13 := Lib.hid (HN12.out.oth HO13.out); obtain ⟨z130, z131, z132, z133, z134, z135⟩ := HN13.out.cells) | (at_builtin; refine buf_add rfl _ _ rfl W0.heap.size _ _ [40] ?hs11 W0 _ HI.out _ ?hc11 1 rfl ?gg11 ?hh11 ?hx11 (by (try simp only [List.length_append, List.length_cons, List.length_nil]); omega) ?_; (case hs11 => rfl); (case hx11 => rfl); (case hc11 => rfl); (case hh11 => first | rfl | simp); rintro v11 w11 hI11 ho11; have HI11 := Lib.hid hI11; have HO11 := Lib.hid ho11; clear hI11 ho11; have HN11 := Lib.hid (HN.out.oth HO11.out); obtain ⟨z110, z111, z112, z113, z114, z115⟩ := HN11.out.cells))
        have HQ := Lib.hid (HO.out.trans (HO11.out.trans (HO12.out.trans HO13.out)))
        have HM := Lib.hid HN13.out
        have HZ : Hid (Buf W0.heap.size v13 (acc ++ (40 :: (Lib.decDigits kd ++ if t.form = 1 then [33] else []))) W0 w13) := Lib.hid (by rw [if_pos HF.out]; simpa using HI13.out)
        clear z110 z111 z112 z113 z114 z115 z120 z121 z122 z123 z124 z125 z130 z131 z132 z133 z134 z135
        go_loopw [0, 7] (fun bv a wr => ∃ i : Nat, a = .int .i64 i ∧ i ≤ t.kids.length ∧ Buf W0.heap.size bv (acc ++ (40 :: (Lib.decDigits kd ++ if t.form = 1 then [33] else [])) ++ showsL (t.kids.take i)) W0 wr ∧ Oth w wr ∧ RowN wr w.heap.size t (.slice xa t.kids.length cap)) (fun _ a _ => t.kids.length - (intOf a).toNat)
        case atStart => exact ⟨0, rfl, by omega, by have := HZ.out; simpa [showsL] using this, HQ.out, HM.out⟩
        case round =>
          obtain ⟨i, rfl, hi, hI3, hO3, hN3⟩ := hrel
          have HI3 := Lib.hid hI3
          have HO3 := Lib.hid hO3
          have HN3 := Lib.hid hN3
          have HB3' := Lib.hid hI3.below
          have y5 := hN3.cells.2.2.2.2.2
          have hsl2 := shows_len _ (mays_take _ HB3.out i)
          have hsl3 := blks_take_le t.kids i
          have hfl : (if t.form = 1 then ([33] : List UInt8) else []).length ≤ 1 := by split <;> simp
          clear hI3 hO3 hN3
          by_cases hin : i < t.kids.length
          · have hx := HX.out (by omega)
            subst hx
            obtain ⟨x, cp, hcW, hl, hlt⟩ := kid_at HK.out (Below.refl _ _) hin
            have HL := Lib.hid hl
            have HC := Lib.hid hcW
            have hsk2 := Tr.size_kid t i hin
            have HD := Lib.hid (showsL_take t.kids i hin)
            have hd3 := blks_take t.kids i hin
            have hd4 := blks_take_le t.kids (i + 1)
            have hmk := mays_get _ HB3.out i hin
            clear hl hcW
            generalize hk : t.kids[i] = k at *
            clear hk
            go_wp2_with (at_builtin; refine buf_add rfl _ _ rfl W0.heap.size _ _ [32] ?hs15 W0 _ HI3.out _ ?hc15 1 rfl ?gg15 ?hh15 ?hx15 (by (try simp only [List.length_append, List.length_cons, List.length_nil]); omega) ?_; (case hs15 => rfl); (case hx15 => rfl); (case hc15 => rfl); (case hh15 => first | rfl | simp); rintro v15 w15 hI15 ho15; have HI15 := Lib.hid hI15; have HO15 := Lib.hid ho15; clear hI15 ho15; have HN15 := Lib.hid (HN3.out.oth HO15.out); obtain ⟨z150, z151, z152, z153, z154, z155⟩ := HN15.out.cells; have hcW := HC.out.below HI15.out.below; have c0 := hcW.c0; have c1 := hcW.c1; have c2 := hcW.c2; have c3 := hcW.c3; have c4 := hcW.c4; have c5 := hcW.c5; clear hcW)
            refine (IH.out k _ _ _ W0 _ (by omega) hmk (by simp only [List.length_append, List.length_cons, List.length_nil]; omega) HL.out HI15.out).mono ?_
            intro e w16 hp
            obtain ⟨v16, rfl, hI16, hO16⟩ := hp
            have HI16 := Lib.hid hI16
            have HO16 := Lib.hid hO16
            clear hI16 hO16 c0 c1 c2 c3 c4 c5
            go_wp2_with fail
            go_roundw
            case rel => exact ⟨i + 1, by go_num, by omega, by have := HI16.out; rw [HD.out]; simpa using this, HO3.out.trans (HO15.out.trans HO16.out), HN15.out.oth HO16.out⟩
            case measure => simp [intOf]; omega
          · have hi' : i = t.kids.length := by omega
            subst hi'
            have t3 : decide ((t.kids.length : Int) < t.kids.length) = false := by simp
            rw [List.take_length] at HI3 hsl2
            go_wp2_with (at_builtin; refine buf_add rfl _ _ rfl W0.heap.size _ _ [41] ?hs17 W0 _ HI3.out _ ?hc17 1 rfl ?gg17 ?hh17 ?hx17 (by (try simp only [List.length_append, List.length_cons, List.length_nil]); omega) ?_; (case hs17 => rfl); (case hx17 => rfl); (case hc17 => rfl); (case hh17 => first | rfl | simp); rintro v17 w17 hI17 ho17; have HI17 := Lib.hid hI17; have HO17 := Lib.hid ho17; clear hI17 ho17; have HN17 := Lib.hid (HN3.out.oth HO17.out); obtain ⟨z170, z171, z172, z173, z174, z175⟩ := HN17.out.cells)
            go_ret
            refine ⟨_, rfl, ?_, HO3.out.trans HO17.out⟩
            have := HI17.out
            rw [HS.out]
            simp only [List.append_assoc, List.cons_append, List.nil_append] at this ⊢
            exact this
      · have t2 : (t.form == 1) = false := by simp; exact hf
        have HF := Lib.hid hf
        clear hf
        go_enter Tryd.func32, Tryd.ntmps32
        go_wp2_with (first | (go_at_call 39; (with_reducible refine (HDG.out _).mono ?_); rintro e w8 ⟨rfl, rfl⟩) | (at_builtin; refine buf_text rfl _ _ rfl W0.heap.size _ _ ?hs42 W0 _ HI41.out ⟨(Lib.decDigits kd).toArray⟩ ?hx42 (by simp [ByteArray.size]; omega) ?_; (case hs42 => rfl); (case hx42 => rfl); rintro v42 w42 hI42 ho42; have HI42 := Lib.hid hI42; have HO42 := Lib.hid ho42; clear hI42 ho42; have HN42 := Lib.hid (HN41.out.oth HO42.out); obtain ⟨z420, z421, z422, z423, z424, z425⟩ := HN42.out.cells) | (at_builtin; refine buf_add rfl _ _ rfl W0.heap.size _ _ [40] ?hs41 W0 _ HI.out _ ?hc41 1 rfl ?gg41 ?hh41 ?hx41 (by (try simp only [List.length_append, List.length_cons, List.length_nil]); omega) ?_; (case hs41 => rfl); (case hx41 => rfl); (case hc41 => rfl); (case hh41 => first | rfl | simp); rintro v41 w41 hI41 ho41; have HI41 := Lib.hid hI41; have HO41 := Lib.hid ho41; clear hI41 ho41; have HN41 := Lib.hid (HN.out.oth HO41.out); obtain ⟨z410, z411, z412, z413, z414, z415⟩ := HN41.out.cells))
        have HQ := Lib.hid (HO.out.trans (HO41.out.trans HO42.out))
        have HM := Lib.hid HN42.out
        have HZ : Hid (Buf W0.heap.size v42 (acc ++ (40 :: (Lib.decDigits kd ++ if t.form = 1 then [33] else []))) W0 w42) := Lib.hid (by rw [if_neg HF.out]; simpa using HI42.out)
        clear z410 z411 z412 z413 z414 z415 z420 z421 z422 z423 z424 z425
        go_loopw [0, 7] (fun bv a wr => ∃ i : Nat, a = .int .i64 i ∧ i ≤ t.kids.length ∧ Buf W0.heap.size bv (acc ++ (40 :: (Lib.decDigits kd ++ if t.form = 1 then [33] else [])) ++ showsL (t.kids.take i)) W0 wr ∧ Oth w wr ∧ RowN wr w.heap.size t (.slice xa t.kids.length cap)) (fun _ a _ => t.kids.length - (intOf a).toNat)
        case atStart => exact ⟨0, rfl, by omega, by have := HZ.out; simpa [showsL] using this, HQ.out, HM.out⟩
        case round =>
          obtain ⟨i, rfl, hi, hI3, hO3, hN3⟩ := hrel
          have HI3 := Lib.hid hI3
          have HO3 := Lib.hid hO3
          have HN3 := Lib.hid hN3
          have HB3' := Lib.hid hI3.below
          have y5 := hN3.cells.2.2.2.2.2
          have hsl2 := shows_len _ (mays_take _ HB3.out i)
          have hsl3 := blks_take_le t.kids i
          have hfl : (if t.form = 1 then ([33] : List UInt8) else []).length ≤ 1 := by split <;> simp
          clear hI3 hO3 hN3
          by_cases hin : i < t.kids.length
          · have hx := HX.out (by omega)
            subst hx
            obtain ⟨x, cp, hcW, hl, hlt⟩ := kid_at HK.out (Below.refl _ _) hin
            have HL := Lib.hid hl
            have HC := Lib.hid hcW
            have hsk2 := Tr.size_kid t i hin
            have HD := Lib.hid (showsL_take t.kids i hin)
            have hd3 := blks_take t.kids i hin
            have hd4 := blks_take_le t.kids (i + 1)
            have hmk := mays_get _ HB3.out i hin
            clear hl hcW
            generalize hk : t.kids[i] = k at *
            clear hk
            go_wp2_with (at_builtin; refine buf_add rfl _ _ rfl W0.heap.size _ _ [32] ?hs45 W0 _ HI3.out _ ?hc45 1 rfl ?gg45 ?hh45 ?hx45 (by (try simp only [List.length_append, List.length_cons, List.length_nil]); omega) ?_; (case hs45 => rfl); (case hx45 => rfl); (case hc45 => rfl); (case hh45 => first | rfl | simp); rintro v45 w45 hI45 ho45; have HI45 := Lib.hid hI45; have HO45 := Lib.hid ho45; clear hI45 ho45; have HN45 := Lib.hid (HN3.out.oth HO45.out); obtain ⟨z450, z451, z452, z453, z454, z455⟩ := HN45.out.cells; have hcW := HC.out.below HI45.out.below; have c0 := hcW.c0; have c1 := hcW.c1; have c2 := hcW.c2; have c3 := hcW.c3; have c4 := hcW.c4; have c5 := hcW.c5; clear hcW)
            refine (IH.out k _ _ _ W0 _ (by omega) hmk (by simp only [List.length_append, List.length_cons, List.length_nil]; omega) HL.out HI45.out).mono ?_
            intro e w46 hp
            obtain ⟨v46, rfl, hI46, hO46⟩ := hp
            have HI46 := Lib.hid hI46
            have HO46 := Lib.hid hO46
            clear hI46 hO46 c0 c1 c2 c3 c4 c5
            go_wp2_with fail
            go_roundw
            case rel => exact ⟨i + 1, by go_num, by omega, by have := HI46.out; rw [HD.out]; simpa using this, HO3.out.trans (HO45.out.trans HO46.out), HN45.out.oth HO46.out⟩
            case measure => simp [intOf]; omega
          · have hi' : i = t.kids.length := by omega
            subst hi'
            have t3 : decide ((t.kids.length : Int) < t.kids.length) = false := by simp
            rw [List.take_length] at HI3 hsl2
            go_wp2_with (at_builtin; refine buf_add rfl _ _ rfl W0.heap.size _ _ [41] ?hs47 W0 _ HI3.out _ ?hc47 1 rfl ?gg47 ?hh47 ?hx47 (by (try simp only [List.length_append, List.length_cons, List.length_nil]); omega) ?_; (case hs47 => rfl); (case hx47 => rfl); (case hc47 => rfl); (case hh47 => first | rfl | simp); rintro v47 w47 hI47 ho47; have HI47 := Lib.hid hI47; have HO47 := Lib.hid ho47; clear hI47 ho47; have HN47 := Lib.hid (HN3.out.oth HO47.out); obtain ⟨z470, z471, z472, z473, z474, z475⟩ := HN47.out.cells)
            go_ret
            refine ⟨_, rfl, ?_, HO3.out.trans HO47.out⟩
            have := HI47.out
            rw [HS.out]
            simp only [List.append_assoc, List.cons_append, List.nil_append] at this ⊢
            exact this
end Go.Proofs.YtjdpbfjfcbjlfaaDoor
