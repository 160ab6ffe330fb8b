/- DERIVED. The walk of the document's Plain. -/
import Derived.Test.YtmgnpgbganjgfaaDoorRefQuoM
import Derived.Test.YtmgnpgbganjgfaaDoorQuoteT
import Derived.Test.YtmgnpgbganjgfaaDoorQuoA
import Derived.Test.YtmgnpgbganjgfaaDoorQuoC
import Derived.Test.YtmgnpgbganjgfaaDoorBufW
set_option linter.unusedSimpArgs false
set_option linter.unusedVariables false
namespace Go.Proofs.YtmgnpgbganjgfaaDoor
open Go.RowKit

set_option maxRecDepth 20000 in
set_option maxHeartbeats 8000000 in
theorem refPlain_any (s : ByteArray) (w : World) (hs : s.size ≤ 16777216) :
    Calls Tryd.prog 19 #[.string s] w fun e w' => e = .returned (textV (plainX s.data.toList)) ∧ Below w.heap.size w w' := by
  have r1 := refRunes_any s w hs
  unfold RunesPost at r1
  have hR := plainR_whole s.data.toList
  have hpx : plainX s.data.toList = if wholeE s.data.toList = 0 then (plainP s.data.toList, 0) else ([], wholeE s.data.toList) := rfl
  rw [hpx]
  clear hpx
  generalize wholeE s.data.toList = E at *
  by_cases h0 : E = 0
  · rw [if_pos h0]
    have hR2 := hR h0
    clear hR
    subst h0
    generalize plainP s.data.toList = Z at *
    have HR := Lib.hid hR2
    have R1 := Lib.hid r1
    clear hR2 r1
    go_enter Tryd.func19, Tryd.ntmps19
    go_wp2_with fail
    refine R1.out.mono ?_
    rintro e w1 ⟨hb1, ⟨_, v, rfl, _⟩ | ⟨h0, _⟩⟩
    rotate_left
    · exact absurd rfl h0
    have HB1 := Lib.hid hb1
    clear hb1
    go_wp2_with fail
    go_loopw [6, 7] (fun bv iv wr => ∃ (i : Nat) (acc : List UInt8), iv = .int .i64 (i : Int) ∧ i ≤ s.size ∧ Buf w.heap.size bv acc w wr ∧ acc.length ≤ 3 * i ∧ (plainR s.data.toList i).map (fun r => acc ++ r) = some Z) (fun _ iv _ => s.size - (intOf iv).toNat)
    case atStart => exact ⟨0, [], rfl, Nat.zero_le _, Buf.nil _ _ _ HB1.out HB1.out.size, Nat.zero_le _, by rw [HR.out]; first | trivial | rfl | simp | exact congrArg some (List.nil_append Z)⟩
    case round =>
      obtain ⟨i, acc, rfl, his, hI, hal, hst⟩ := hrel
      have HI := Lib.hid hI
      have HST := Lib.hid hst
      clear hI hst
      by_cases hi : i < s.size
      · have hkl : i < s.data.toList.length := by rw [← Lib.size_eq]; exact hi
        have hget := byte_get s i hi
        have t0 : decide ((i : Int) < s.size) = true := by simp; omega
        have t1 : decide (i < s.size) = true := by simp; omega
        by_cases h92 : s[i] = 92
        · have q1 := (u8K s[i] 92 92 rfl (by decide)).1 h92
          rw [h92] at hget
          have g1 := fun w => refGap_any s i w hs hi
          by_cases hg : 0 < gapP (s.data.toList.drop (i + 1))
          · have hx2 : gapX s.data.toList i = i + 1 + gapP (s.data.toList.drop (i + 1)) := by unfold gapX; rw [if_pos hg]
            have hgl := gapP_le (s.data.toList.drop (i + 1))
            rw [List.length_drop, ← Lib.size_eq] at hgl
            have h2 := gapP_two _ hg
            rw [hx2] at g1
            have hs2 := HST.out
            rw [plainR_gap _ _ hkl hget hg, Option.map_map] at hs2
            generalize gapP (s.data.toList.drop (i + 1)) = gp at *
            obtain ⟨K, hK⟩ : ∃ K, i + 1 + gp = K := ⟨_, rfl⟩
            rw [hK] at hs2 g1
            have HS2 := Lib.hid (show (plainR s.data.toList K).map ((acc ++ [92, 32, 92]) ++ ·) = some Z from by
              rw [← hs2]; congr 1; funext r; simp)
            have k1 : decide ((0 : Int) < K) = true := by simp; omega
            have k2 : decide (0 < K) = true := by simp; omega
            have kb : i < K ∧ K ≤ s.size := by omega
            have HLEN := Lib.hid (show (acc ++ [92, 32, 92]).length ≤ 3 * K from by rw [List.length_append]; simp; omega)
            have G1 := Lib.hid g1
            clear g1 hs2 h92 hget hx2 hg hgl h2 hK
            go_wp2_with fail
            refine (G1.out _).mono ?_
            rintro e w2 ⟨rfl, q, rfl⟩
            have HI2 := Lib.hid (HI.out.drewN q)
            generalize wr.drewN q = w2 at *
            go_wp2_with (at_builtin; refine buf_add rfl _ _ rfl w.heap.size _ acc [92, 32, 92] ?hs1 w _ HI2.out _ ?hc1 3 rfl ?gg1 ?hh1 ?hx1 (by omega) ?_; (case hs1 => rfl); (case hx1 => rfl); (case hc1 => rfl); (case hh1 => first | rfl | simp); rintro v1 w1 hI1 _; have HI1 := Lib.hid hI1; clear hI1)
            go_wp2_with fail
            go_roundw
            case rel => exact ⟨K, _, rfl, by omega, HI1.out, HLEN.out, HS2.out⟩
            case measure => simp [intOf]; omega
          · have hg0 : gapP (s.data.toList.drop (i + 1)) = 0 := by omega
            rw [gapX_zero _ _ hg0] at g1
            have e1 := fun w => refEscape_any s i w hs hi
            unfold EscPost at e1
            cases he : escP (s.data.toList.drop (i + 1)) with
            | none =>
              have hs2 := HST.out
              rw [plainR_none _ _ hkl hget hg0 he] at hs2
              cases hs2
            | some p =>
              obtain ⟨v0, n⟩ := p
              have hbd := escP_bd _ _ _ he
              rw [List.length_drop, ← Lib.size_eq] at hbd
              have hs2 := HST.out
              rw [plainR_esc _ _ hkl hget hg0 v0 n he, Option.map_map] at hs2
              rw [he] at e1
              obtain ⟨m, hm⟩ : ∃ m, n + 1 = m := ⟨_, rfl⟩
              have HS2 := Lib.hid (show (plainR s.data.toList (i + m)).map ((acc ++ (s.data.toList.drop i).take m) ++ ·) = some Z from by
                rw [← hs2, ← hm, show i + (n + 1) = i + n + 1 from by omega]; congr 1; funext r; simp)
              have HM := Lib.hid hm
              have hmb : 1 ≤ m ∧ i + m ≤ s.size := by omega
              have hxs : (s.extract i (i + m)).size = m := by simp only [ByteArray.size_extract]; omega
              have hxd : (s.extract i (i + m)).data.toList = (s.data.toList.drop i).take m := by rw [ext_list, List.drop_take]; congr 1; omega
              have HLEN := Lib.hid (show (acc ++ (s.data.toList.drop i).take m).length ≤ 3 * (i + m) from by rw [← hxd, List.length_append, ← Lib.size_eq, hxs]; omega)
              have HXS := Lib.hid hxs
              have HXD := Lib.hid hxd
              have b1 : (i : Int) ≤ (i : Int) + m := by omega
              have b2 : (i : Int) + m ≤ s.size := by omega
              have b0 : (0 : Int) ≤ i := by omega
              have b3 : ((i : Int) + m).toNat = i + m := by omega
              clear hxs hxd
              have G1 := Lib.hid g1
              have E1 := Lib.hid e1
              clear g1 e1 hs2 h92 hget hg hg0 he hbd hm
              go_wp2_with fail
              refine (G1.out _).mono ?_
              rintro e w2 ⟨rfl, q, rfl⟩
              have HI2 := Lib.hid (HI.out.drewN q)
              generalize wr.drewN q = w2 at *
              go_wp2_with fail
              refine (E1.out _).mono ?_
              rintro e w3 ⟨v, j, rfl, hv, _, hb3⟩
              obtain ⟨rfl, hj⟩ := hv _ _ rfl
              have hj2 : j = (i : Int) + m := by have := HM.out; omega
              subst hj2
              have HI3 := Lib.hid (HI2.out.later hb3)
              have en : (i : Int) + m - i = (m : Int) := by omega
              clear hv hj hb3
              go_wp2_with (at_builtin; refine buf_text rfl _ _ rfl w.heap.size _ acc ?hs2 w _ HI3.out (s.extract i (i + m)) ?hx2 (by rw [HXS.out]; omega) ?_; (case hs2 => rfl); (case hx2 => rfl); rintro v2 w2 hI2 _; have HI2 := Lib.hid hI2; clear hI2)
              go_wp2_with fail
              go_roundw
              case rel => exact ⟨i + m, _, by go_num, by omega, HI2.out, by rw [HXD.out]; exact HLEN.out, by rw [HXD.out]; exact HS2.out⟩
              case measure => simp [intOf]; omega
        · have q1 := (u8K s[i] 92 92 rfl (by decide)).2 h92
          have hs2 := HST.out
          rw [plainR_on _ _ hkl (by rw [hget]; exact fun h => h92 (Option.some.inj h)), Option.map_map] at hs2
          obtain ⟨m, hm⟩ : ∃ m, 1 = m := ⟨_, rfl⟩
          have HS2 := Lib.hid (show (plainR s.data.toList (i + 1)).map ((acc ++ (s.data.toList.drop i).take 1) ++ ·) = some Z from by
            rw [← hs2]; congr 1; funext r; simp)
          have hxs : (s.extract i (i + 1)).size = 1 := by simp only [ByteArray.size_extract]; omega
          have hxd : (s.extract i (i + 1)).data.toList = (s.data.toList.drop i).take 1 := by rw [ext_list, List.drop_take]; congr 1; omega
          have HLEN := Lib.hid (show (acc ++ (s.data.toList.drop i).take 1).length ≤ 3 * (i + 1) from by rw [← hxd, List.length_append, ← Lib.size_eq, hxs]; omega)
          have HXS := Lib.hid hxs
          have HXD := Lib.hid hxd
          have b1 : (i : Int) ≤ (i : Int) + 1 := by omega
          have b2 : (i : Int) + 1 ≤ s.size := by omega
          have b0 : (0 : Int) ≤ i := by omega
          have b3 : ((i : Int) + 1).toNat = i + 1 := by omega
          clear hxs hxd
          clear hs2 h92 hget hm
          go_wp2_with (at_builtin; refine buf_text rfl _ _ rfl w.heap.size _ acc ?hs3 w _ HI.out (s.extract i (i + 1)) ?hx3 (by rw [HXS.out]; omega) ?_; (case hs3 => rfl); (case hx3 => rfl); rintro v3 w3 hI3 _; have HI3 := Lib.hid hI3; clear hI3)
          go_wp2_with fail
          go_roundw
          case rel => exact ⟨i + 1, _, by go_num, by omega, HI3.out, by rw [HXD.out]; exact HLEN.out, by rw [HXD.out]; exact HS2.out⟩
          case measure => simp [intOf]; omega
      · have t0 : decide ((i : Int) < s.size) = false := by simp; omega
        have t1 : decide (i < s.size) = false := by simp; omega
        have hs2 := HST.out
        rw [plainR_end _ _ (by rw [← Lib.size_eq]; omega)] at hs2
        have hz : Z = acc := by
          simp only [Option.map_some, List.append_nil, Option.some.injEq] at hs2
          exact hs2.symm
        subst hz
        have hcv := HI.out.text
        have HB := Lib.hid HI.out.below
        clear hs2
        go_wp2_with fail
        go_ret2
        exact ⟨rfl, HB.out⟩
  · rw [if_neg h0]
    have q : (E != 0) = true := by rw [bne_iff_ne]; exact h0
    have q2 : (E == 0) = false := beq_eq_false_iff_ne.2 h0
    have R1 := Lib.hid r1
    clear r1 hR
    go_enter Tryd.func19, Tryd.ntmps19
    go_wp2_with fail
    refine R1.out.mono ?_
    rintro e w1 ⟨hb1, ⟨h1, _⟩ | ⟨_, rfl⟩⟩
    · exact absurd h1 h0
    have HB1 := Lib.hid hb1
    clear hb1
    go_wp2_with fail
    go_ret2
    exact ⟨rfl, HB1.out⟩
end Go.Proofs.YtmgnpgbganjgfaaDoor
