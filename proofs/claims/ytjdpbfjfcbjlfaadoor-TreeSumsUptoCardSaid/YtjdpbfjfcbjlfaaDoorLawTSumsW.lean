/- DERIVED. The walk of the law TreeSums. -/
import Derived.Test.YtjdpbfjfcbjlfaaDoorL10Awake
import Derived.Test.YtjdpbfjfcbjlfaaDoorTreeJ
set_option linter.unusedSimpArgs false
set_option linter.unusedVariables false
namespace Go.Proofs.YtjdpbfjfcbjlfaaDoor
open Go.RowKit

set_option maxHeartbeats 4000000 in
theorem treeSums_walk (k : Int) (ks : List Tr) (kv : Value) (w : World) (hl : Lies w (.mk k 0 ⟨#[]⟩ 0 0 ks) kv) (hs : sizes ks ≤ 1048576) :
    Calls Tryd.prog 9 #[.int .i64 k, kv] w fun e w' => e = .returned (.bool true) ∧ Below w.heap.size w w' := by
  by_cases h1 : k = 1
  · have t1 : (k == 1) = true := by simp; exact h1
    clear hl
    go_enter Tryd.func9, Tryd.ntmps9
    go_wp2_with fail
    refine (awake_any _).mono ?_
    rintro e w1 ⟨rfl, hb1⟩
    have HB1 := Lib.hid hb1
    clear hb1
    go_wp2_with fail
    go_ret
    exact ⟨rfl, HB1.out⟩
  · have t1 : (k == 1) = false := by simp; exact h1
    obtain ⟨xa, cap, b, o, K, rfl, hxa, hk⟩ := hl.kidsOf
    have hd1 := depth_le_size _ (.mk k 0 ⟨#[]⟩ 0 0 ks) (Nat.le_refl _)
    have hsz := Tr.size_def (.mk k 0 ⟨#[]⟩ 0 0 ks)
    have hdp := Tr.depth_def (.mk k 0 ⟨#[]⟩ 0 0 ks)
    have hlv : (Tr.mk k 0 ⟨#[]⟩ 0 0 ks).leaves = leavesL ks := by rw [Tr.leaves_def, if_neg (by exact h1)]; rfl
    have hll := leavesL_le ks
    have hlen := sizes_len ks
    obtain ⟨i0, z0, hi0, hz0, hz1, hz2, hz3⟩ := tok_info
    simp only [Tr.kids] at hsz hdp hxa hk ⊢
    have S1 := fun w h => size_any (.mk k 0 ⟨#[]⟩ 0 0 ks) (.slice xa ks.length cap) w (by omega) h
    have D1 := fun w h => depth_any _ (.mk k 0 ⟨#[]⟩ 0 0 ks) (.slice xa ks.length cap) w (Nat.le_refl _) (by omega) h
    have L1 := fun w h => leaves_any (.mk k 0 ⟨#[]⟩ 0 0 ks) (.slice xa ks.length cap) w (by omega) h
    have T1 := Lib.hid fun va vb B1 B2 w h1 h2 => toks_any va vb (leavesL ks) B1 B2 w h1 h2 (by omega)
    rw [show ((Tr.mk k 0 ⟨#[]⟩ 0 0 ks).size : Int) = 1 + (sizes ks : Int) from by omega] at S1
    rw [show ((Tr.mk k 0 ⟨#[]⟩ 0 0 ks).depth : Int) = (depths ks : Int) + 1 from by omega] at D1
    rw [hlv] at L1
    have S1 := Lib.hid S1
    have D1 := Lib.hid D1
    have L1 := Lib.hid L1
    have hgt : decide ((depths ks : Int) < 1 + (sizes ks : Int)) = true := by simp; omega
    have hdle : depths ks ≤ sizes ks := by omega
    have HL := Lib.hid hl
    have HK := Lib.hid hk
    have HX := Lib.hid hxa
    clear hl hk hxa hd1 hsz hdp hlv
    go_enter Tryd.func9, Tryd.ntmps9
    go_wp2_with fail
    refine (awake_any _).mono ?_
    rintro e w1 ⟨rfl, hb1⟩
    have HB1 := Lib.hid hb1
    clear hb1
    go_wp2_with fail
    go_loopw [6, 7, 8, 9] (fun sz dp v a wr => ∃ i : Nat, a = .int .i64 i ∧ i ≤ ks.length ∧ sz = .int .i64 (1 + (sizes (ks.take i) : Nat)) ∧ dp = .int .i64 (depths (ks.take i) : Nat) ∧ Below w.heap.size w wr ∧ OwnsK wr w.heap.size v (leavesL (ks.take i))) (fun _ _ _ a _ => ks.length - (intOf a).toNat)
    case atStart => exact ⟨0, rfl, by omega, rfl, rfl, HB1.out, rfl, .inl ⟨rfl, rfl⟩⟩
    case round =>
      obtain ⟨i, rfl, hi, rfl, rfl, hb, hO⟩ := hrel
      have HB := Lib.hid hb
      have HO := Lib.hid hO
      obtain ⟨va, vc, rfl⟩ := hO.shape
      have hst := hb.size
      clear hO
      by_cases hin : i < ks.length
      · have hx := HX.out (by omega)
        subst hx
        obtain ⟨x, cp, hcW, hl, hlt⟩ := kid_at (t := .mk k 0 ⟨#[]⟩ 0 0 ks) HK.out (Below.refl _ _) hin
        have hc' := hcW.below hb
        have HC := Lib.hid hcW
        have c0 := hc'.c0; have c1 := hc'.c1; have c2 := hc'.c2; have c3 := hc'.c3; have c4 := hc'.c4; have c5 := hc'.c5
        have HL1 := Lib.hid hl
        have hd0 := sizes_take_le ks i
        have hd2 := sizes_take_le ks (i + 1)
        have hd3 := sizes_take ks i hin
        have hd4 : (leavesL (ks.take i)).length ≤ sizes (ks.take i) := leavesL_le _
        have hd5 := leaves_size _ ks[i] (Nat.le_refl _)
        have hd6 := depths_take ks i hin
        have hd7 := depth_le_size _ ks[i] (Nat.le_refl _)
        have hd8 : depths (ks.take i) ≤ sizes (ks.take i) := by
          have h1 := depth_le_size _ (.mk 0 0 ⟨#[]⟩ 0 0 (ks.take i)) (Nat.le_refl _)
          rw [Tr.depth_def, Tr.size_def] at h1
          simp only [Tr.kids] at h1; omega
        have HD := Lib.hid (leavesL_take ks i hin)
        clear hc' hl hb hcW
        have hkk : (Tr.mk k 0 ⟨#[]⟩ 0 0 ks).kids[i] = ks[i] := rfl
        simp only [hkk] at *
        clear hkk
        generalize hk : ks[i] = t at *
        go_wp2_with fail
        refine (size_any t _ _ (by omega) (HL1.out.keep HB.out)).mono ?_
        rintro e w2 ⟨rfl, hb2⟩
        have HB2 := Lib.hid (Below.then HB.out hb2)
        have HO2 := Lib.hid (HO.out.below hb2)
        clear hb2 c0 c1 c2 c3 c4 c5
        have hc' := HC.out.below HB2.out
        have c0 := hc'.c0; have c1 := hc'.c1; have c2 := hc'.c2; have c3 := hc'.c3; have c4 := hc'.c4; have c5 := hc'.c5
        clear hc'
        go_wp2_with fail
        refine (depth_any _ t _ _ (Nat.le_refl _) (by omega) (HL1.out.keep HB2.out)).mono ?_
        rintro e w3 ⟨rfl, hb3⟩
        have HB3 := Lib.hid (Below.then HB2.out hb3)
        have HO3 := Lib.hid (HO2.out.below hb3)
        clear hb3 c0 c1 c2 c3 c4 c5
        have hc' := HC.out.below HB3.out
        have c0 := hc'.c0; have c1 := hc'.c1; have c2 := hc'.c2; have c3 := hc'.c3; have c4 := hc'.c4; have c5 := hc'.c5
        clear hc'
        go_wp2_with fail
        refine (leaves_any t _ _ (by omega) (HL1.out.keep HB3.out)).mono ?_
        rintro e w4 ⟨v, rfl, hO4, hb4⟩
        have HB4 := Lib.hid (Below.then HB3.out hb4)
        have HO4 := Lib.hid (HO3.out.below hb4)
        have hst4 := HB4.out.size
        have hst3 := HB3.out.size
        clear hb4
        rcases hO4.src with ⟨rfl, hk0⟩ | ⟨g, gc, rfl, hg, hglt, hcell⟩
        · go_wp2_with (at_builtin; refine wpList_append_own_none rfl _ _ 29 rfl (w.heap.size) 42 i0 4 Tryd.underlying29 hi0 _ _ _ rfl HO4.out rfl ?_)
          go_roundw
          case rel => exact ⟨i + 1, by go_num, by omega, by rw [hd3]; congr 1; omega, by rw [hd6]; congr 1; omega, HB4.out, by rw [HD.out, hk0, List.append_nil]; exact HO4.out⟩
          case measure => simp [intOf]; omega
        · have hcl := cells_len t.leaves
          have HC4 := Lib.hid hcell
          clear hcell
          go_wp2_with (at_builtin; refine wpList_append_own _ rfl _ _ 29 rfl (w.heap.size) 42 i0 z0 4 40 Tryd.underlying29 hi0 hz0 hz1 hz2 hz3 (by decide) _ _ _ rfl HO4.out ⟨g, 0, none⟩ t.leaves.length gc (t.leaves.flatMap tkCells) rfl hcl HC4.out (tok_one _) (by simp only [maxLen]; omega) (by omega) (by omega) ?_; rintro v' w5 hown' hgrow -)
          have HO5 := Lib.hid (OwnsK.more hown' rfl)
          have HB5 := Lib.hid (HB4.out.grown hgrow (by omega) (fun k hk => by have := (HO4.out.lt k hk).1; omega))
          clear hown' hgrow
          go_roundw
          case rel => exact ⟨i + 1, by go_num, by omega, by rw [hd3]; congr 1; omega, by rw [hd6]; congr 1; omega, HB5.out, by rw [HD.out]; exact HO5.out⟩
          case measure => simp [intOf]; omega
      · have hi' : i = ks.length := by omega
        subst hi'
        have t3 : decide ((ks.length : Int) < ks.length) = false := by simp
        rw [List.take_length] at HO
        rw [List.take_length]
        clear hb
        go_wp2_with fail
        have X5 := Lib.hid (boxed_new wr (.mk k 0 ⟨#[]⟩ 0 0 ks) (.slice xa ks.length cap) _ rfl)
        have HB5 := Lib.hid (HB.out.alloc hst (.cells #[.int .i64 k, .int .i64 0, .string ⟨#[]⟩, .int .i64 0, .int .i64 0, .slice xa ks.length cap] 24))
        have HO5 := Lib.hid (HO.out.alloc (.cells #[.int .i64 k, .int .i64 0, .string ⟨#[]⟩, .int .i64 0, .int .i64 0, .slice xa ks.length cap] 24))
        refine (S1.out _ (HL.out.keep HB5.out)).mono ?_
        rintro e w6 ⟨rfl, hb6⟩
        have HB6 := Lib.hid (Below.then HB5.out hb6)
        have X6 := Lib.hid (X5.out.below hb6)
        have HO6 := Lib.hid (HO5.out.below hb6)
        clear hb6
        have d0 := X6.out.c0; have d1 := X6.out.c1; have d2 := X6.out.c2; have d3 := X6.out.c3; have d4 := X6.out.c4; have d5 := X6.out.c5
        simp only [Tr.kind, Tr.form, Tr.text, Tr.line, Tr.col] at d0 d1 d2 d3 d4
        go_wp2_with fail
        clear d0 d1 d2 d3 d4 d5
        refine (D1.out _ (HL.out.keep HB6.out)).mono ?_
        rintro e w7 ⟨rfl, hb7⟩
        have HB7 := Lib.hid (Below.then HB6.out hb7)
        have X7 := Lib.hid (X6.out.below hb7)
        have HO7 := Lib.hid (HO6.out.below hb7)
        clear hb7
        have d0 := X7.out.c0; have d1 := X7.out.c1; have d2 := X7.out.c2; have d3 := X7.out.c3; have d4 := X7.out.c4; have d5 := X7.out.c5
        simp only [Tr.kind, Tr.form, Tr.text, Tr.line, Tr.col] at d0 d1 d2 d3 d4
        go_wp2_with fail
        clear d0 d1 d2 d3 d4 d5
        refine (L1.out _ (HL.out.keep HB7.out)).mono ?_
        rintro e w8 ⟨v8, rfl, hO8, hb8⟩
        have HB8 := Lib.hid (Below.then HB7.out hb8)
        have HO8 := Lib.hid (HO7.out.below hb8)
        have HV8 := Lib.hid hO8
        clear hb8 hO8
        go_wp2_with fail
        refine (T1.out _ _ _ _ _ HV8.out HO8.out).mono ?_
        rintro e w9 ⟨rfl, hb9⟩
        have HB9 := Lib.hid (Below.then HB8.out hb9)
        clear hb9
        go_wp2_with fail
        go_ret
        exact ⟨rfl, HB9.out⟩
end Go.Proofs.YtjdpbfjfcbjlfaaDoor
