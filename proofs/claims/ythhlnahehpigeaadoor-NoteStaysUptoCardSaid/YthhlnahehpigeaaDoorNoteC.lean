/- DERIVED. The walk of note's Kind. -/
import Derived.Test.YthhlnahehpigeaaDoorNoteB
set_option linter.unusedSimpArgs false
set_option linter.unusedVariables false
namespace Go.Proofs.YthhlnahehpigeaaDoor
open Go.RowKit

theorem pre_three (l : List UInt8) (h : twoB l 0 123 45 = true) : Lib.hasPrefix l [123, 45, 35] = decide (l[2]? = some 35) := by
  have g := (twoB_iff ..).1 h
  unfold Lib.hasPrefix
  match l, g with
  | [], g => simp at g
  | [a], g => simp at g
  | [a, b], g => simp [List.isPrefixOf]
  | a :: b :: c :: t, g =>
    have h1 : a = 123 := by simpa using g.1
    have h2 : b = 45 := by simpa using g.2
    subst h1 h2
    show ((123 : UInt8) == 123 && ((45 : UInt8) == 45 && ((35 : UInt8) == c && true))) = decide (some c = some 35)
    rw [Bool.eq_iff_iff]
    simp
    exact eq_comm
theorem suf_three (l : List UInt8) (h3 : 3 ≤ l.length) (h : twoB l (l.length - 2) 45 125 = true) : Lib.hasSuffix l [35, 45, 125] = decide (l[l.length - 3]? = some 35) := by
  have g := (twoB_iff ..).1 h
  have hs : l = l.take (l.length - 3) ++ l.drop (l.length - 3) := (List.take_append_drop _ _).symm
  have hd : ∃ c, l.drop (l.length - 3) = [c, 45, 125] ∧ l[l.length - 3]? = some c := by
    have hl : (l.drop (l.length - 3)).length = 3 := by rw [List.length_drop]; omega
    have k0 : (l.drop (l.length - 3))[0]? = l[l.length - 3]? := by rw [List.getElem?_drop, Nat.add_zero]
    have k1 : (l.drop (l.length - 3))[1]? = some 45 := by rw [List.getElem?_drop, show l.length - 3 + 1 = l.length - 2 from by omega]; exact g.1
    have k2 : (l.drop (l.length - 3))[2]? = some 125 := by rw [List.getElem?_drop, show l.length - 3 + 2 = l.length - 2 + 1 from by omega]; exact g.2
    match hq : l.drop (l.length - 3), hl with
    | [c, d, e], _ =>
      rw [hq] at k0 k1 k2
      have h1 : d = 45 := by simpa using k1
      have h2 : e = 125 := by simpa using k2
      exact ⟨c, by rw [h1, h2], by rw [← k0]; rfl⟩
  obtain ⟨c, hc, hg⟩ := hd
  rw [hg]
  have e : Lib.hasSuffix l [35, 45, 125] = true ↔ c = 35 := by
    unfold Lib.hasSuffix
    rw [List.isSuffixOf_iff_suffix]
    constructor
    · rintro ⟨m, hm⟩
      rw [hs, hc] at hm
      have := (List.append_inj' hm rfl).2
      injection this with this
      exact this.symm
    · rintro rfl
      exact ⟨l.take (l.length - 3), by rw [← hc]; exact hs.symm⟩
  rw [Bool.eq_iff_iff, e]; simp
theorem prefix_is (s : ByteArray) (w : World) : Calls Tryd.prog 23 #[.string s, .string ⟨#[123, 45, 35]⟩] w fun e w' => e = .returned (.bool (Lib.hasPrefix s.data.toList [123, 45, 35])) ∧ w = w' :=
  (Tryd.strings_HasPrefix s ⟨#[123, 45, 35]⟩ w).mono fun _ _ ⟨he, hw⟩ => ⟨he, hw.symm⟩
theorem suffix_is (s : ByteArray) (w : World) (hs : s.size ≤ 8796093022206) : Calls Tryd.prog 29 #[.string s, .string ⟨#[35, 45, 125]⟩] w fun e w' => e = .returned (.bool (Lib.hasSuffix s.data.toList [35, 45, 125])) ∧ w = w' :=
  (Tryd.strings_HasSuffix s ⟨#[35, 45, 125]⟩ w (by omega)).mono fun _ _ ⟨he, hw⟩ => ⟨he, hw.symm⟩
theorem kind_not (l : List UInt8) (h : l = [] ∨ scanN l 0 ≠ ((l.length : Int), 0)) : kindN l = 0 := by unfold kindN; rw [if_pos h]
theorem kind_is (l : List UInt8) (h0 : l ≠ []) (h : scanN l 0 = ((l.length : Int), 0)) : kindN l = if l[0]? = some 45 then 1 else if 6 ≤ l.length ∧ l[2]? = some 35 ∧ l[l.length - 3]? = some 35 then 3 else 2 := by
  unfold kindN
  rw [if_neg (by rw [h]; simp [h0])]
set_option maxRecDepth 20000 in
set_option maxHeartbeats 4000000 in
theorem noteKind_any (s : ByteArray) (w : World) (hs : s.size ≤ 8796093022206) :
    Calls Tryd.prog 14 #[.string s] w fun e w' => e = .returned (.int .i64 (kindN s.data.toList)) ∧ Below w.heap.size w w' := by
  have S1 := noteScan_any s 0 w hs
  obtain ⟨R, hR⟩ : ∃ R, kindN s.data.toList = R := ⟨_, rfl⟩
  rw [hR]
  have hls := Lib.size_eq s
  by_cases h0 : s.data.toList = []
  · rw [kind_not _ (.inl h0)] at hR
    subst hR
    generalize scanN s.data.toList 0 = p at *
    obtain ⟨x, e⟩ := p
    unfold twoV at S1
    have S1 := Lib.hid S1
    have q1 : (s.toList == []) = true := by rw [Lib.toList_data, h0]; rfl
    have q2 : s.toList.isEmpty = true := by rw [Lib.toList_data, h0]; rfl
    have q3 : s.toList = [] := by rw [Lib.toList_data, h0]
    clear h0 hls
    go_enter Tryd.func14, Tryd.ntmps14
    go_wp2_with fail
    refine S1.out.mono ?_
    rintro e w1 ⟨rfl, hb1⟩
    have HB1 := Lib.hid hb1
    clear hb1
    go_wp2_with fail
    go_ret
    exact ⟨rfl, HB1.out⟩
  · have q1 : (s.toList == []) = false := by rw [Lib.toList_data]; simpa using h0
    have q2 : s.toList.isEmpty = false := by rw [Lib.toList_data]; simpa using h0
    have q3 : ¬ s.toList = [] := by rw [Lib.toList_data]; exact h0
    have hpos : 0 < s.size := by rw [hls]; exact List.length_pos_iff.2 h0
    by_cases hsc : scanN s.data.toList 0 = ((s.data.toList.length : Int), 0)
    · have hk := kind_is _ h0 hsc
      rw [hR] at hk
      rw [hsc, ← hls] at S1
      have hkc := kind_cases s.data.toList
      unfold twoV at S1
      simp only at S1
      have S1 := Lib.hid S1
      have eg := at_get s 0 hpos
      rw [eg] at hk
      obtain ⟨y45, n45⟩ := byteKN s[0] 45 45 rfl (by decide)
      by_cases h45 : s[0] = 45
      · have q := y45 h45
        rw [if_pos (by rw [h45])] at hk
        subst hk
        clear hR hkc hsc eg h45 y45 n45 h0 hls
        go_enter Tryd.func14, Tryd.ntmps14
        go_wp2_with fail
        refine S1.out.mono ?_
        rintro e w1 ⟨rfl, hb1⟩
        have HB1 := Lib.hid hb1
        clear hb1
        go_wp2_with fail
        go_ret
        exact ⟨rfl, HB1.out⟩
      · have q := n45 h45
        rw [if_neg (by simpa using h45)] at hk
        have hne : kindN s.data.toList ≠ 0 := by rw [hR, hk]; split <;> decide
        have hn : twoB s.data.toList 0 123 45 = true ∧ nestI s.data.toList 2 1 = some s.data.toList.length := by
          rcases hkc hne with ⟨n, r, hn2, hrr, _⟩ | h
          · exfalso
            apply h45
            have : s.data.toList[0]? = some 45 := by
              rw [hrr]
              obtain ⟨m, rfl⟩ : ∃ m, n = m + 1 := ⟨n - 1, by omega⟩
              rw [List.replicate_succ]; rfl
            rw [eg] at this
            injection this
          · exact h
        obtain ⟨h3, h4, h5⟩ := nestI_last _ s.data.toList 2 1 _ (Nat.le_refl _) hn.2
        by_cases h6 : 6 ≤ s.size
        · have t6 : decide ((6 : Int) ≤ s.size) = true := by simp; omega
          have P1 := fun w => prefix_is s w
          have P2 := fun w => suffix_is s w hs
          rw [pre_three _ hn.1] at P1
          rw [suf_three _ (by omega) h5] at P2
          by_cases ha : s.data.toList[2]? = some 35
          · rw [decide_eq_true ha] at P1
            by_cases hb : s.data.toList[s.data.toList.length - 3]? = some 35
            · rw [decide_eq_true hb] at P2
              rw [if_pos ⟨by omega, ha, hb⟩] at hk
              subst hk
              have P1 := Lib.hid P1
              have P2 := Lib.hid P2
              clear hR hkc hsc eg h45 y45 n45 h0 hls hne hn h3 h4 h5 ha hb
              go_enter Tryd.func14, Tryd.ntmps14
              go_wp2_with fail
              refine S1.out.mono ?_
              rintro e w1 ⟨rfl, hb1⟩
              have HB1 := Lib.hid hb1
              clear hb1
              go_wp2_with fail
              refine (P1.out _).mono ?_
              rintro e w1 ⟨rfl, rfl⟩
              go_wp2_with fail
              refine (P2.out _).mono ?_
              rintro e w1 ⟨rfl, rfl⟩
              go_wp2_with fail
              go_ret
              exact ⟨rfl, HB1.out⟩
            · rw [decide_eq_false hb] at P2
              rw [if_neg (fun h => hb h.2.2)] at hk
              subst hk
              have P1 := Lib.hid P1
              have P2 := Lib.hid P2
              clear hR hkc hsc eg h45 y45 n45 h0 hls hne hn h3 h4 h5 ha hb
              go_enter Tryd.func14, Tryd.ntmps14
              go_wp2_with fail
              refine S1.out.mono ?_
              rintro e w1 ⟨rfl, hb1⟩
              have HB1 := Lib.hid hb1
              clear hb1
              go_wp2_with fail
              refine (P1.out _).mono ?_
              rintro e w1 ⟨rfl, rfl⟩
              go_wp2_with fail
              refine (P2.out _).mono ?_
              rintro e w1 ⟨rfl, rfl⟩
              go_wp2_with fail
              go_ret
              exact ⟨rfl, HB1.out⟩
          · rw [decide_eq_false ha] at P1
            rw [if_neg (fun h => ha h.2.1)] at hk
            subst hk
            have P1 := Lib.hid P1
            clear hR hkc hsc eg h45 y45 n45 h0 hls hne hn h3 h4 h5 ha P2
            go_enter Tryd.func14, Tryd.ntmps14
            go_wp2_with fail
            refine S1.out.mono ?_
            rintro e w1 ⟨rfl, hb1⟩
            have HB1 := Lib.hid hb1
            clear hb1
            go_wp2_with fail
            refine (P1.out _).mono ?_
            rintro e w1 ⟨rfl, rfl⟩
            go_wp2_with fail
            go_ret
            exact ⟨rfl, HB1.out⟩
        · have t6 : decide ((6 : Int) ≤ s.size) = false := by simp; omega
          rw [if_neg (fun h => h6 (by omega))] at hk
          subst hk
          clear hR hkc hsc eg h45 y45 n45 h0 hls hne hn h3 h4 h5
          go_enter Tryd.func14, Tryd.ntmps14
          go_wp2_with fail
          refine S1.out.mono ?_
          rintro e w1 ⟨rfl, hb1⟩
          have HB1 := Lib.hid hb1
          clear hb1
          go_wp2_with fail
          go_ret
          exact ⟨rfl, HB1.out⟩
    · rw [kind_not _ (.inr hsc)] at hR
      subst hR
      rw [← hls] at hsc
      generalize scanN s.data.toList 0 = p at *
      obtain ⟨x, e⟩ := p
      unfold twoV at S1
      simp only at S1
      have S1 := Lib.hid S1
      have hq : (e != 0) = true ∨ ((e != 0) = false ∧ (x != (s.size : Int)) = true) := by
        by_cases h : e = 0
        · refine .inr ⟨by simp; exact h, ?_⟩
          rw [bne_iff_ne]
          intro h2; apply hsc; rw [h, h2]
        · exact .inl (by rw [bne_iff_ne]; exact h)
      clear hsc h0 hls
      rcases hq with q5 | ⟨q5, q6⟩
      all_goals
        go_enter Tryd.func14, Tryd.ntmps14
        go_wp2_with fail
        refine S1.out.mono ?_
        rintro e w1 ⟨rfl, hb1⟩
        have HB1 := Lib.hid hb1
        clear hb1
        go_wp2_with fail
        go_ret
        exact ⟨rfl, HB1.out⟩
end Go.Proofs.YthhlnahehpigeaaDoor
