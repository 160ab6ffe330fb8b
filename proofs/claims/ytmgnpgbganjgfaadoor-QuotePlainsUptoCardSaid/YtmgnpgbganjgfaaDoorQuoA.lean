/- DERIVED. The walk of Plain. -/
import Derived.Test.YtmgnpgbganjgfaaDoorQuoteZ
import Derived.Test.YtmgnpgbganjgfaaDoorQuoteS
set_option linter.unusedSimpArgs false
set_option linter.unusedVariables false
namespace Go.Proofs.YtmgnpgbganjgfaaDoor
open Go.RowKit

/-- Gaps that lie in order. -/
def gapsOK (n : Nat) : Nat → List (Nat × Nat) → Prop
  | a, [] => a ≤ n
  | a, (x, y) :: r => a ≤ x ∧ x + 3 ≤ y ∧ gapsOK n y r
theorem gapsOK_le (n : Nat) (gs : List (Nat × Nat)) : ∀ a, gapsOK n a gs → a ≤ n := by
  induction gs with
  | nil => intro a h; exact h
  | cons g r ih =>
    obtain ⟨x, y⟩ := g
    intro a h
    obtain ⟨h1, h2, h3⟩ := h
    have := ih y h3
    omega
theorem gapsOK_lower (n : Nat) (gs : List (Nat × Nat)) (a b : Nat) (h : gapsOK n b gs) (hab : a ≤ b) : gapsOK n a gs := by
  cases gs with
  | nil => have : b ≤ n := h; show a ≤ n; omega
  | cons g r =>
    obtain ⟨x, y⟩ := g
    obtain ⟨h1, h2, h3⟩ := h
    exact ⟨by omega, h2, h3⟩
theorem gapP_two (l : List UInt8) (h : 0 < gapP l) : 2 ≤ gapP l := by
  unfold gapP at h ⊢
  split
  · next hc => omega
  · next hc => rw [if_neg hc] at h; omega
theorem readT_gaps (n : Nat) : ∀ (l : List UInt8) (i : Nat), l.length - i ≤ n → (readT l i).e = 0 → gapsOK l.length i (readT l i).gaps := by
  induction n with
  | zero => intro l i h he; rw [readT_end l _ (by omega)] at he; exact absurd he (by simp)
  | succ n ih =>
    intro l i h he
    by_cases hi : i < l.length
    · by_cases hq : l[i]? = some 34
      · rw [readT_quote l i hq]; show i ≤ l.length; omega
      · obtain ⟨c, k, ho, h1, h2, hon, he2, hte⟩ := readT_step l i hi hq he
        have hIH := ih l (i + k) (by omega) he2
        rw [hon]
        unfold RT.more
        simp only
        cases hg : isGap (l.drop i)
        · rw [if_neg (by simp)]; exact gapsOK_lower _ _ _ _ hIH (by omega)
        · rw [if_pos rfl]
          obtain ⟨_, hk⟩ := isGap_gap true (l.drop i) c k ho hg rfl
          have hp : 0 < gapP (l.drop i).tail := by
            cases hd : l.drop i with
            | nil => rw [hd] at hg; cases hg
            | cons b t =>
              rw [hd, isGap_cons, Bool.and_eq_true, decide_eq_true_eq, decide_eq_true_eq] at hg
              exact hg.2
          have := gapP_two _ hp
          exact ⟨Nat.le_refl _, by omega, hIH⟩
    · rw [readT_end l _ (by omega)] at he; exact absurd he (by simp)
theorem whole_gaps (l : List UInt8) (h : wholeE l = 0) : gapsOK l.length 0 (readP l 0).2.gaps := by
  rcases whole_cases l h with ⟨h0, hr, he, ht⟩ | ⟨h0, hr, he, ht⟩
  · rw [hr]; exact gapsOK_lower _ _ _ _ (readT_gaps _ l 1 (Nat.le_refl _) he) (by omega)
  · obtain ⟨c, n, _, _, _, g⟩ := readC_fine l 1 he
    rw [hr, g]; show 0 ≤ l.length; omega
theorem pair_at (gs : List (Nat × Nat)) : ∀ (j : Nat) (x y : Nat), gs[j]? = some (x, y) → (gs.flatMap pairC)[j * 2]? = some (.int .i64 (x : Int)) ∧ (gs.flatMap pairC)[j * 2 + 1]? = some (.int .i64 (y : Int)) := by
  induction gs with
  | nil => intro j x y h; simp at h
  | cons g r ih =>
    intro j x y h
    rw [List.flatMap_cons]
    cases j with
    | zero =>
      simp only [List.getElem?_cons_zero, Option.some.injEq] at h
      subst h
      exact ⟨rfl, rfl⟩
    | succ j =>
      rw [List.getElem?_cons_succ] at h
      have hl : (pairC g).length = 2 := rfl
      rw [List.getElem?_append_right (by rw [hl]; omega), List.getElem?_append_right (by rw [hl]; omega), hl, show (j + 1) * 2 - 2 = j * 2 from by omega, show (j + 1) * 2 + 1 - 2 = j * 2 + 1 from by omega]
      exact ih j x y h
/-- What Plain gives back. -/
def textV (p : List UInt8 × Int) : Value := .tuple #[.string ⟨p.1.toArray⟩, .int .i64 p.2]
def plainX (l : List UInt8) : List UInt8 × Int := if wholeE l = 0 then (plainP l, 0) else ([], wholeE l)
theorem plainG_step (l : List UInt8) (gs : List (Nat × Nat)) (j x y a : Nat) (h : gs[j]? = some (x, y)) : plainG l (gs.drop j) a = (l.take x).drop a ++ [92, 32, 92] ++ plainG l (gs.drop (j + 1)) y := by
  have hlt := (List.getElem?_eq_some_iff.1 h).1
  have he := (List.getElem?_eq_some_iff.1 h).2
  rw [List.drop_eq_getElem_cons hlt, he]; rfl
theorem gapsOK_step (n : Nat) (gs : List (Nat × Nat)) (j x y a : Nat) (h : gs[j]? = some (x, y)) (hg : gapsOK n a (gs.drop j)) : a ≤ x ∧ x + 3 ≤ y ∧ gapsOK n y (gs.drop (j + 1)) := by
  have hlt := (List.getElem?_eq_some_iff.1 h).1
  have he := (List.getElem?_eq_some_iff.1 h).2
  rw [List.drop_eq_getElem_cons hlt, he] at hg
  exact hg
theorem ba_ext {a b : ByteArray} (h : a.data.toList = b.data.toList) : a = b := by
  obtain ⟨a⟩ := a
  obtain ⟨b⟩ := b
  congr
  exact Array.ext' h
theorem ext_list (s : ByteArray) (a b : Nat) : (s.extract a b).data.toList = (s.data.toList.take b).drop a := by
  rw [List.drop_take]; simp [Lib.extract_eq]
theorem cat_gap (p : List UInt8) (s : ByteArray) (a b : Nat) : (⟨p.toArray⟩ : ByteArray) ++ (s.extract a b ++ ⟨#[92, 32, 92]⟩) = ⟨(p ++ ((s.data.toList.take b).drop a ++ [92, 32, 92])).toArray⟩ := by
  apply ba_ext
  rw [← ext_list]
  simp
theorem cat_end (p : List UInt8) (s : ByteArray) (a : Nat) : (⟨p.toArray⟩ : ByteArray) ++ s.extract a s.size = ⟨(p ++ s.data.toList.drop a).toArray⟩ := by
  apply ba_ext
  rw [← cut_data]
  simp
set_option maxRecDepth 20000 in
set_option maxHeartbeats 4000000 in
theorem plain_any (s : ByteArray) (w : World) (hs : s.size ≤ 16777216) (hT : Tabs5 w) :
    Calls Tryd.prog 18 #[.string s] w fun e w' => e = .returned (textV (plainX s.data.toList)) ∧ Below w.heap.size w w' := by
  have r1 := whole_any s w hs hT
  unfold WholePost at r1
  have hwg := whole_gaps s.data.toList
  rw [← Lib.size_eq] at hwg
  have hpx : plainX s.data.toList = if wholeE s.data.toList = 0 then (plainG s.data.toList (readP s.data.toList 0).2.gaps 0, 0) else ([], wholeE s.data.toList) := rfl
  rw [hpx]
  generalize readP s.data.toList 0 = P at *
  generalize wholeE s.data.toList = E at *
  have R1 := Lib.hid r1
  clear r1 hT hpx
  by_cases h0 : E = 0
  · rw [if_pos h0]
    have hok := hwg h0
    have q : (E != 0) = false := by rw [bne_eq_false_iff_eq]; exact h0
    have q2 : (E == 0) = true := beq_iff_eq.2 h0
    obtain ⟨Z, hZ⟩ : ∃ Z, plainG s.data.toList P.2.gaps 0 = Z := ⟨_, rfl⟩
    rw [hZ]
    have HZ := Lib.hid hZ
    have HOK := Lib.hid hok
    clear hZ hok hwg
    go_enter Tryd.func18, Tryd.ntmps18
    go_wp2_with fail
    refine R1.out.mono ?_
    rintro e w2 ⟨rfl, text, out, gaps, vo, vg, hR, hO⟩
    obtain ⟨_, hgg⟩ := hO h0
    subst hgg
    generalize P.2.gaps = G at *
    have HR := Lib.hid hR
    obtain ⟨_, _, _, _, c4, _⟩ := hR.cells
    obtain ⟨a, cap, rfl, hcell⟩ : ∃ a cap, vg = .slice a G.length cap ∧ (0 < G.length → ∃ g, a = some ⟨g, 0, none⟩ ∧ g < w2.heap.size ∧ ∀ i u, (G.flatMap pairC)[i]? = some u → w2.cell? ⟨g, i, none⟩ = some u) := by
      have hro := hR.2.2.2.2
      obtain ⟨hl, ⟨rfl, h2⟩ | ⟨g, cap, cur, rfl, hg, hgg, hnc, hcm, hsz, ht⟩⟩ := hro
      · exact ⟨none, 0, by rw [h2], fun h => by omega⟩
      · refine ⟨_, _, rfl, fun _ => ⟨g, rfl, (Array.getElem?_eq_some_iff.1 hgg).1, fun i u hu => ?_⟩⟩
        rw [cell_of_row _ _ _ _ _ _ hgg, ← Array.getElem?_toList]
        rw [← ht] at hu
        rw [List.getElem?_take] at hu
        split at hu
        · exact hu
        · cases hu
    have HC := Lib.hid hcell
    have HGL := Lib.hid (show G.length ≤ 16777216 from by
      have key : ∀ (gs : List (Nat × Nat)) (a : Nat), gapsOK s.size a gs → gs.length + a ≤ s.size := by
        intro gs
        induction gs with
        | nil => intro a h; have : a ≤ s.size := h; simp; exact this
        | cons g r ih =>
          obtain ⟨x, y⟩ := g
          intro a h
          obtain ⟨h1, h2, h3⟩ := h
          have := ih y h3
          simp only [List.length_cons]; omega
      have := key G 0 HOK.out
      omega)
    have hgl := HGL.out
    clear hR hO hcell
    go_wp2_with fail
    go_loopw [6, 7, 23] (fun ov fv jv wr => ∃ (j fr : Nat) (acc : List UInt8), ov = .string ⟨acc.toArray⟩ ∧ fv = .int .i64 (fr : Int) ∧ jv = .int .i64 (j : Int) ∧ j ≤ G.length ∧ acc.length ≤ fr ∧ gapsOK s.size fr (G.drop j) ∧ acc ++ plainG s.data.toList (G.drop j) fr = Z ∧ Below w2.heap.size w2 wr) (fun _ _ jv _ => G.length - (intOf jv).toNat)
    case atStart => exact ⟨0, 0, [], rfl, rfl, rfl, Nat.zero_le _, Nat.le_refl _, HOK.out, HZ.out, Below.refl _ _⟩
    case round =>
      obtain ⟨j, fr, acc, rfl, rfl, rfl, hj, hacc, hgo, hZj, hb⟩ := hrel
      have hfl := gapsOK_le _ _ _ hgo
      have HB := Lib.hid hb
      have HGO := Lib.hid hgo
      have HZJ := Lib.hid hZj
      clear hb hgo hZj
      by_cases hjl : j < G.length
      · obtain ⟨g, rfl, hgw, hcl⟩ := HC.out (by omega)
        obtain ⟨⟨x, y⟩, hxy⟩ : ∃ p : Nat × Nat, G[j]? = some p := ⟨_, List.getElem?_eq_getElem hjl⟩
        obtain ⟨u0, u1⟩ := pair_at G j x y hxy
        obtain ⟨o1, o2, o3⟩ := gapsOK_step _ _ _ _ _ _ hxy HGO.out
        have hy := gapsOK_le _ _ _ o3
        have hst := HZJ.out
        rw [plainG_step _ _ _ _ _ _ hxy, ← List.append_assoc] at hst
        have e0 : wr.cell? ⟨g, j * 2, none⟩ = some (.int .i64 (x : Int)) := by rw [HB.out.cell (by exact hgw)]; exact hcl _ _ u0
        have e1 : wr.cell? ⟨g, j * 2 + 1, none⟩ = some (.int .i64 (y : Int)) := by rw [HB.out.cell (by exact hgw)]; exact hcl _ _ u1
        have HO3 := Lib.hid o3
        have HST := Lib.hid hst
        have HCG := Lib.hid (cat_gap acc s fr x)
        have HAL := Lib.hid (show (acc ++ ((s.data.toList.take x).drop fr ++ [92, 32, 92])).length ≤ y from by
          rw [List.length_append, List.length_append, List.length_drop, List.length_take]
          simp only [List.length_cons, List.length_nil]
          rw [← Lib.size_eq]
          omega)
        have hzA : (⟨acc.toArray⟩ : ByteArray).size = acc.length := by simp only [ByteArray.size, List.size_toArray]
        have hzB : (s.extract fr x).size = x - fr := by simp only [ByteArray.size_extract]; omega
        have hzC : (⟨#[92, 32, 92]⟩ : ByteArray).size = 3 := rfl
        have b1 : (fr : Int) ≤ x := by omega
        have b2 : (x : Int) ≤ s.size := by omega
        have b3 : (0 : Int) ≤ fr := by omega
        have hadd : ¬ 9223372036854775807 < (s.extract fr x).size + (⟨#[92, 32, 92]⟩ : ByteArray).size := by rw [hzB, hzC]; omega
        have hadd2 : ¬ 9223372036854775807 < (⟨acc.toArray⟩ : ByteArray).size + (s.extract fr x ++ ⟨#[92, 32, 92]⟩).size := by rw [ByteArray.size_append, hzA, hzB, hzC]; omega
        have hadd3 : ¬ 9223372036854775807 < (⟨acc.toArray⟩ : ByteArray).size + ((s.extract fr x).size + (⟨#[92, 32, 92]⟩ : ByteArray).size) := by rw [hzA, hzB, hzC]; omega
        clear hst o3 u0 u1 hcl hxy hzA hzB hzC
        generalize (⟨acc.toArray⟩ : ByteArray) = A at *
        go_wp2_with fail
        go_roundw
        case rel => exact ⟨j + 1, y, _, by rw [HCG.out], rfl, by go_num, by omega, HAL.out, HO3.out, HST.out, HB.out.alloc HB.out.size _⟩
        case measure => simp [intOf]; omega
      · have hj' : j = G.length := by omega
        have hst := HZJ.out
        rw [List.drop_of_length_le (by omega : G.length ≤ j)] at hst
        have HST := Lib.hid (show acc ++ s.data.toList.drop fr = Z from hst)
        have HCE := Lib.hid (cat_end acc s fr)
        have hzA : (⟨acc.toArray⟩ : ByteArray).size = acc.length := by simp only [ByteArray.size, List.size_toArray]
        have hzB : (s.extract fr s.size).size = s.size - fr := by simp only [ByteArray.size_extract]; omega
        have b1 : (fr : Int) ≤ s.size := by omega
        have b3 : (0 : Int) ≤ fr := by omega
        have hadd : ¬ 9223372036854775807 < (⟨acc.toArray⟩ : ByteArray).size + (s.extract fr s.size).size := by rw [hzA, hzB]; omega
        clear hst hj' hzA hzB
        generalize (⟨acc.toArray⟩ : ByteArray) = A at *
        go_wp2_with fail
        go_ret2
        exact ⟨by rw [HCE.out, HST.out]; rfl, HR.out.2.2.1.trans (HB.out.mono (by have := HR.out.2.2.1.size; omega))⟩
  · rw [if_neg h0]
    have q : (E != 0) = true := by rw [bne_iff_ne]; exact h0
    have q2 : (E == 0) = false := beq_eq_false_iff_ne.2 h0
    clear hwg
    go_enter Tryd.func18, Tryd.ntmps18
    go_wp2_with fail
    refine R1.out.mono ?_
    rintro e w2 ⟨rfl, text, out, gaps, vo, vg, hR, hO⟩
    have HR := Lib.hid hR
    clear hR hO
    go_wp2_with fail
    go_ret2
    exact ⟨rfl, HR.out.2.2.1⟩
end Go.Proofs.YtmgnpgbganjgfaaDoor
