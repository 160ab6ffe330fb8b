/- DERIVED. Numbers in a slice; the walk of the reference's SameInts. -/
import Derived.Test.YtmgnpgbganjgfaaDoorQuoteX
set_option linter.unusedSimpArgs false
set_option linter.unusedVariables false
namespace Go.Proofs.YtmgnpgbganjgfaaDoor
open Go.RowKit

/-- Numbers that lie in a slice. -/
def IntsAt (w : World) (v : Value) (L : List Int) : Prop :=
  ∃ a c, v = .slice a L.length c ∧ (0 < L.length → ∃ b o, a = some ⟨b, o, none⟩ ∧ b < w.heap.size ∧ L.length ≤ c ∧ ∀ i u, L[i]? = some u → w.cell? ⟨b, o + i, none⟩ = some (.int .i64 u))
theorem IntsAt.keep {w w' : World} {v : Value} {L : List Int} (h : IntsAt w v L) (hb : Below w.heap.size w w') : IntsAt w' v L := by
  obtain ⟨a, c, rfl, h⟩ := h
  refine ⟨a, c, rfl, fun h0 => ?_⟩
  obtain ⟨b, o, rfl, h1, h2, h3⟩ := h h0
  exact ⟨b, o, rfl, Nat.lt_of_lt_of_le h1 hb.size, h2, fun i u hu => by rw [hb.cell (by exact h1)]; exact h3 i u hu⟩
/-- The call's own row of numbers. -/
theorem ints_own {w : World} {B : Nat} {v : Value} {l : List Int} (h : w.ownsRow B 3 1 v l.length (l.map (.int .i64))) : IntsAt w v l ∧ l.length ≤ 9223372036854775807 := by
  rcases id h.2 with ⟨rfl, h1⟩ | ⟨g, cap, cur, rfl, hg, hgg, hnc, hcm, _⟩
  · exact ⟨⟨none, 0, by rw [h1], fun h0 => by omega⟩, by omega⟩
  · refine ⟨⟨_, _, rfl, fun h0 => ⟨g, 0, rfl, (Array.getElem?_eq_some_iff.1 hgg).1, hnc, fun i u hu => ?_⟩⟩, Nat.le_trans hnc (Nat.le_trans hcm (by decide))⟩
    have hi := (List.getElem?_eq_some_iff.1 hu).1
    rw [Nat.zero_add, World.ownsRow.cellAt h i (by omega), List.getElem?_map, hu]; rfl
theorem rows_sameI (l m : List Int) (hlen : l.length = m.length) (h : ∀ j, j < l.length → l[j]? = m[j]?) : l = m := by
  apply List.ext_getElem?
  intro j
  by_cases hj : j < l.length
  · exact h j hj
  · rw [List.getElem?_eq_none (by omega), List.getElem?_eq_none (by omega)]
set_option maxRecDepth 20000 in
set_option maxHeartbeats 2000000 in
theorem sameI_any (va vb : Value) (l m : List Int) (w : World) (h1 : IntsAt w va l) (h2 : IntsAt w vb m) (hfew : l.length ≤ 9223372036854775807) (hfew2 : m.length ≤ 9223372036854775807) :
    Calls Tryd.prog 15 #[va, vb] w fun e w' => e = .returned (.bool (decide (l = m))) ∧ Below w.heap.size w w' := by
  obtain ⟨a1, c1, rfl, h1⟩ := h1
  obtain ⟨a2, c2, rfl, h2⟩ := h2
  by_cases hlen : l.length = m.length
  · obtain ⟨R, hR⟩ : ∃ R, decide (l = m) = R := ⟨_, rfl⟩
    rw [hR]
    have HR := Lib.hid hR
    clear hR
    rw [← hlen] at h2 ⊢
    have hl2 : m.length = l.length := hlen.symm
    generalize hn : l.length = n at *
    have HN := Lib.hid hn
    have HM := Lib.hid hl2
    have H1 := Lib.hid h1
    have H2 := Lib.hid h2
    clear hlen hl2 hn h1 h2
    go_enter Tryd.func15, Tryd.ntmps15
    go_wp2_with fail
    go_loopw [5] (fun c wr => ∃ i : Nat, c = .int .i64 i ∧ i ≤ n ∧ Below w.heap.size w wr ∧ ∀ j, j < i → l[j]? = m[j]?) (fun c _ => n - (intOf c).toNat)
    case atStart => exact ⟨0, rfl, by omega, Below.refl _ _, fun j hj => by omega⟩
    case round =>
      obtain ⟨i, rfl, hi, hb, hA⟩ := hrel
      have HB := Lib.hid hb
      have HA := Lib.hid hA
      clear hb hA
      by_cases hin : i < n
      · obtain ⟨g, o, rfl, hgl, hgc, hcell⟩ := H1.out (by omega)
        obtain ⟨g2, o2, rfl, hgl2, hgc2, hcell2⟩ := H2.out (by omega)
        have hlg : l[i]? = some (l[i]'(by rw [HN.out]; exact hin)) := List.getElem?_eq_getElem _
        have hmg : m[i]? = some (m[i]'(by rw [HM.out]; exact hin)) := List.getElem?_eq_getElem _
        generalize l[i]'(by rw [HN.out]; exact hin) = x at *
        generalize m[i]'(by rw [HM.out]; exact hin) = y at *
        have e1 : wr.cell? ⟨g, o + i, none⟩ = some (.int .i64 x) := by rw [HB.out.cell (by exact hgl)]; exact hcell i x hlg
        have e2 : wr.cell? ⟨g2, o2 + i, none⟩ = some (.int .i64 y) := by rw [HB.out.cell (by exact hgl2)]; exact hcell2 i y hmg
        have HLG := Lib.hid hlg
        have HMG := Lib.hid hmg
        clear hcell hcell2 hlg hmg
        by_cases hxy : x = y
        · have q1 : (x == y) = true := beq_iff_eq.2 hxy
          have q2 : (x != y) = false := by rw [bne_eq_false_iff_eq]; exact hxy
          have HA2 := Lib.hid (show ∀ j, j < i + 1 → l[j]? = m[j]? from by
            intro j hj
            by_cases hji : j = i
            · subst hji; rw [HLG.out, HMG.out, hxy]
            · exact HA.out j (by omega))
          clear hxy
          go_wp2_with fail
          go_quiet (fail)
          go_wp2_with fail
          go_roundw
          case rel => exact ⟨i + 1, by go_num, by omega, below_drewN HB.out _, HA2.out⟩
          case measure => simp [intOf]; omega
        · have q1 : (x == y) = false := beq_eq_false_iff_ne.2 hxy
          have q2 : (x != y) = true := by rw [bne_iff_ne]; exact hxy
          have HF := Lib.hid (show R = false from by
            rw [← HR.out]
            apply decide_eq_false
            rintro rfl
            apply hxy
            have := HLG.out
            rw [HMG.out] at this
            injection this with this
            exact this.symm)
          clear hxy
          go_wp2_with fail
          go_quiet (fail)
          go_wp2_with fail
          go_ret
          exact ⟨by rw [HF.out]; rfl, below_drewN HB.out _⟩
      · have t3 : decide ((i : Int) < n) = false := by simp; omega
        have HT := Lib.hid (show R = true from by
          rw [← HR.out]
          exact decide_eq_true (rows_sameI l m (by rw [HN.out, HM.out]) (fun j hj => HA.out j (by rw [HN.out] at hj; omega))))
        go_wp2_with fail
        go_ret
        exact ⟨by rw [HT.out]; rfl, HB.out⟩
  · have hR : decide (l = m) = false := decide_eq_false (fun h => hlen (by rw [h]))
    rw [hR]
    have q : ((l.length : Int) == (m.length : Int)) = false := beq_eq_false_iff_ne.2 (by omega)
    have q2 : ((l.length : Int) != (m.length : Int)) = true := by rw [bne_iff_ne]; omega
    clear h1 h2 hR
    generalize l.length = n1 at *
    generalize m.length = n2 at *
    go_enter Tryd.func15, Tryd.ntmps15
    go_wp2_with fail
    go_ret
    exact ⟨rfl, Below.refl _ _⟩
end Go.Proofs.YtmgnpgbganjgfaaDoor
