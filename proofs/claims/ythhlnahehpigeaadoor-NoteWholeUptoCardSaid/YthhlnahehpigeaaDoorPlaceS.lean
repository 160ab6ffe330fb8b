/- DERIVED. The walk of the reference's Same, of any two rows of texts. -/
import Derived.Test.YthhlnahehpigeaaDoorNoteE
set_option linter.unusedSimpArgs false
set_option linter.unusedVariables false
namespace Go.Proofs.YthhlnahehpigeaaDoor
open Go.RowKit

theorem rows_same (l m : List (List UInt8)) (hlen : l.length = m.length) (h : ∀ j, j < l.length → l[j]? = m[j]?) : l = m := by
  apply List.ext_getElem? 
  intro j
  by_cases hj : j < l.length
  · exact h j hj
  · rw [List.getElem?_eq_none (by omega), List.getElem?_eq_none (by omega)]
set_option maxRecDepth 20000 in
set_option maxHeartbeats 2000000 in
theorem sameR_any (va vb : Value) (l m : List (List UInt8)) (B1 B2 : Nat) (w : World) (h1 : OwnsT w B1 va l) (h2 : OwnsT w B2 vb m) :
    Calls Tryd.prog 18 #[va, vb] w fun e w' => e = .returned (.bool (decide (l = m))) ∧ Below w.heap.size w w' := by
  obtain ⟨a1, c1, rfl⟩ := h1.shape
  obtain ⟨a2, c2, rfl⟩ := h2.shape
  have hfew := h1.few
  have hfew2 := h2.few
  by_cases hlen : l.length = m.length
  · obtain ⟨R, hR⟩ : ∃ R, decide (l = m) = R := ⟨_, rfl⟩
    rw [hR]
    have HR := Lib.hid hR
    clear hR
    rw [← hlen] at h2 ⊢
    have hl2 : m.length = l.length := hlen.symm
    generalize hn : l.length = n at *
    have HN := Lib.hid hn
    have HM := Lib.hid hl2
    have H1 := Lib.hid h1
    have H2 := Lib.hid h2
    clear hlen hl2 hn h1 h2
    go_enter Tryd.func18, Tryd.ntmps18
    go_wp2_with fail
    go_loopw [5] (fun c wr => ∃ i : Nat, c = .int .i64 i ∧ i ≤ n ∧ Below w.heap.size w wr ∧ ∀ j, j < i → l[j]? = m[j]?) (fun c _ => n - (intOf c).toNat)
    case atStart => exact ⟨0, rfl, by omega, Below.refl _ _, fun j hj => by omega⟩
    case round =>
      obtain ⟨i, rfl, hi, hb, hA⟩ := hrel
      have HB := Lib.hid hb
      have HA := Lib.hid hA
      clear hb hA
      by_cases hin : i < n
      · obtain ⟨g, rfl, hBg, hgl, hgc, hcell⟩ := H1.out.form HN.out (by omega)
        obtain ⟨g2, rfl, hBg2, hgl2, hgc2, hcell2⟩ := H2.out.form HM.out (by omega)
        obtain ⟨hx0, _⟩ := hcell i (l[i]'(by rw [HN.out]; exact hin)) (List.getElem?_eq_getElem _)
        obtain ⟨hy0, _⟩ := hcell2 i (m[i]'(by rw [HM.out]; exact hin)) (List.getElem?_eq_getElem _)
        have hlg : l[i]? = some (l[i]'(by rw [HN.out]; exact hin)) := List.getElem?_eq_getElem _
        have hmg : m[i]? = some (m[i]'(by rw [HM.out]; exact hin)) := List.getElem?_eq_getElem _
        generalize l[i]'(by rw [HN.out]; exact hin) = x at *
        generalize m[i]'(by rw [HM.out]; exact hin) = y at *
        have e1 : wr.cell? ⟨g, i, none⟩ = some (.string ⟨x.toArray⟩) := by rw [HB.out.cell (by exact hgl)]; exact hx0
        have e2 : wr.cell? ⟨g2, i, none⟩ = some (.string ⟨y.toArray⟩) := by rw [HB.out.cell (by exact hgl2)]; exact hy0
        have hq : ((⟨x.toArray⟩ : ByteArray).toList == (⟨y.toArray⟩ : ByteArray).toList) = decide (x = y) := by rw [Lib.toList_data, Lib.toList_data]; rw [Bool.eq_iff_iff]; simp
        have HLG := Lib.hid hlg
        have HMG := Lib.hid hmg
        clear hcell hcell2 hx0 hy0 hlg hmg
        by_cases hxy : x = y
        · rw [decide_eq_true hxy] at hq
          have HA2 := Lib.hid (show ∀ j, j < i + 1 → l[j]? = m[j]? from by
            intro j hj
            by_cases hji : j = i
            · subst hji; rw [HLG.out, HMG.out, hxy]
            · exact HA.out j (by omega))
          clear hxy
          generalize (⟨x.toArray⟩ : ByteArray) = x2 at *
          generalize (⟨y.toArray⟩ : ByteArray) = y2 at *
          go_wp2_with fail
          go_quiet (fail)
          go_wp2_with fail
          go_roundw
          case rel => exact ⟨i + 1, by go_num, by omega, below_drewN HB.out _, HA2.out⟩
          case measure => simp [intOf]; omega
        · rw [decide_eq_false hxy] at hq
          have HF := Lib.hid (show R = false from by
            rw [← HR.out]
            apply decide_eq_false
            rintro rfl
            apply hxy
            have := HLG.out
            rw [HMG.out] at this
            injection this with this
            exact this.symm)
          clear hxy
          generalize (⟨x.toArray⟩ : ByteArray) = x2 at *
          generalize (⟨y.toArray⟩ : ByteArray) = y2 at *
          go_wp2_with fail
          go_quiet (fail)
          go_wp2_with fail
          go_ret
          exact ⟨by rw [HF.out]; rfl, below_drewN HB.out _⟩
      · have t3 : decide ((i : Int) < n) = false := by simp; omega
        have HT := Lib.hid (show R = true from by
          rw [← HR.out]
          exact decide_eq_true (rows_same l m (by rw [HN.out, HM.out]) (fun j hj => HA.out j (by rw [HN.out] at hj; omega))))
        go_wp2_with fail
        go_ret
        exact ⟨by rw [HT.out]; rfl, HB.out⟩
  · have hR : decide (l = m) = false := decide_eq_false (fun h => hlen (by rw [h]))
    rw [hR]
    have q : ((l.length : Int) == (m.length : Int)) = false := beq_eq_false_iff_ne.2 (by omega)
    have q2 : ((l.length : Int) != (m.length : Int)) = true := by rw [bne_iff_ne]; omega
    clear h1 h2 hR
    generalize l.length = n1 at *
    generalize m.length = n2 at *
    go_enter Tryd.func18, Tryd.ntmps18
    go_wp2_with fail
    go_ret
    exact ⟨rfl, Below.refl _ _⟩
end Go.Proofs.YthhlnahehpigeaaDoor
