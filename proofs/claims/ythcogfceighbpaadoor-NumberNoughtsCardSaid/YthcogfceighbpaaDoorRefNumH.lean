/- DERIVED. The walks of the document's short and Same. -/
import Derived.Test.YthcogfceighbpaaDoorRefNumG
import Derived.Test.YthcogfceighbpaaDoorRefNumF
import Derived.Test.YthcogfceighbpaaDoorNumK
set_option linter.unusedSimpArgs false
set_option linter.unusedVariables false
namespace Go.Proofs.YthcogfceighbpaaDoor
open Go.RowKit

theorem dec_bare (u : Nat) : bareL (Lib.decDigits u) = Lib.decDigits u := by rw [bare_dec _ (decDigits_dig u) (decDigits_ne u), nat10_dec]
/-- Digits of a whole number stand as they are: the document shortens them as the program does. -/
theorem decX_bare (l : List UInt8) (h : (decimalX l).2 = 0) : bareL (decimalX l).1 = (decimalX l).1 ∧ (decimalX l).1 ≠ [] := by
  unfold decimalX at h ⊢
  split
  · next hI =>
    rw [if_pos hI] at h
    split
    · next hl => rw [if_pos hl] at h; cases h
    · exact ⟨dec_bare _, decDigits_ne _⟩
  · next hI => rw [if_neg hI] at h; cases h
set_option maxRecDepth 20000 in
set_option maxHeartbeats 4000000 in
theorem refWorth_any (s : ByteArray) (w : World) (hs : s.size ≤ 1152921504606846976) :
    Calls Tryd.prog 39 #[.string s] w fun e w' => e = .returned (worthV (worthX s.data.toList)) ∧ Below w.heap.size w w' := by
  have d1 := refDecimal_any s w hs
  have f1 := fun w => refFloat_any s w hs
  obtain ⟨hdl, hde⟩ := decX_len s.data.toList
  have hfe := floatX_err s.data.toList
  have hdb := decX_bare s.data.toList
  unfold DecPost at d1
  unfold worthX
  generalize decimalX s.data.toList = D at *
  generalize floatX s.data.toList = F at *
  obtain ⟨D, e⟩ := D
  obtain ⟨F, n, e2⟩ := F
  simp only at hdl hde hfe hdb ⊢
  have D1 := Lib.hid d1
  have F1 := Lib.hid f1
  by_cases he : e = 0
  · subst he
    rw [if_pos rfl]
    obtain ⟨hb, hne⟩ := hdb rfl
    have s1 := fun w => refShort_at D 0 w hne (by omega) (by omega) (by omega)
    rw [hb] at s1
    generalize shortX D 0 = X at *
    have S1 := Lib.hid s1
    clear s1 d1 f1 hde hfe hdb hb
    go_enter Tryd.func39, Tryd.ntmps39
    go_wp2_with fail
    refine D1.out.mono ?_
    rintro e w1 ⟨rfl, hb1⟩
    have HB1 := Lib.hid hb1
    clear hb1
    unfold textV
    go_wp2_with fail
    refine (S1.out _).mono ?_
    rintro e w2 ⟨rfl, rfl⟩
    unfold shortV
    go_wp2_with fail
    go_ret3
    exact ⟨rfl, HB1.out⟩
  · rw [if_neg he]
    have he1 : (e == 0) = false := by simpa using he
    have q1 : decide (e = 0) = false := by simpa using he
    clear d1 f1 hdb
    go_enter Tryd.func39, Tryd.ntmps39
    go_wp2_with fail
    refine D1.out.mono ?_
    rintro e' w1 ⟨rfl, hb1⟩
    have HB1 := Lib.hid hb1
    clear hb1
    unfold textV
    go_wp2_with fail
    refine (F1.out _).mono ?_
    rintro e' w2 ⟨rfl, rfl⟩
    unfold floatV
    go_wp2_with fail
    go_ret3
    exact ⟨rfl, HB1.out⟩
set_option maxRecDepth 20000 in
set_option maxHeartbeats 4000000 in
theorem refSame_any (a b : ByteArray) (w : World) (ha : a.size ≤ 1152921504606846976) (hb : b.size ≤ 1152921504606846976) :
    Calls Tryd.prog 21 #[.string a, .string b] w fun e w' => e = .returned (.bool (sameW (worthX a.data.toList) (worthX b.data.toList))) ∧ Below w.heap.size w w' := by
  have a1 := refWorth_any a w ha
  have b1 := fun w => refWorth_any b w hb
  generalize worthX a.data.toList = X at *
  generalize worthX b.data.toList = Y at *
  obtain ⟨c, m, ok⟩ := X
  obtain ⟨d, n, is⟩ := Y
  have A1 := Lib.hid a1
  have B1 := Lib.hid b1
  clear a1 b1
  unfold worthV at A1 B1
  simp only at A1 B1
  unfold sameW
  simp only
  have hcd2 : ((⟨c.toArray⟩ : ByteArray).toList == (⟨d.toArray⟩ : ByteArray).toList) = decide (c = d) := by
    rw [Lib.toList_data, Lib.toList_data, Bool.eq_iff_iff]; simp
  generalize (⟨c.toArray⟩ : ByteArray) = cz at *
  generalize (⟨d.toArray⟩ : ByteArray) = dz at *
  generalize decide (c = d) = q at *
  cases ok
  · go_enter Tryd.func21, Tryd.ntmps21
    go_wp2_with fail
    refine A1.out.mono ?_
    rintro e' w1 ⟨rfl, hb1⟩
    have HB1 := Lib.hid hb1
    clear hb1
    go_wp2_with fail
    refine (B1.out _).mono ?_
    rintro e' w2 ⟨rfl, hb2⟩
    have HB2 := Lib.hid (Below.then HB1.out hb2)
    clear hb2
    go_wp2_with fail
    go_ret
    exact ⟨rfl, HB2.out⟩
  · cases is
    · go_enter Tryd.func21, Tryd.ntmps21
      go_wp2_with fail
      refine A1.out.mono ?_
      rintro e' w1 ⟨rfl, hb1⟩
      have HB1 := Lib.hid hb1
      clear hb1
      go_wp2_with fail
      refine (B1.out _).mono ?_
      rintro e' w2 ⟨rfl, hb2⟩
      have HB2 := Lib.hid (Below.then HB1.out hb2)
      clear hb2
      go_wp2_with fail
      go_ret
      exact ⟨rfl, HB2.out⟩
    · cases q
      · go_enter Tryd.func21, Tryd.ntmps21
        go_wp2_with fail
        refine A1.out.mono ?_
        rintro e' w1 ⟨rfl, hb1⟩
        have HB1 := Lib.hid hb1
        clear hb1
        go_wp2_with fail
        refine (B1.out _).mono ?_
        rintro e' w2 ⟨rfl, hb2⟩
        have HB2 := Lib.hid (Below.then HB1.out hb2)
        clear hb2
        go_wp2_with fail
        go_ret
        exact ⟨rfl, HB2.out⟩
      · go_enter Tryd.func21, Tryd.ntmps21
        go_wp2_with fail
        refine A1.out.mono ?_
        rintro e' w1 ⟨rfl, hb1⟩
        have HB1 := Lib.hid hb1
        clear hb1
        go_wp2_with fail
        refine (B1.out _).mono ?_
        rintro e' w2 ⟨rfl, hb2⟩
        have HB2 := Lib.hid (Below.then HB1.out hb2)
        clear hb2
        go_wp2_with fail
        go_ret
        refine ⟨?_, HB2.out⟩
        first | rfl | (simp) | trace_state
end Go.Proofs.YthcogfceighbpaaDoor
