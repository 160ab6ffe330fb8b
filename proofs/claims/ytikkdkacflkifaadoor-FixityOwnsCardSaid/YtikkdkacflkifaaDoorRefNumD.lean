/- DERIVED. The walk of the document's Scan of numbers. -/
import Derived.Test.YtikkdkacflkifaaDoorRefNumC
set_option linter.unusedSimpArgs false
set_option linter.unusedVariables false
namespace Go.Proofs.YtikkdkacflkifaaDoor
open Go.RowKit

theorem zero_dig (S : List UInt8) (i : Nat) (h : S[i]? = some 48) : digN 10 (S.drop i) ≠ 0 := by
  have hl := (List.getElem?_eq_some_iff.1 h).1
  have he := (List.getElem?_eq_some_iff.1 h).2
  rw [List.drop_eq_getElem_cons hl, digN_cons, he, if_pos (by decide)]
  omega
set_option maxRecDepth 20000 in
set_option maxHeartbeats 2000000 in
theorem refScan_pre (s : ByteArray) (i : Nat) (b : Int) (w : World) (hs : s.size ≤ 1152921504606846976) (hp : prefX (s.data.toList.drop i) = (b, 2)) (h48 : s.data.toList[i]? = some 48) (h2 : i + 2 < s.size) (hf : 0 < digN b (s.data.toList.drop (i + 2)))
    (hb : (b = 8 ∧ (s.data.toList[i + 1]? = some 111 ∨ s.data.toList[i + 1]? = some 79)) ∨ (b = 16 ∧ (s.data.toList[i + 1]? = some 120 ∨ s.data.toList[i + 1]? = some 88))) :
    Calls Tryd.prog 69 #[.string s, .int .i64 i] w fun e w' => e = .returned (pairV (scanI s.data.toList i)) ∧ w = w' := by
  have hil : i < s.data.toList.length := by rw [← Lib.size_eq]; omega
  rw [scanI_pre s.data.toList i hil b hp]
  have hdl := digN_le 10 (s.data.toList.drop i)
  rw [List.length_drop, ← Lib.size_eq] at hdl
  have hz := zero_dig _ _ h48
  have D0 := fun w => refDigits_any s i 10 w hs (by omega)
  have D := fun w => digitsI s (i + 2) (i + 2) b w hs (by omega) (by omega)
  obtain ⟨E, hE⟩ : ∃ E, i + digN 10 (s.data.toList.drop i) = E := ⟨_, rfl⟩
  rw [hE] at D0
  have hEi : i < E := by omega
  generalize digN b (s.data.toList.drop (i + 2)) = f at *
  have D0 := Lib.hid D0
  have b1 : i + 1 < s.size := by omega
  have hi : i < s.size := by omega
  simp only [some_at b1, some_at hi] at hb h48
  obtain ⟨y0, n0⟩ := byteK s[i] 48 48 rfl (by decide)
  obtain ⟨y1, n1⟩ := byteK s[i + 1] 111 111 rfl (by decide)
  obtain ⟨y2, n2⟩ := byteK s[i + 1] 79 79 rfl (by decide)
  obtain ⟨y3, n3⟩ := byteK s[i + 1] 120 120 rfl (by decide)
  obtain ⟨y4, n4⟩ := byteK s[i + 1] 88 88 rfl (by decide)
  obtain ⟨a1, a2⟩ := y0 h48
  have hq : (b = 8 ∧ (((s[i + 1].toNat : Int) == 111) = true ∨ (((s[i + 1].toNat : Int) == 111) = false ∧ ((s[i + 1].toNat : Int) == 79) = true)) ∧ ((s[i + 1].toNat : Int) == 120) = false ∧ ((s[i + 1].toNat : Int) == 88) = false) ∨
      (b = 16 ∧ (((s[i + 1].toNat : Int) == 120) = true ∨ (((s[i + 1].toNat : Int) == 120) = false ∧ ((s[i + 1].toNat : Int) == 88) = true)) ∧ ((s[i + 1].toNat : Int) == 111) = false ∧ ((s[i + 1].toNat : Int) == 79) = false) := by
    rcases hb with ⟨hb, hc⟩ | ⟨hb, hc⟩
    · left
      have hn : s[i + 1] ≠ 120 ∧ s[i + 1] ≠ 88 := by
        refine ⟨fun h => ?_, fun h => ?_⟩ <;> rcases hc with hc | hc <;> rw [h] at hc <;> revert hc <;> decide
      refine ⟨hb, ?_, (n3 hn.1).1, (n4 hn.2).1⟩
      by_cases h : s[i + 1] = 111
      · exact .inl (y1 h).1
      · exact .inr ⟨(n1 h).1, (y2 (hc.resolve_left h)).1⟩
    · right
      have hn : s[i + 1] ≠ 111 ∧ s[i + 1] ≠ 79 := by
        refine ⟨fun h => ?_, fun h => ?_⟩ <;> rcases hc with hc | hc <;> rw [h] at hc <;> revert hc <;> decide
      refine ⟨hb, ?_, (n1 hn.1).1, (n2 hn.2).1⟩
      by_cases h : s[i + 1] = 120
      · exact .inl (y3 h).1
      · exact .inr ⟨(n3 h).1, (y4 (hc.resolve_left h)).1⟩
  have t0 : decide ((i : Int) < 0) = false := by simp
  have t1 : decide (s.size ≤ i) = false := by simp; omega
  have t2 : ((E : Int) == i) = false := by simp; omega
  have b3 : decide ((i : Int) + 1 < s.size) = true := by simp; omega
  have b4 : (i : Int) + 1 < s.size := by omega
  have b5 : (0 : Int) ≤ (i : Int) + 1 := by omega
  have b6 : ((i : Int) + 1).toNat = i + 1 := by omega
  have b9 : decide ((i : Int) + 2 < i + 2 + f) = true := by simp; omega
  clear hp h48 hf hb y0 n0 y1 n1 y2 n2 y3 n3 y4 n4 hil hdl hz hE
  rcases hq with ⟨rfl, q, q3, q4⟩ | ⟨rfl, q, q3, q4⟩
  all_goals
    have D := Lib.hid D
    rcases q with q1 | ⟨q1, q2⟩
    all_goals
      go_enter Tryd.func69, Tryd.ntmps69
      go_upto_region 3 with (go_at_call 86; refine (D0.out _).mono ?_; rintro e w' ⟨rfl, rfl⟩)
      go_wp2_with (go_at_call 86; refine (D.out _).mono ?_; rintro e w' ⟨rfl, rfl⟩)
      go_ret2
      exact ⟨by unfold pairV; go_num, rfl⟩
set_option maxRecDepth 20000 in
set_option maxHeartbeats 2000000 in
theorem refScan_any (s : ByteArray) (i : Int) (w : World) (hs : s.size ≤ 1152921504606846976) :
    Calls Tryd.prog 69 #[.string s, .int .i64 i] w fun e w' => e = .returned (pairV (scanI s.data.toList i)) ∧ w = w' := by
  by_cases h : 0 ≤ i ∧ i < s.size
  · obtain ⟨i, rfl⟩ := Int.eq_ofNat_of_zero_le h.1
    have hi : i < s.size := by omega
    rcases pre_cases s i hi with ⟨hp, hh⟩ | ⟨b, hp, h48, h2, hf, hb⟩
    · by_cases hd : digN 10 (s.data.toList.drop i) = 0
      · rw [scanI_no _ _ hp hd]
        have D0 := fun w => refDigits_any s i 10 w hs (by omega)
        rw [hd] at D0
        have D0 := Lib.hid D0
        have t0 : decide ((i : Int) < 0) = false := by simp
        have t1 : decide (s.size ≤ i) = false := by simp; omega
        have t2 : ((i : Int) == i) = true := by simp
        clear h hp hh hd
        go_enter Tryd.func69, Tryd.ntmps69
        go_wp2_with (go_at_call 86; refine (D0.out _).mono ?_; rintro e w' ⟨rfl, rfl⟩)
        go_ret2
        exact ⟨rfl, rfl⟩
      · exact refScan_dec s i w hs hi hp hh hd
    · exact refScan_pre s i b w hs hp h48 h2 hf hb
  · have hF : scanI s.data.toList i = (0, 0) := by unfold scanI; rw [if_neg (by rw [← Lib.size_eq]; exact h)]
    rw [hF]
    clear hF
    by_cases h0 : i < 0
    · clear h
      go_enter Tryd.func69, Tryd.ntmps69
      go_wp2_with fail
      go_ret2
      exact ⟨rfl, rfl⟩
    · have h1 : (s.size : Int) ≤ i := by omega
      clear h
      go_enter Tryd.func69, Tryd.ntmps69
      go_wp2_with fail
      go_ret2
      exact ⟨rfl, rfl⟩
end Go.Proofs.YtikkdkacflkifaaDoor
