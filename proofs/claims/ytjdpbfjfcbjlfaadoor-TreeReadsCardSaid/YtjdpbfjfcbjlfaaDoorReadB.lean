/- DERIVED. The walk of number. -/
import Derived.Test.YtjdpbfjfcbjlfaaDoorReadA
set_option linter.unusedSimpArgs false
set_option linter.unusedVariables false
namespace Go.Proofs.YtjdpbfjfcbjlfaaDoor
open Go.RowKit

def isDig (c : UInt8) : Bool := 48 ≤ c && c ≤ 57
theorem isDig_iff {c : UInt8} : isDig c = true ↔ 48 ≤ c.toNat ∧ c.toNat ≤ 57 := by
  unfold isDig
  simp only [Bool.and_eq_true, decide_eq_true_eq, UInt8.le_iff_toNat_le]; simp
/-- Digits, so many at the most: what they are worth, and how many there are. -/
def numGo : Nat → List UInt8 → Nat → Nat × Nat
  | 0, _, v => (v, 0)
  | _ + 1, [], v => (v, 0)
  | f + 1, c :: r, v => if isDig c = true then ((numGo f r (v * 10 + (c.toNat - 48))).1, (numGo f r (v * 10 + (c.toNat - 48))).2 + 1) else (v, 0)
/-- Are digits a number below a limit? -/
def numOk (l : List UInt8) (limit : Int) : Bool := decide (0 < (numGo 3 l 0).2) && ((decide ((numGo 3 l 0).2 = 1) || l.getD 0 0 != 48) && decide (((numGo 3 l 0).1 : Int) < limit))
theorem numGo_on (f : Nat) (l : List UInt8) (v : Nat) (c : UInt8) (h : l[0]? = some c) (hd : isDig c = true) : numGo (f + 1) l v = ((numGo f (l.drop 1) (v * 10 + (c.toNat - 48))).1, (numGo f (l.drop 1) (v * 10 + (c.toNat - 48))).2 + 1) := by
  cases l with
  | nil => simp at h
  | cons a r => simp at h; subst h; rw [numGo, if_pos hd]; rfl
theorem numGo_off (f : Nat) (l : List UInt8) (v : Nat) (h : ∀ c, l[0]? = some c → isDig c = false) : numGo f l v = (v, 0) := by
  cases f with
  | zero => rfl
  | succ f =>
    cases l with
    | nil => rfl
    | cons a r => rw [numGo, if_neg (by simp [h a rfl])]
theorem numGo_bd (f : Nat) : ∀ (l : List UInt8) (v : Nat), (numGo f l v).2 ≤ f ∧ (numGo f l v).2 ≤ l.length := by
  induction f with
  | zero => intro l v; simp [numGo]
  | succ f ih =>
    intro l v
    cases l with
    | nil => simp [numGo]
    | cons a r =>
      rw [numGo]
      split
      · have := ih r (v * 10 + (a.toNat - 48)); simp only [List.length_cons]; omega
      · simp
theorem numOk_0 (l : List UInt8) (x : Int) (h : (numGo 3 l 0).2 = 0) : numOk l x = false := by unfold numOk; rw [h]; rfl
theorem numOk_1 (l : List UInt8) (x : Int) (h : (numGo 3 l 0).2 = 1) : numOk l x = decide (((numGo 3 l 0).1 : Int) < x) := by unfold numOk; rw [h]; simp
theorem numOk_2 (l : List UInt8) (x : Int) (h : 2 ≤ (numGo 3 l 0).2) : numOk l x = (l.getD 0 0 != 48 && decide (((numGo 3 l 0).1 : Int) < x)) := by
  unfold numOk
  rw [decide_eq_true (show 0 < (numGo 3 l 0).2 by omega), decide_eq_false (show ¬ (numGo 3 l 0).2 = 1 by omega)]; simp
/-- How far a reader has come. -/
def rdAt (w : World) (b : Nat) : Nat := (intOf ((w.cell? ⟨b, 1, none⟩).getD undef)).toNat
theorem RD.at_ {w : World} {b i : Nat} {s : ByteArray} (h : RD w b s i) : rdAt w b = i := by
  unfold rdAt; rw [h.c1]; simp [intOf]

set_option maxHeartbeats 4000000 in
theorem number_any (b i : Nat) (s : ByteArray) (x : Int) (w : World) (hs : s.size ≤ 1152921504606846000) (h : RD w b s i) (hi : i ≤ s.size) :
    Calls Tryd.prog 41 #[.pointer (some ⟨b, 0, none⟩), .int .i64 x] w fun e w' => e = .returned (.tuple #[.int .i64 (numGo 3 (s.data.toList.drop i) 0).1, .bool (numOk (s.data.toList.drop i) x)]) ∧ But b w w' ∧ RD w' b s (i + (numGo 3 (s.data.toList.drop i) 0).2) := by
  have c1 := h.c1
  have HR := Lib.hid h
  have hnb := numGo_bd 3 (s.data.toList.drop i) 0
  rw [List.length_drop, ← Lib.size_eq] at hnb
  obtain ⟨ok, hok⟩ : ∃ ok, numOk (s.data.toList.drop i) x = ok := ⟨_, rfl⟩
  have HOK := Lib.hid hok
  rw [hok]
  obtain ⟨V, hV⟩ : ∃ V, (numGo 3 (s.data.toList.drop i) 0).1 = V := ⟨_, rfl⟩
  obtain ⟨N, hN⟩ : ∃ N, (numGo 3 (s.data.toList.drop i) 0).2 = N := ⟨_, rfl⟩
  rw [hN] at hnb
  rw [hV, hN]
  have HV := Lib.hid hV
  have HN := Lib.hid hN
  clear h hok hV hN
  go_enter Tryd.func41, Tryd.ntmps41
  go_wp2_with fail
  have g1 : IntKind.i64.wrap ((i : Int) + 3) = (i : Int) + 3 := IntWalk.i64_in _ (by omega)
  go_loopw [7] (fun v wr => ∃ j vv : Nat, v = .int .i64 vv ∧ i ≤ j ∧ j ≤ i + 3 ∧ ((j = i ∧ vv = 0) ∨ (j = i + 1 ∧ vv ≤ 9) ∨ (j = i + 2 ∧ vv ≤ 99) ∨ (j = i + 3 ∧ vv ≤ 999)) ∧ j ≤ s.size ∧ But b w wr ∧ RD wr b s j ∧ (numGo (i + 3 - j) (s.data.toList.drop j) vv).1 = V ∧ j + (numGo (i + 3 - j) (s.data.toList.drop j) vv).2 = i + N) (fun _ wr => s.size - rdAt wr b)
  case atStart => exact ⟨i, 0, rfl, by omega, by omega, by omega, by omega, But.refl _ _, HR.out, by rw [show i + 3 - i = 3 from by omega]; exact HV.out, by rw [show i + 3 - i = 3 from by omega, HN.out]⟩
  case round =>
    obtain ⟨j, vv, rfl, hij, hk3, hvv, hik, hb, hR, hV, hN⟩ := hrel
    have d0 := hR.c0
    have d1 := hR.c1
    have f1 := hR.f1
    have HB := Lib.hid hb
    have HR2 := Lib.hid hR
    have HV2 := Lib.hid hV
    have HN2 := Lib.hid hN
    clear hb hR hV hN
    by_cases hin : j < s.size
    · have hl0 : (s.data.toList.drop j)[0]? = some s[j] := by
        rw [List.getElem?_drop, Nat.add_zero, List.getElem?_eq_getElem (by rw [← Lib.size_eq]; exact hin)]; rfl
      have t1 : decide ((j : Int) < s.size) = true := by simp; exact hin
      obtain ⟨c, hc⟩ : ∃ c, s[j] = c := ⟨_, rfl⟩
      rw [hc] at hl0
      have HL0 := Lib.hid hl0
      have hclt := c.toNat_lt
      clear hl0
      by_cases hk : j < i + 3
      · have t2 : decide ((j : Int) < (i : Int) + 3) = true := by simp; omega
        by_cases hd : 48 ≤ c.toNat ∧ c.toNat ≤ 57
        · obtain ⟨h1, h2⟩ := hd
          have t3 : decide ((48 : Int) ≤ (c.toNat : Int)) = true := by simp; omega
          have t4 : decide ((c.toNat : Int) ≤ (57 : Int)) = true := by simp; omega
          have HON := Lib.hid (numGo_on (i + 3 - (j + 1)) _ vv c HL0.out (isDig_iff.2 ⟨h1, h2⟩))
          have g2 : IntKind.i64.wrap ((vv : Int) * 10) = (vv : Int) * 10 := IntWalk.i64_in _ (by omega)
          have g3 : IntKind.u8.wrap ((c.toNat : Int) - 48) = (c.toNat : Int) - 48 := IntWalk.u8_in _ (by omega)
          have g4 : IntKind.i64.wrap ((vv : Int) * 10 + ((c.toNat : Int) - 48)) = (vv : Int) * 10 + ((c.toNat : Int) - 48) := IntWalk.i64_in _ (by omega)
          have g5 : IntKind.i64.wrap ((c.toNat : Int) - 48) = (c.toNat : Int) - 48 := IntWalk.i64_in _ (by omega)
          go_wp2_with fail
          go_quiet (fail)
          go_wp2_with fail
          go_quiet (fail)
          go_wp2_with fail
          go_roundw
          case rel =>
            refine ⟨j + 1, vv * 10 + (c.toNat - 48), by congr 1; omega, by omega, by omega, by omega, by omega, ?_, ?_, ?_, ?_⟩
            · exact (HB.out.drewN _).set _ _
            · exact (HR2.out.drewN _).set _ _ (by omega)
            · have h := HV2.out
              rw [show i + 3 - j = i + 3 - (j + 1) + 1 from by omega, HON.out, List.drop_drop] at h
              exact h
            · have h := HN2.out
              rw [show i + 3 - j = i + 3 - (j + 1) + 1 from by omega, HON.out, List.drop_drop] at h
              simp only at h
              omega
          case measure =>
            rw [HR2.out.at_, ((HR2.out.drewN _).set (j + 1) _ (by omega)).at_]; omega
        · rcases (show c.toNat < 48 ∨ 57 < c.toNat by omega) with hd1 | hd1
          · have t3 : decide ((48 : Int) ≤ (c.toNat : Int)) = false := by simp; omega
            have hz : numGo (i + 3 - j) (s.data.toList.drop j) vv = (vv, 0) := numGo_off _ _ _ (fun c2 h2 => by rw [HL0.out] at h2; cases h2; simpa using mt isDig_iff.1 hd)
            have hV' := HV2.out
            have hN' := HN2.out
            rw [hz] at hV' hN'
            simp only [Nat.add_zero] at hV' hN'
            subst hV'
            clear hz
            by_cases hj1 : j = i
            · have HOKE := Lib.hid (show ok = false by rw [← HOK.out]; exact numOk_0 _ _ (by rw [HN.out]; omega))
              have q0 : (j : Int) ≤ (i : Int) := by omega
              first | clear hj1 | skip
              first | clear hj2 | skip
              have HNJ := Lib.hid hN'
              clear hN'
              go_wp2_with fail
              go_quiet (fail)
              go_wp2_with fail
              go_ret2
              refine ⟨?_, HB.out.drewN _, by rw [← HNJ.out]; exact HR2.out.drewN _⟩
              rw [HOKE.out]; rfl
            by_cases hj2 : j = i + 1
            · have HOKE := Lib.hid (show ok = decide ((vv : Int) < x) by rw [← HOK.out, numOk_1 _ _ (by rw [HN.out]; omega), HV.out])
              have q0 : (i : Int) < (j : Int) := by omega
              have q6 : (0 : Int) < (j : Int) - i := by omega
              have q1 : ((j : Int) - i == 1) = true := by simp; omega
              first | clear hj1 | skip
              first | clear hj2 | skip
              have HNJ := Lib.hid hN'
              clear hN'
              go_wp2_with fail
              go_quiet (fail)
              go_wp2_with fail
              go_ret2
              refine ⟨?_, HB.out.drewN _, by rw [← HNJ.out]; exact HR2.out.drewN _⟩
              rw [HOKE.out]; rfl
            have hlt2 : i < s.size := by omega
            have hg0 : (s.data.toList.drop i).getD 0 0 = s[i] := by rw [List.getD_eq_getElem?_getD, List.getElem?_drop, Nat.add_zero, List.getElem?_eq_getElem (by rw [← Lib.size_eq]; exact hlt2)]; rfl
            have HOKE := Lib.hid (show ok = (s[i] != 48 && decide ((vv : Int) < x)) by rw [← HOK.out, numOk_2 _ _ (by rw [HN.out]; omega), HV.out, hg0])
            have q0 : (i : Int) < (j : Int) := by omega
            have q6 : (0 : Int) < (j : Int) - i := by omega
            have q1 : ((j : Int) - i == 1) = false := by simp; omega
            obtain ⟨a, ha⟩ : ∃ a, s[i] = a := ⟨_, rfl⟩
            rw [ha] at HOKE
            by_cases ha8 : a = 48
            · have q2 : ((a.toNat : Int) == 48) = true := by rw [ha8]; rfl
              have q3 : ((a.toNat : Int) != 48) = false := by rw [ha8]; rfl
              have HAE := Lib.hid ha8
              clear ha8
              first | clear hj1 | skip
              first | clear hj2 | skip
              have HNJ := Lib.hid hN'
              clear hN'
              go_wp2_with fail
              go_quiet (fail)
              go_wp2_with fail
              go_ret2
              refine ⟨?_, HB.out.drewN _, by rw [← HNJ.out]; exact HR2.out.drewN _⟩
              rw [HOKE.out, HAE.out]; rfl
            · have q2 : ((a.toNat : Int) == 48) = false := by rw [beq_eq_false_iff_ne]; intro e; exact ha8 (UInt8.toNat_inj.1 (by simpa using Int.ofNat_inj.1 e))
              have q3 : ((a.toNat : Int) != 48) = true := by rw [bne, q2]; rfl
              have q4 : (a != 48) = true := by simp [ha8]
              first | clear hj1 | skip
              first | clear hj2 | skip
              have HNJ := Lib.hid hN'
              clear hN'
              go_wp2_with fail
              go_quiet (fail)
              go_wp2_with fail
              go_ret2
              refine ⟨?_, HB.out.drewN _, by rw [← HNJ.out]; exact HR2.out.drewN _⟩
              rw [HOKE.out, q4, Bool.true_and]; rfl
          · have t3 : decide ((48 : Int) ≤ (c.toNat : Int)) = true := by simp; omega
            have t4 : decide ((c.toNat : Int) ≤ (57 : Int)) = false := by simp; omega
            have hz : numGo (i + 3 - j) (s.data.toList.drop j) vv = (vv, 0) := numGo_off _ _ _ (fun c2 h2 => by rw [HL0.out] at h2; cases h2; simpa using mt isDig_iff.1 hd)
            have hV' := HV2.out
            have hN' := HN2.out
            rw [hz] at hV' hN'
            simp only [Nat.add_zero] at hV' hN'
            subst hV'
            clear hz
            by_cases hj1 : j = i
            · have HOKE := Lib.hid (show ok = false by rw [← HOK.out]; exact numOk_0 _ _ (by rw [HN.out]; omega))
              have q0 : (j : Int) ≤ (i : Int) := by omega
              first | clear hj1 | skip
              first | clear hj2 | skip
              have HNJ := Lib.hid hN'
              clear hN'
              go_wp2_with fail
              go_quiet (fail)
              go_wp2_with fail
              go_ret2
              refine ⟨?_, HB.out.drewN _, by rw [← HNJ.out]; exact HR2.out.drewN _⟩
              rw [HOKE.out]; rfl
            by_cases hj2 : j = i + 1
            · have HOKE := Lib.hid (show ok = decide ((vv : Int) < x) by rw [← HOK.out, numOk_1 _ _ (by rw [HN.out]; omega), HV.out])
              have q0 : (i : Int) < (j : Int) := by omega
              have q6 : (0 : Int) < (j : Int) - i := by omega
              have q1 : ((j : Int) - i == 1) = true := by simp; omega
              first | clear hj1 | skip
              first | clear hj2 | skip
              have HNJ := Lib.hid hN'
              clear hN'
              go_wp2_with fail
              go_quiet (fail)
              go_wp2_with fail
              go_ret2
              refine ⟨?_, HB.out.drewN _, by rw [← HNJ.out]; exact HR2.out.drewN _⟩
              rw [HOKE.out]; rfl
            have hlt2 : i < s.size := by omega
            have hg0 : (s.data.toList.drop i).getD 0 0 = s[i] := by rw [List.getD_eq_getElem?_getD, List.getElem?_drop, Nat.add_zero, List.getElem?_eq_getElem (by rw [← Lib.size_eq]; exact hlt2)]; rfl
            have HOKE := Lib.hid (show ok = (s[i] != 48 && decide ((vv : Int) < x)) by rw [← HOK.out, numOk_2 _ _ (by rw [HN.out]; omega), HV.out, hg0])
            have q0 : (i : Int) < (j : Int) := by omega
            have q6 : (0 : Int) < (j : Int) - i := by omega
            have q1 : ((j : Int) - i == 1) = false := by simp; omega
            obtain ⟨a, ha⟩ : ∃ a, s[i] = a := ⟨_, rfl⟩
            rw [ha] at HOKE
            by_cases ha8 : a = 48
            · have q2 : ((a.toNat : Int) == 48) = true := by rw [ha8]; rfl
              have q3 : ((a.toNat : Int) != 48) = false := by rw [ha8]; rfl
              have HAE := Lib.hid ha8
              clear ha8
              first | clear hj1 | skip
              first | clear hj2 | skip
              have HNJ := Lib.hid hN'
              clear hN'
              go_wp2_with fail
              go_quiet (fail)
              go_wp2_with fail
              go_ret2
              refine ⟨?_, HB.out.drewN _, by rw [← HNJ.out]; exact HR2.out.drewN _⟩
              rw [HOKE.out, HAE.out]; rfl
            · have q2 : ((a.toNat : Int) == 48) = false := by rw [beq_eq_false_iff_ne]; intro e; exact ha8 (UInt8.toNat_inj.1 (by simpa using Int.ofNat_inj.1 e))
              have q3 : ((a.toNat : Int) != 48) = true := by rw [bne, q2]; rfl
              have q4 : (a != 48) = true := by simp [ha8]
              first | clear hj1 | skip
              first | clear hj2 | skip
              have HNJ := Lib.hid hN'
              clear hN'
              go_wp2_with fail
              go_quiet (fail)
              go_wp2_with fail
              go_ret2
              refine ⟨?_, HB.out.drewN _, by rw [← HNJ.out]; exact HR2.out.drewN _⟩
              rw [HOKE.out, q4, Bool.true_and]; rfl
      · have t2 : decide ((j : Int) < (i : Int) + 3) = false := by simp; omega
        have hz : numGo (i + 3 - j) (s.data.toList.drop j) vv = (vv, 0) := by rw [show i + 3 - j = 0 from by omega]; rfl
        have hV' := HV2.out
        have hN' := HN2.out
        rw [hz] at hV' hN'
        simp only [Nat.add_zero] at hV' hN'
        subst hV'
        clear hz
        have hlt2 : i < s.size := by omega
        have hg0 : (s.data.toList.drop i).getD 0 0 = s[i] := by rw [List.getD_eq_getElem?_getD, List.getElem?_drop, Nat.add_zero, List.getElem?_eq_getElem (by rw [← Lib.size_eq]; exact hlt2)]; rfl
        have HOKE := Lib.hid (show ok = (s[i] != 48 && decide ((vv : Int) < x)) by rw [← HOK.out, numOk_2 _ _ (by rw [HN.out]; omega), HV.out, hg0])
        have q0 : (i : Int) < (j : Int) := by omega
        have q6 : (0 : Int) < (j : Int) - i := by omega
        have q1 : ((j : Int) - i == 1) = false := by simp; omega
        obtain ⟨a, ha⟩ : ∃ a, s[i] = a := ⟨_, rfl⟩
        rw [ha] at HOKE
        by_cases ha8 : a = 48
        · have q2 : ((a.toNat : Int) == 48) = true := by rw [ha8]; rfl
          have q3 : ((a.toNat : Int) != 48) = false := by rw [ha8]; rfl
          have HAE := Lib.hid ha8
          clear ha8
          first | clear hj1 | skip
          first | clear hj2 | skip
          have HNJ := Lib.hid hN'
          clear hN'
          go_wp2_with fail
          go_quiet (fail)
          go_wp2_with fail
          go_ret2
          refine ⟨?_, HB.out.drewN _, by rw [← HNJ.out]; exact HR2.out.drewN _⟩
          rw [HOKE.out, HAE.out]; rfl
        · have q2 : ((a.toNat : Int) == 48) = false := by rw [beq_eq_false_iff_ne]; intro e; exact ha8 (UInt8.toNat_inj.1 (by simpa using Int.ofNat_inj.1 e))
          have q3 : ((a.toNat : Int) != 48) = true := by rw [bne, q2]; rfl
          have q4 : (a != 48) = true := by simp [ha8]
          first | clear hj1 | skip
          first | clear hj2 | skip
          have HNJ := Lib.hid hN'
          clear hN'
          go_wp2_with fail
          go_quiet (fail)
          go_wp2_with fail
          go_ret2
          refine ⟨?_, HB.out.drewN _, by rw [← HNJ.out]; exact HR2.out.drewN _⟩
          rw [HOKE.out, q4, Bool.true_and]; rfl
    · have t1 : decide ((j : Int) < s.size) = false := by simp; omega
      have hz : numGo (i + 3 - j) (s.data.toList.drop j) vv = (vv, 0) := numGo_off _ _ _ (fun c2 h2 => by rw [List.getElem?_drop, List.getElem?_eq_none (by rw [← Lib.size_eq]; omega)] at h2; cases h2)
      have hV' := HV2.out
      have hN' := HN2.out
      rw [hz] at hV' hN'
      simp only [Nat.add_zero] at hV' hN'
      subst hV'
      clear hz
      by_cases hj1 : j = i
      · have HOKE := Lib.hid (show ok = false by rw [← HOK.out]; exact numOk_0 _ _ (by rw [HN.out]; omega))
        have q0 : (j : Int) ≤ (i : Int) := by omega
        first | clear hj1 | skip
        first | clear hj2 | skip
        have HNJ := Lib.hid hN'
        clear hN'
        go_wp2_with fail
        go_quiet (fail)
        go_wp2_with fail
        go_ret2
        refine ⟨?_, HB.out.drewN _, by rw [← HNJ.out]; exact HR2.out.drewN _⟩
        rw [HOKE.out]; rfl
      by_cases hj2 : j = i + 1
      · have HOKE := Lib.hid (show ok = decide ((vv : Int) < x) by rw [← HOK.out, numOk_1 _ _ (by rw [HN.out]; omega), HV.out])
        have q0 : (i : Int) < (j : Int) := by omega
        have q6 : (0 : Int) < (j : Int) - i := by omega
        have q1 : ((j : Int) - i == 1) = true := by simp; omega
        first | clear hj1 | skip
        first | clear hj2 | skip
        have HNJ := Lib.hid hN'
        clear hN'
        go_wp2_with fail
        go_quiet (fail)
        go_wp2_with fail
        go_ret2
        refine ⟨?_, HB.out.drewN _, by rw [← HNJ.out]; exact HR2.out.drewN _⟩
        rw [HOKE.out]; rfl
      have hlt2 : i < s.size := by omega
      have hg0 : (s.data.toList.drop i).getD 0 0 = s[i] := by rw [List.getD_eq_getElem?_getD, List.getElem?_drop, Nat.add_zero, List.getElem?_eq_getElem (by rw [← Lib.size_eq]; exact hlt2)]; rfl
      have HOKE := Lib.hid (show ok = (s[i] != 48 && decide ((vv : Int) < x)) by rw [← HOK.out, numOk_2 _ _ (by rw [HN.out]; omega), HV.out, hg0])
      have q0 : (i : Int) < (j : Int) := by omega
      have q6 : (0 : Int) < (j : Int) - i := by omega
      have q1 : ((j : Int) - i == 1) = false := by simp; omega
      obtain ⟨a, ha⟩ : ∃ a, s[i] = a := ⟨_, rfl⟩
      rw [ha] at HOKE
      by_cases ha8 : a = 48
      · have q2 : ((a.toNat : Int) == 48) = true := by rw [ha8]; rfl
        have q3 : ((a.toNat : Int) != 48) = false := by rw [ha8]; rfl
        have HAE := Lib.hid ha8
        clear ha8
        first | clear hj1 | skip
        first | clear hj2 | skip
        have HNJ := Lib.hid hN'
        clear hN'
        go_wp2_with fail
        go_quiet (fail)
        go_wp2_with fail
        go_ret2
        refine ⟨?_, HB.out.drewN _, by rw [← HNJ.out]; exact HR2.out.drewN _⟩
        rw [HOKE.out, HAE.out]; rfl
      · have q2 : ((a.toNat : Int) == 48) = false := by rw [beq_eq_false_iff_ne]; intro e; exact ha8 (UInt8.toNat_inj.1 (by simpa using Int.ofNat_inj.1 e))
        have q3 : ((a.toNat : Int) != 48) = true := by rw [bne, q2]; rfl
        have q4 : (a != 48) = true := by simp [ha8]
        first | clear hj1 | skip
        first | clear hj2 | skip
        have HNJ := Lib.hid hN'
        clear hN'
        go_wp2_with fail
        go_quiet (fail)
        go_wp2_with fail
        go_ret2
        refine ⟨?_, HB.out.drewN _, by rw [← HNJ.out]; exact HR2.out.drewN _⟩
        rw [HOKE.out, q4, Bool.true_and]; rfl
end Go.Proofs.YtjdpbfjfcbjlfaaDoor
