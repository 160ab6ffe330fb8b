/- DERIVED. The walk of text. -/
import Derived.Test.YtjdpbfjfcbjlfaaDoorReadB
set_option linter.unusedSimpArgs false
set_option linter.unusedVariables false
namespace Go.Proofs.YtjdpbfjfcbjlfaaDoor
open Go.RowKit

def hexL : List UInt8 := [48, 49, 50, 51, 52, 53, 54, 55, 56, 57, 97, 98, 99, 100, 101, 102]
/-- What a digit to base 16 is worth; negative: it is none. -/
def hexI (c : UInt8) : Int := Lib.indexByte hexL c
def hexB (h l : UInt8) : UInt8 := UInt8.ofNat ((hexI h).toNat * 16 + (hexI l).toNat)
def inText (c : UInt8) : Bool := 32 ≤ c && c ≤ 126
theorem inText_iff {c : UInt8} : inText c = true ↔ 32 ≤ c.toNat ∧ c.toNat ≤ 126 := by
  unfold inText
  simp only [Bool.and_eq_true, decide_eq_true_eq, UInt8.le_iff_toNat_le]; simp
/-- What stands ahead of a quote, and how many bytes it has; none: it may not stand there. -/
def textGo : List UInt8 → Option (List UInt8 × Nat)
  | [] => some ([], 0)
  | c :: r =>
    if c = 34 then some ([], 0)
    else if c = 92 then
      match r with
      | h :: l :: q => if hexI h < 0 ∨ hexI l < 0 ∨ plainB (hexB h l) = true then none else (textGo q).map fun x => (hexB h l :: x.1, x.2 + 3)
      | _ => none
    else if inText c = true then (textGo r).map fun x => (c :: x.1, x.2 + 1)
    else none
/-- What stands in quotes at the head of a text, and how many bytes that has. -/
def textL (l : List UInt8) : Option (List UInt8 × Nat) :=
  if l[0]? = some 34 then (textGo (l.drop 1)).bind fun x => if (l.drop 1)[x.2]? = some 34 then some (x.1, x.2 + 2) else none else none
theorem or_any : ∀ a b : Fin 16, bits BinOp.or IntKind.i64 ((a.val : Int) * 16) (b.val : Int) = ((a.val * 16 + b.val : Nat) : Int) := by decide +kernel
theorem textGo_esc (h l : UInt8) (q : List UInt8) : textGo (92 :: h :: l :: q) = if hexI h < 0 ∨ hexI l < 0 ∨ plainB (hexB h l) = true then none else (textGo q).map fun x => (hexB h l :: x.1, x.2 + 3) := by
  rw [textGo]; simp
theorem textGo_chr (c : UInt8) (r : List UInt8) (h1 : c ≠ 34) (h2 : c ≠ 92) : textGo (c :: r) = if inText c = true then (textGo r).map fun x => (c :: x.1, x.2 + 1) else none := by
  conv => lhs; unfold textGo
  rw [if_neg h1, if_neg h2]
theorem textGo_quote (r : List UInt8) : textGo (34 :: r) = some ([], 0) := by
  conv => lhs; unfold textGo
  rw [if_pos rfl]
theorem textGo_short (r : List UInt8) (h : r.length < 2) : textGo (92 :: r) = none := by
  conv => lhs; unfold textGo
  rw [if_neg (by decide), if_pos rfl]
  match r, h with
  | [], _ => rfl
  | [a], _ => rfl
theorem hexI_bd (c : UInt8) : -1 ≤ hexI c ∧ hexI c < 16 := by
  have h : ∀ n : Fin 256, -1 ≤ hexI (UInt8.ofNat n.val) ∧ hexI (UInt8.ofNat n.val) < 16 := by decide +kernel
  have := h ⟨c.toNat, c.toNat_lt⟩
  simpa using this
theorem But.belowAt {b : Nat} {w w1 w2 : World} (h : But b w w1) (k : Below w.heap.size w1 w2) : But b w w2 :=
  ⟨k.os.trans h.os, k.tape.trans h.tape, k.output.trans h.output, Nat.le_trans h.size k.size, fun i hi hb => (k.block i hi).trans (h.block i hi hb)⟩

theorem hex_any (c : UInt8) (w : World) : Calls Tryd.prog 47 #[.string ⟨#[48, 49, 50, 51, 52, 53, 54, 55, 56, 57, 97, 98, 99, 100, 101, 102]⟩, .int .u8 c.toNat] w fun e w' => e = .returned (.int .i64 (hexI c)) ∧ w' = w := by
  have h := Tryd.strings_IndexByte ⟨#[48, 49, 50, 51, 52, 53, 54, 55, 56, 57, 97, 98, 99, 100, 101, 102]⟩ c.toNat w
  have e : ((c.toNat : Int).toNat).toUInt8 = c := by simp
  rw [e] at h
  exact h
theorem IsB.drewN {B b : Nat} {l : List UInt8} {w : World} (h : IsB B b l w) (n : Nat) : IsB B b l (w.drewN n) := h
theorem IsB.set {B b k i : Nat} {l : List UInt8} {w : World} {s : ByteArray} (h : IsB B b l w) (hR : RD w k s i) (v : Value) : IsB B b l (w.setCell ⟨k, 1, none⟩ v) :=
  h.off hR (by decide) (by decide) (fun j hj => Below.heap_setCell w ⟨k, 1, none⟩ v j hj)
/-- What the loop of text has found so far. -/
def TextInv (s : ByteArray) (i j : Nat) (acc : List UInt8) (R : Option (List UInt8 × Nat)) : Prop :=
  R = (textGo (s.data.toList.drop j)).bind fun x => if (s.data.toList.drop j)[x.2]? = some 34 then some (acc ++ x.1, j - i + x.2 + 1) else none
/-- One step of the reader. -/
theorem st1 {b B bb j : Nat} {s : ByteArray} {acc : List UInt8} {w wr : World} (hB : But b w wr) (hR : RD wr b s j) (hI : IsB B bb acc wr) (k p : Nat) (x : Int) (hx : x = k) :
    But b w ((wr.drewN p).setCell ⟨b, 1, none⟩ (.int .i64 x)) ∧ RD ((wr.drewN p).setCell ⟨b, 1, none⟩ (.int .i64 x)) b s k ∧ IsB B bb acc ((wr.drewN p).setCell ⟨b, 1, none⟩ (.int .i64 x)) :=
  ⟨(hB.drewN p).set _ _, (hR.drewN p).set k _ hx, (hI.drewN p).set (hR.drewN p) _⟩
theorem st2 {b B bb j : Nat} {s : ByteArray} {acc : List UInt8} {w wr : World} (hB : But b w wr) (hR : RD wr b s j) (hI : IsB B bb acc wr) (k k2 p q : Nat) (x y : Int) (hx : x = k) (hy : y = k2) :
    But b w ((((wr.drewN p).setCell ⟨b, 1, none⟩ (.int .i64 x)).drewN q).setCell ⟨b, 1, none⟩ (.int .i64 y)) ∧ RD ((((wr.drewN p).setCell ⟨b, 1, none⟩ (.int .i64 x)).drewN q).setCell ⟨b, 1, none⟩ (.int .i64 y)) b s k2 ∧ IsB B bb acc ((((wr.drewN p).setCell ⟨b, 1, none⟩ (.int .i64 x)).drewN q).setCell ⟨b, 1, none⟩ (.int .i64 y)) := by
  obtain ⟨h1, h2, h3⟩ := st1 hB hR hI k p x hx
  exact st1 h1 h2 h3 k2 q y hy
/-- What a builder's call leaves of the reader. -/
theorem RD.kept {b bb j : Nat} {s : ByteArray} {w w' : World} (h : RD w b s j) (hk : Kept bb w w') (hne : b ≠ bb) : RD w' b s j :=
  hk b _ h (fun e => hne (Option.some.inj e)) (fun c fz e => by cases e)
theorem IsB.ne {B bb b j : Nat} {s : ByteArray} {l : List UInt8} {w : World} (h : IsB B bb l w) (hR : RD w b s j) : b ≠ bb := by
  intro e
  subst e
  rcases h with h | h
  all_goals
    obtain ⟨_, v, hb, _⟩ := h
    rw [show w.heap[b]? = _ from hR] at hb
    injection hb with hb; injection hb with _ hb; cases hb
/-- What text leaves behind. -/
def TextPost (b i : Nat) (s : ByteArray) (R : Option (List UInt8 × Nat)) (w : World) (e : Ending) (w' : World) : Prop :=
  ∃ (X : ByteArray) (j : Nat), e = .returned (.tuple #[.string X, .bool R.isSome]) ∧ But b w w' ∧ RD w' b s j ∧ j ≤ s.size ∧ (∀ t n, R = some (t, n) → X = ⟨t.toArray⟩ ∧ j = i + n)
set_option maxRecDepth 20000 in
set_option maxHeartbeats 4000000 in
theorem text_any (b i : Nat) (s : ByteArray) (w : World) (hs : s.size ≤ 1099511627776) (h : RD w b s i) (hi : i ≤ s.size) :
    Calls Tryd.prog 42 #[.pointer (some ⟨b, 0, none⟩)] w fun e w' => TextPost b i s (textL (s.data.toList.drop i)) w e w' := by
  have T1 := Lib.hid fun w h => take_any b i s 34 34 rfl w (by omega) h hi
  have HR := Lib.hid h
  have hbl := h.lt
  obtain ⟨R, hRR⟩ : ∃ R, textL (s.data.toList.drop i) = R := ⟨_, rfl⟩
  rw [hRR]
  have HRR := Lib.hid hRR
  clear h hRR
  by_cases hq : stands s i 34 = true
  · go_enter Tryd.func42, Tryd.ntmps42
    go_wp2_with fail
    refine (T1.out _ HR.out).mono ?_
    rw [if_pos hq, hq]
    rintro e w1 ⟨rfl, hb1, hR1⟩
    have HB1 := Lib.hid hb1
    have HR1 := Lib.hid hR1
    have hst1 := hb1.size
    have hii := stands_in hq
    have HQ := Lib.hid hq
    clear hb1 hR1 hq
    go_wp2_with fail
    go_loopw [] (fun wr => ∃ (j : Nat) (acc : List UInt8), i + 1 ≤ j ∧ j ≤ s.size ∧ acc.length ≤ j ∧ But b w wr ∧ RD wr b s j ∧ IsB w1.heap.size w1.heap.size acc wr ∧ TextInv s i j acc R) (fun wr => s.size - rdAt wr b)
    case atStart =>
      refine ⟨i + 1, [], Nat.le_refl _, by omega, by simp, HB1.out.alloc _, HR1.out.alloc _, fresh_IsB w1, ?_⟩
      unfold TextInv
      rw [← HRR.out]
      unfold textL
      have hq := HQ.out
      unfold stands at hq
      rw [beq_iff_eq] at hq
      rw [if_pos (by rw [List.getElem?_drop, Nat.add_zero]; exact hq), List.drop_drop, show i + 1 - i = 1 from by omega]
      simp only [List.nil_append]
      congr 1
      funext x
      rw [show 1 + x.2 + 1 = x.2 + 2 from by omega]
    case round =>
      obtain ⟨j, acc, hij, hjs, hal, hb, hR, hI, hV⟩ := hrel
      have d0 := hR.c0
      have d1 := hR.c1
      have f1 := hR.f1
      have HB := Lib.hid hb
      have HR2 := Lib.hid hR
      have HI := Lib.hid hI
      unfold TextInv at hV
      have HV := Lib.hid hV
      have hst := hb.size
      have hbb := hI.lt
      have hrl := hR.lt
      clear hb hR hI hV
      by_cases hin : j < s.size
      · have t1 : decide ((j : Int) < s.size) = true := by simp; exact hin
        have hdr : s.data.toList.drop j = s[j] :: s.data.toList.drop (j + 1) := by
          rw [List.drop_eq_getElem_cons (by rw [← Lib.size_eq]; exact hin)]; rfl
        obtain ⟨c, hc⟩ : ∃ c, s[j] = c := ⟨_, rfl⟩
        rw [hc] at hdr
        have HDR := Lib.hid hdr
        have hclt := c.toNat_lt
        clear hdr
        by_cases h34 : c = 34
        · have n34 : ((c.toNat : Int) == 34) = true := by rw [h34]; rfl
          have m34 : ((c.toNat : Int) != 34) = false := by rw [bne, n34]; rfl
          have hRs : R = some (acc, j - i + 1) := by
            rw [HV.out, HDR.out, h34, textGo_quote]; simp
          have H34 := Lib.hid h34
          have HRS := Lib.hid hRs
          clear h34 hRs
          have T2 := Lib.hid fun w h => take_any b j s 34 34 rfl w (by omega) h hjs
          go_wp2_with fail
          go_quiet (fail)
          go_wp2_with fail
          refine (bString_any _ _ _ _ (HI.out.drewN _) (by simp; omega)).mono ?_
          rintro e w5 ⟨rfl, hI5, hb5, hk5⟩
          have HB5 := Lib.hid ((HB.out.drewN _).belowAt (hb5.mono hst1))
          have HR5 := Lib.hid ((HR2.out.drewN _).kept hk5 (HI.out.ne HR2.out))
          clear hI5 hb5 hk5
          go_wp2_with fail
          refine (T2.out _ HR5.out).mono ?_
          have hst0 : stands s j 34 = true := by
            unfold stands
            have := congrArg (fun l => l[0]?) HDR.out
            simp only [List.getElem?_drop, Nat.add_zero] at this
            rw [this, H34.out]; rfl
          rw [hst0, if_pos rfl]
          rintro e w6 ⟨rfl, hb6, hR6⟩
          have HB6 := Lib.hid (HB5.out.trans hb6)
          have HR6 := Lib.hid hR6
          clear hb6 hR6 hst0
          go_wp2_with fail
          go_ret2
          rw [HRS.out]
          exact (show TextPost _ _ _ _ _ _ _ from ⟨_, j + 1, rfl, HB6.out, HR6.out, by omega, fun t n e => by cases e; exact ⟨rfl, by omega⟩⟩)
        · have n34 : ((c.toNat : Int) == 34) = false := by rw [beq_eq_false_iff_ne]; intro e; exact h34 (UInt8.toNat_inj.1 (by simpa using Int.ofNat_inj.1 e))
          have m34 : ((c.toNat : Int) != 34) = true := by rw [bne, n34]; rfl
          by_cases h92 : c = 92
          · have n92 : ((c.toNat : Int) == 92) = true := by rw [h92]; rfl
            have H34 := Lib.hid h34
            have H92 := Lib.hid h92
            clear h34 h92
            by_cases h3 : j + 3 ≤ s.size
            · obtain ⟨h, hh⟩ : ∃ h, s[j + 1] = h := ⟨_, rfl⟩
              obtain ⟨l, hl⟩ : ∃ l, s[j + 2] = l := ⟨_, rfl⟩
              have hlt := h.toNat_lt
              have llt := l.toNat_lt
              have g0 : (j : Int) + 1 + 1 = (j : Int) + 2 := by omega
              have g1 : IntKind.i64.wrap ((j : Int) + 1 + 2) = (j : Int) + 3 := by rw [IntWalk.i64_in _ (by omega)]; omega
              have g2 : IntKind.i64.wrap ((j : Int) + 2) = (j : Int) + 2 := IntWalk.i64_in _ (by omega)
              have t2 : decide ((s.size : Int) < (j : Int) + 3) = false := by simp; omega
              have t3 : decide ((j : Int) + 1 < s.size) = true := by simp; omega
              have t4 : decide ((j : Int) + 2 < s.size) = true := by simp; omega
              have hto1 : ((j : Int) + 1).toNat = j + 1 := by omega
              have hto2 : ((j : Int) + 2).toNat = j + 2 := by omega
              have k1 : (0 : Int) ≤ (j : Int) + 1 ∧ (j : Int) + 1 < s.size := by omega
              have k2 : (0 : Int) ≤ (j : Int) + 2 ∧ (j : Int) + 2 < s.size := by omega
              have I1 := Lib.hid fun w => hex_any h w
              have I2 := Lib.hid fun w => hex_any l w
              have hhb := hexI_bd h
              have llb := hexI_bd l
              obtain ⟨hi4, hhi⟩ : ∃ x, hexI h = x := ⟨_, rfl⟩
              obtain ⟨lo4, hlo⟩ : ∃ x, hexI l = x := ⟨_, rfl⟩
              rw [hhi] at I1 hhb
              rw [hlo] at I2 llb
              have HHI := Lib.hid hhi
              have HLO := Lib.hid hlo
              clear hhi hlo
              go_wp2_with fail
              go_quiet (fail)
              go_wp2_with fail
              go_quiet (fail)
              go_wp2_with fail
              go_quiet (fail)
              go_wp2_with fail
              go_quiet (first | (go_at_call_of 47 (h.toNat); refine (I1.out _).mono ?_; rintro e w2 ⟨rfl, rfl⟩; exact ⟨rfl, _, rfl⟩) | (go_at_call_of 47 (l.toNat); refine (I2.out _).mono ?_; rintro e w2 ⟨rfl, rfl⟩; exact ⟨rfl, _, rfl⟩))
              have hdr3 : s.data.toList.drop (j + 1) = h :: l :: s.data.toList.drop (j + 3) := by
                rw [List.drop_eq_getElem_cons (show j + 1 < s.data.toList.length by rw [← Lib.size_eq]; omega), List.drop_eq_getElem_cons (show j + 1 + 1 < s.data.toList.length by rw [← Lib.size_eq]; omega), ← hh, ← hl]; rfl
              have hgo := textGo_esc h l (s.data.toList.drop (j + 3))
              rw [HHI.out, HLO.out] at hgo
              have hV2 := HV.out
              rw [HDR.out, H92.out, hdr3] at hV2
              have HR3 := Lib.hid hgo
              have HV3 := Lib.hid hV2
              clear hdr3 hgo hV2
              by_cases hneg : hi4 < 0 ∨ lo4 < 0
              · have hRn : R = none := by
                  rw [HV3.out, HR3.out, if_pos (by rcases hneg with h1 | h1 <;> simp [h1])]; rfl
                have HRN := Lib.hid hRn
                clear hRn
                rcases (show hi4 < 0 ∨ (0 ≤ hi4 ∧ lo4 < 0) by omega) with h1 | ⟨h1, h2⟩
                all_goals
                  clear hneg
                  go_wp2_with fail
                  go_ret2
                  refine (show TextPost _ _ _ _ _ _ _ from ⟨_, j + 1, by rw [HRN.out]; rfl, ((HB.out.drewN _).set _ _).drewN _, ((HR2.out.drewN _).set (j + 1) _ (by omega)).drewN _, by omega, fun t n e => by rw [HRN.out] at e; cases e⟩)
              · obtain ⟨hn, rfl⟩ := Int.eq_ofNat_of_zero_le (show 0 ≤ hi4 by omega)
                obtain ⟨ln, rfl⟩ := Int.eq_ofNat_of_zero_le (show 0 ≤ lo4 by omega)
                have u1 : decide ((hn : Int) < 0) = false := by simp
                have u2 : decide ((ln : Int) < 0) = false := by simp
                have hn16 : hn < 16 := by omega
                have ln16 : ln < 16 := by omega
                obtain ⟨d, hd⟩ : ∃ d, hexB h l = d := ⟨_, rfl⟩
                have hdn : d.toNat = hn * 16 + ln := by
                  rw [← hd]; unfold hexB; rw [HHI.out, HLO.out]; simp; omega
                have gor : bits BinOp.or IntKind.i64 ((hn : Int) * 16) (ln : Int) = (d.toNat : Int) := by rw [hdn]; exact or_any ⟨hn, hn16⟩ ⟨ln, ln16⟩
                have gm : (d.toNat : Int) % 256 = (d.toNat : Int) := by omega
                have hdlt := d.toNat_lt
                rw [hd] at HR3
                clear hneg hdn hd hhb llb
                by_cases hp : plainB d = true
                · have hRn : R = none := by
                    rw [HV3.out, HR3.out, if_pos (.inr (.inr hp))]; rfl
                  have HRN := Lib.hid hRn
                  clear hRn
                  obtain ⟨p1, p2, p3, p4⟩ := plain_iff.1 hp
                  have q3 : ((d.toNat : Int) != 34) = true := by rw [bne_iff_ne]; omega
                  have q4 : ((d.toNat : Int) != 92) = true := by rw [bne_iff_ne]; omega
                  clear hp
                  go_wp2_with fail
                  go_ret2
                  refine (show TextPost _ _ _ _ _ _ _ from ⟨_, j + 3, by rw [HRN.out]; rfl, (((HB.out.drewN _).set _ _).drewN _).set _ _, (((HR2.out.drewN _).set (j + 1) _ (by omega)).drewN _).set (j + 3) _ (by omega), by omega, fun t n e => by rw [HRN.out] at e; cases e⟩)
                · have hRs := HV3.out
                  rw [HR3.out, if_neg (by simp [hp])] at hRs
                  have HRS := Lib.hid hRs
                  have h4 : d.toNat < 32 ∨ 126 < d.toNat ∨ d.toNat = 34 ∨ d.toNat = 92 := by
                    false_or_by_contra
                    exact hp (plain_iff.2 (by omega))
                  clear hp hRs
                  rcases h4 with h4 | h4 | h4 | h4
                  all_goals
                    go_wp2_with fail
                    refine (writeByte_of w1.heap.size w1.heap.size _ _ d (by first | rfl | simp [h4]) _ (st2 HB.out HR2.out HI.out (j + 1) (j + 3) _ _ _ _ (by omega) (by omega)).2.2 (by omega) (by simp; omega)).mono ?_
                    rintro e w5 ⟨rfl, hI5, hb5, hk5⟩
                    obtain ⟨hB4, hR4, hI4⟩ := st2 HB.out HR2.out HI.out (j + 1) (j + 3) _ _ ((j : Int) + 1) ((j : Int) + 3) (by omega) (by omega)
                    have HB5 := Lib.hid (hB4.belowAt (hb5.mono hst1))
                    have HR5 := Lib.hid (hR4.kept hk5 (hI4.ne hR4))
                    have HI5 := Lib.hid hI5
                    clear hI5 hb5 hk5 hB4 hR4 hI4
                    go_wp2_with fail
                    go_roundw
                    case rel =>
                      refine ⟨j + 3, acc ++ [d], by omega, by omega, by simp; omega, HB5.out, HR5.out, HI5.out, ?_⟩
                      unfold TextInv
                      rw [HRS.out]
                      cases hg : textGo (s.data.toList.drop (j + 3)) with
                      | none => simp
                      | some z => simp [show j - i + (z.2 + 3) + 1 = j + 3 - i + z.2 + 1 from by omega]
                    case measure => rw [HR2.out.at_, HR5.out.at_]; omega
            · have t2 : decide ((s.size : Int) < (j : Int) + 3) = true := by simp; omega
              have g1 : IntKind.i64.wrap ((j : Int) + 1 + 2) = (j : Int) + 3 := by rw [IntWalk.i64_in _ (by omega)]; omega
              have hRn : R = none := by
                rw [HV.out, HDR.out, H92.out, textGo_short _ (by rw [List.length_drop, ← Lib.size_eq]; omega)]; rfl
              have HRN := Lib.hid hRn
              clear hRn
              go_wp2_with fail
              go_quiet (fail)
              go_wp2_with fail
              go_quiet (fail)
              go_wp2_with fail
              go_quiet (fail)
              go_wp2_with fail
              go_ret2
              refine (show TextPost _ _ _ _ _ _ _ from ⟨_, j + 1, by rw [HRN.out]; rfl, ((HB.out.drewN _).set _ _).drewN _, ((HR2.out.drewN _).set (j + 1) _ (by omega)).drewN _, by omega, fun t n e => by rw [HRN.out] at e; cases e⟩)
          · have n92 : ((c.toNat : Int) == 92) = false := by rw [beq_eq_false_iff_ne]; intro e; exact h92 (UInt8.toNat_inj.1 (by simpa using Int.ofNat_inj.1 e))
            have hgo := textGo_chr c (s.data.toList.drop (j + 1)) h34 h92
            have hV2 := HV.out
            rw [HDR.out, hgo] at hV2
            have H34 := Lib.hid h34
            have H92 := Lib.hid h92
            clear h34 h92 hgo
            by_cases hin2 : inText c = true
            · rw [if_pos hin2] at hV2
              have HV3 := Lib.hid hV2
              obtain ⟨h1, h2⟩ := inText_iff.1 hin2
              clear hin2 hV2
              go_wp2_with fail
              go_quiet (fail)
              go_wp2_with fail
              go_quiet (fail)
              go_wp2_with fail
              refine (writeByte_of w1.heap.size w1.heap.size _ _ c rfl _ (st1 HB.out HR2.out HI.out (j + 1) _ _ (by omega)).2.2 (by omega) (by simp; omega)).mono ?_
              rintro e w5 ⟨rfl, hI5, hb5, hk5⟩
              obtain ⟨hB4, hR4, hI4⟩ := st1 HB.out HR2.out HI.out (j + 1) _ ((j : Int) + 1) (by omega)
              have HB5 := Lib.hid (hB4.belowAt (hb5.mono hst1))
              have HR5 := Lib.hid (hR4.kept hk5 (hI4.ne hR4))
              have HI5 := Lib.hid hI5
              clear hI5 hb5 hk5 hB4 hR4 hI4
              go_wp2_with fail
              go_roundw
              case rel =>
                refine ⟨j + 1, acc ++ [c], by omega, by omega, by simp; omega, HB5.out, HR5.out, HI5.out, ?_⟩
                unfold TextInv
                rw [HV3.out]
                cases hg : textGo (s.data.toList.drop (j + 1)) with
                | none => simp
                | some z => simp [show j - i + (z.2 + 1) + 1 = j + 1 - i + z.2 + 1 from by omega]
              case measure => rw [HR2.out.at_, HR5.out.at_]; omega
            · rw [if_neg hin2] at hV2
              have hRn : R = none := hV2
              have HRN := Lib.hid hRn
              clear hRn
              have h4 : c.toNat < 32 ∨ 126 < c.toNat := by
                false_or_by_contra
                exact hin2 (inText_iff.2 (by omega))
              clear hin2 hV2
              rcases h4 with h4 | h4
              all_goals
                go_wp2_with fail
                go_quiet (fail)
                go_wp2_with fail
                go_quiet (fail)
                go_wp2_with fail
                go_ret2
                refine (show TextPost _ _ _ _ _ _ _ from ⟨_, j + 1, by rw [HRN.out]; rfl, (HB.out.drewN _).set _ _, (HR2.out.drewN _).set (j + 1) _ (by omega), by omega, fun t n e => by rw [HRN.out] at e; cases e⟩)
      · have t1 : decide ((j : Int) < s.size) = false := by simp; omega
        have hRn : R = none := by
          rw [HV.out, List.drop_eq_nil_of_le (by rw [← Lib.size_eq]; omega)]; simp [textGo]
        have HRN := Lib.hid hRn
        clear hRn
        have T2 := Lib.hid fun w h => take_any b j s 34 34 rfl w (by omega) h hjs
        go_wp2_with fail
        go_quiet (fail)
        go_wp2_with fail
        refine (bString_any _ _ _ _ (HI.out.drewN _) (by simp; omega)).mono ?_
        rintro e w5 ⟨rfl, hI5, hb5, hk5⟩
        have HB5 := Lib.hid ((HB.out.drewN _).belowAt (hb5.mono hst1))
        have HR5 := Lib.hid ((HR2.out.drewN _).kept hk5 (HI.out.ne HR2.out))
        clear hI5 hb5 hk5
        go_wp2_with fail
        refine (T2.out _ HR5.out).mono ?_
        have hst0 : stands s j 34 = false := by
          cases hs : stands s j 34
          · rfl
          · exact absurd (stands_in hs) hin
        rw [hst0, if_neg (by simp)]
        rintro e w6 ⟨rfl, hb6, hR6⟩
        have HB6 := Lib.hid (HB5.out.trans hb6)
        have HR6 := Lib.hid hR6
        clear hb6 hR6 hst0
        go_wp2_with fail
        go_ret2
        refine (show TextPost _ _ _ _ _ _ _ from ⟨_, j, by rw [HRN.out]; rfl, HB6.out, HR6.out, hjs, fun t n e => by rw [HRN.out] at e; cases e⟩)
  · have hRn : R = none := by
      rw [← HRR.out]; unfold textL; rw [if_neg]
      rw [List.getElem?_drop, Nat.add_zero]
      intro e; apply hq; unfold stands; rw [beq_iff_eq]; exact e
    have HRN := Lib.hid hRn
    clear hRn
    have hq' : stands s i 34 = false := by simpa using hq
    go_enter Tryd.func42, Tryd.ntmps42
    go_wp2_with fail
    refine (T1.out _ HR.out).mono ?_
    rw [hq', if_neg (by simp)]
    rintro e w1 ⟨rfl, hb1, hR1⟩
    have HB1 := Lib.hid hb1
    have HR1 := Lib.hid hR1
    clear hb1 hR1 hq' hq
    go_wp2_with fail
    go_ret2
    refine (show TextPost _ _ _ _ _ _ _ from ⟨_, i, by rw [HRN.out]; rfl, HB1.out, HR1.out, hi, fun t n e => by rw [HRN.out] at e; cases e⟩)
end Go.Proofs.YtjdpbfjfcbjlfaaDoor
