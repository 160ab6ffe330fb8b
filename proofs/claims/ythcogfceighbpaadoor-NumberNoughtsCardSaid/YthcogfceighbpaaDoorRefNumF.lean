/- DERIVED. The walk of the document's Decimal. -/
import Derived.Test.YthcogfceighbpaaDoorNumT
import Derived.Test.YthcogfceighbpaaDoorNumL
import Derived.Test.YthcogfceighbpaaDoorNumY
import Derived.Test.YthcogfceighbpaaDoorRefNumE
import Derived.Test.YthcogfceighbpaaDoorRefNumV
import Derived.Test.YthcogfceighbpaaDoorBufW
set_option linter.unusedSimpArgs false
set_option linter.unusedVariables false
namespace Go.Proofs.YthcogfceighbpaaDoor
open Go.RowKit

theorem byteT_cells (x : Nat) (h : x < 10) : (#[Value.int .u8 (48 + (x : Int))] : Array Value).toList = Lib.byteCells [byteT x] := by
  unfold Lib.byteCells
  rw [List.map_singleton, byteT_nat x h]
  simp
theorem u8_of {x : Int} (h0 : 0 ≤ x) (h1 : x < 256) : IntKind.u8.wrap x = x := by
  simp [IntKind.wrap, IntKind.signed, IntKind.bits]; omega
theorem OwnsL.lit (w : World) (B x : Nat) (hB : B ≤ w.heap.size) : OwnsL (w.alloc (.cells #[.int .i64 (x : Nat)] 3)) B (.slice (some ⟨w.heap.size, 0, none⟩) 1 1) [x] := by
  have := World.ownsRow_lit (base := B) (e := 3) (size := 1) w #[.int .i64 (x : Nat)] 1 hB (by decide) rfl
  exact this
/-- How long the digits may be behind the carry's. -/
def LenT (L m k : Nat) : Prop := (k = L ∧ m ≤ 16) ∨ (k = L + 1 ∧ m ≤ 1) ∨ (k = L + 2 ∧ m = 0)
theorem LenT.next {L m k : Nat} (h : LenT L m k) (h0 : 0 < m) : LenT L (m / 10) (k + 1) := by unfold LenT at *; omega
theorem LenT.le {L m k : Nat} (h : LenT L m k) : k ≤ L + 2 ∧ L ≤ k ∧ m ≤ 16 := by unfold LenT at *; omega
theorem carry_val (ls : List Nat) (m V : Nat) (h : valT ls + 10 ^ ls.length * m = V) : valT (ls ++ [m % 10]) + 10 ^ (ls ++ [m % 10]).length * (m / 10) = V := by
  rw [valT_append, List.length_append, List.length_singleton, Nat.pow_succ, ← h, Nat.add_assoc, Nat.mul_assoc, ← Nat.mul_add, Nat.mod_add_div]
def DecPost (R : List UInt8 × Int) (w : World) (e : Ending) (w' : World) : Prop := e = .returned (textV R) ∧ Below w.heap.size w w'
/-- What the last loop has come to. -/
def TopAt (ls : List Nat) (W1 : World) (bv kv : Value) (wr : World) : Prop :=
  (∃ q : Nat, kv = .int .i64 q ∧ q < ls.length ∧ Buf W1.heap.size bv (topT ls (q + 1)) W1 wr) ∨ (kv = .int .i64 (-1) ∧ Buf W1.heap.size bv (topT ls 0) W1 wr)
set_option maxRecDepth 40000 in
set_option maxHeartbeats 8000000 in
theorem refDecimal_go (s : ByteArray) (w : World) (hs : s.size ≤ 1000) (bn n : Nat) (hI : isK 11 s.data.toList = true) (hp : prefX s.data.toList = ((bn : Int), n)) (hall : digN bn (s.data.toList.drop n) = (s.data.toList.drop n).length) (hn : n ≤ s.size) (hb1 : 1 ≤ bn) (hb2 : bn ≤ 16) :
    Calls Tryd.prog 17 #[.string s] w (DecPost (Lib.decDigits (natB bn (s.data.toList.drop n)), 0) w) := by
  have I1 := fun w => whole_any s 11 w (by decide) (by omega)
  rw [hI] at I1
  have P1 := fun w => parts_any s w hI (by omega)
  rw [hp] at P1
  have I1 := Lib.hid I1
  have P1 := Lib.hid P1
  have HA := Lib.hid hall
  have t0 : decide ((1000 : Int) < s.size) = false := by simp; omega
  obtain ⟨i0, z0, hi0, iz0, iz1, iz2, iz3⟩ := int_info
  clear hI hp hall
  go_enter Tryd.func17, Tryd.ntmps17
  go_wp2_with fail
  refine (I1.out _).mono ?_
  rintro e w1 ⟨rfl, rfl⟩
  go_wp2_with fail
  refine (P1.out _).mono ?_
  rintro e w1 ⟨rfl, rfl⟩
  unfold pairV
  go_wp2_with fail
  have HO0 := Lib.hid (OwnsL.lit w w.heap.size 0 (Nat.le_refl _))
  have HB0 := Lib.hid ((Below.refl w.heap.size w).alloc (Nat.le_refl _) (.cells #[.int .i64 0] 3))
  go_loopw [5, 6] (fun iv nv wr => ∃ (j : Nat) (ls : List Nat), iv = .int .i64 ((n + j : Nat) : Int) ∧ n + j ≤ s.size ∧ OwnsL wr w.heap.size nv ls ∧ (∀ x ∈ ls, x < 10) ∧ valT ls = natB bn ((s.data.toList.drop n).take j) ∧ 1 ≤ ls.length ∧ ls.length ≤ 1 + 2 * j ∧ Below w.heap.size w wr ∧ w.heap.size < wr.heap.size) (fun iv _ _ => s.size - (intOf iv).toNat)
  case atStart => exact ⟨0, [0], rfl, by omega, HO0.out, by simp, by simp [valT, natB], by simp, by simp, HB0.out, by simp⟩
  case round =>
    obtain ⟨j, ls, rfl, hj, hO, hD, hV, hl1, hl2, hB, hz⟩ := hrel
    have HO := Lib.hid hO
    have HD := Lib.hid hD
    have HV := Lib.hid hV
    have HB := Lib.hid hB
    obtain ⟨va, vc, rfl⟩ := hO.shape
    clear hO hD hV hB HO0 HB0
    by_cases hp : n + j < s.size
    · have hjl : j < (s.data.toList.drop n).length := by rw [List.length_drop, ← Lib.size_eq]; omega
      obtain ⟨_, hdg⟩ := digN_all bn (s.data.toList.drop n) j (by rw [HA.out]; exact hjl)
      have htake := List.take_succ_eq_append_getElem hjl
      have hget : (s.data.toList.drop n)[j] = s[n + j] := by rw [List.getElem_drop]; rfl
      rw [hget] at hdg htake
      have hsn : ((n + j : Nat) : Int) = ((n + j : Nat) : Int) := rfl
      have hj2 : j < 1000 := by omega
      have hl4 : ls.length ≤ 2001 := by omega
      have HNJ := Lib.hid (show n + (j + 1) = n + j + 1 from by omega)
      generalize hm : n + j = m at *
      have hd0 : 0 ≤ dig (s[m].toNat : Int) bn := by unfold isDig at hdg; simpa using hdg
      have hd1 := (dig_bd (s[m].toNat : Int) bn).2
      have DG := fun w => refDigit_any (s[m].toNat : Int) bn w
      obtain ⟨d, hd⟩ := Int.eq_ofNat_of_zero_le hd0
      have hnat := natB_snoc bn ((s.data.toList.drop n).take j) s[m]
      rw [← htake, hd, Int.toNat_natCast, Int.toNat_natCast, ← HV.out] at hnat
      rw [hd] at hd1 DG
      have HN := Lib.hid hnat
      have DG := Lib.hid DG
      have hmv := mulT_val bn ls d
      obtain ⟨hmd, hmc⟩ := mulT_lim bn ls hb2 d (by omega) HD.out
      have hml := mulT_len bn ls d
      have HLIM := Lib.hid fun i => (mulT_lim bn (ls.take i) hb2 d (by omega) (fun x hx => HD.out x (List.mem_of_mem_take hx))).2
      have hd16 : d ≤ 16 := by omega
      have HMV := Lib.hid hmv
      have HMD0 := Lib.hid hmd
      have HML := Lib.hid hml
      clear htake hget hdg hd hnat hd0 hd1 hjl hm hsn hmv hmd hml hmc
      have hwr := wrap64_u8 s[m]
      go_wp2_with fail
      refine (DG.out _).mono ?_
      rintro e w' ⟨rfl, rfl⟩
      clear hwr
      go_wp2_with fail
      generalize wr = W1 at *
      go_loopw [7, 8] (fun cv kv wr => ∃ (k c : Nat), kv = .int .i64 k ∧ cv = .int .i64 c ∧ k ≤ ls.length ∧ c ≤ 16 ∧ (mulT bn (ls.take k) d).2 = c ∧ OwnsL wr w.heap.size (.slice va ls.length vc) (TenAt bn ls d k) ∧ Below w.heap.size w wr ∧ w.heap.size < wr.heap.size) (fun _ kv _ => ls.length - (intOf kv).toNat)
      case atStart => exact ⟨0, d, rfl, rfl, Nat.zero_le _, hd16, by simp [mulT], by rw [tenAt_zero]; exact HO.out, HB.out, hz⟩
      case round =>
        obtain ⟨k, c, rfl, rfl, hk, hc, hM, hR, hBl, hz2⟩ := hrel
        have HM := Lib.hid hM
        have HR := Lib.hid hR
        have HBl := Lib.hid hBl
        clear hM hR hBl
        by_cases hin : k < ls.length
        · have hlt := tenAt_len bn ls d k hk
          obtain ⟨g, rfl, hBg, hgl, hcell⟩ := HR.out.form hlt (by omega)
          obtain ⟨hc0, hzf⟩ := hcell k ls[k] (tenAt_get bn ls d k hin)
          obtain ⟨hS, hC⟩ := tenAt_step bn ls d k hin
          rw [HM.out] at hS hC
          have hx := HD.out ls[k] (List.getElem_mem hin)
          have hq := HLIM.out (k + 1)
          rw [hC] at hq
          generalize ls[k] = x at *
          have hmx : x * bn ≤ 9 * 16 := Nat.mul_le_mul (by omega) hb2
          have hpi : (x : Int) * (bn : Int) = ((x * bn : Nat) : Int) := by simp
          generalize x * bn = p at *
          have HS := Lib.hid hS
          have HC := Lib.hid hC
          have hme : (((c + p) % 10 : Nat) : Int) = ((c : Int) + p) % 10 := by omega
          have hRS := HR.out.set hlt k ((c + p) % 10)
          rw [hme] at hRS
          have HRS := Lib.hid hRS
          have HBS := Lib.hid (HBl.out.setCell (p := ⟨g, k, none⟩) hBg (.int .i64 (((c : Int) + p) % 10)))
          have HMD := Lib.hid (show ((c : Int) + p) / 10 = (((c + p) / 10 : Nat) : Int) from by omega)
          clear hme hRS
          clear hcell hS hC hlt
          go_wp2_with fail
          go_roundw
          case rel => exact ⟨k + 1, (c + p) / 10, by go_num, by first | rfl | exact congrArg (Value.int .i64) HMD.out, by omega, hq, HC.out, by rw [← HS.out]; exact HRS.out, HBS.out, by simpa using hz2⟩
          case measure => simp [intOf]; omega
        · have hk' : k = ls.length := by omega
          subst hk'
          rw [List.take_length] at HM
          rw [tenAt_all] at HR
          have t3 : decide (ls.length < ls.length) = false := by simp
          have hmv := HMV.out
          rw [HM.out] at hmv
          have hlen := HML.out
          have hmd := HMD0.out
          generalize (mulT bn ls d).1 = l3 at *
          rw [← hlen] at hmv
          obtain ⟨V, hV⟩ : ∃ V, valT ls * bn + d = V := ⟨_, rfl⟩
          rw [hV] at HN hmv
          have HV3 := Lib.hid hmv
          have HL3 := Lib.hid hlen
          have HD3 := Lib.hid hmd
          clear hV hmv hlen hmd HML HMV HLIM HM HMD0
          generalize wr = W2 at *
          go_wp2_with fail
          go_loopw [6, 7] (fun nv cv wr => ∃ (l4 : List Nat) (c : Nat), cv = .int .i64 c ∧ OwnsL wr w.heap.size nv l4 ∧ (∀ x ∈ l4, x < 10) ∧ valT l4 + 10 ^ l4.length * c = V ∧ LenT ls.length c l4.length ∧ Below w.heap.size w wr ∧ w.heap.size < wr.heap.size) (fun _ cv _ => (intOf cv).toNat)
          case atStart => exact ⟨l3, c, rfl, HR.out, HD3.out, HV3.out, .inl ⟨HL3.out, hc⟩, HBl.out, hz2⟩
          case round =>
            clear HV3 HL3 HD3 HR t3 hc hk
            obtain ⟨l4, c, rfl, hO4, hD4, hV4, hLn, hB4, hz4⟩ := hrel
            obtain ⟨ua, uc, rfl⟩ := hO4.shape
            obtain ⟨hle1, hle2, hc16⟩ := hLn.le
            have HD4 := Lib.hid hD4
            have HV4 := Lib.hid hV4
            have HLn := Lib.hid hLn
            have HO4 := Lib.hid hO4
            have HB4 := Lib.hid hB4
            clear hD4 hV4 hLn hO4 hB4
            by_cases h0 : 0 < c
            · have t4 : decide (0 < c) = true := by simp; omega
              have hR2 : wr.ownsRow w.heap.size 3 1 (.slice ua l4.length uc) l4.length (l4.map fun x => Value.int .i64 (x : Nat)) := HO4.out
              have HR2 := Lib.hid (hR2.alloc (.cells #[.int .i64 ((c : Int) % 10)] 3))
              have HB2 := Lib.hid (HB4.out.alloc (by omega) (.cells #[.int .i64 ((c : Int) % 10)] 3))
              have hnew := heap_alloc_new wr (.cells #[.int .i64 ((c : Int) % 10)] 3 (0, 0))
              have HNW := Lib.hid hnew
              have HCM := Lib.hid (show ((c : Int) % 10) = ((c % 10 : Nat) : Int) from by omega)
              have hcd : c / 10 < c := by omega
              clear hR2 h0 hnew
              go_wp2_with (at_builtin; refine wpList_append_lies _ rfl _ _ 41 rfl w.heap.size 3 i0 z0 1 8 Tryd.underlying41 hi0 iz0 iz1 iz2 iz3 (by decide) _ _ _ rfl HR2.out ⟨wr.heap.size, 0, none⟩ 1 1 [.int .i64 ((c : Int) % 10)] rfl rfl (World.news_of_block HNW.out) (by intro u hu; simp at hu; subst hu; rfl) (by omega) (by simp only [maxLen]; omega) (by omega) (by simp; omega) _ rfl ?_; rintro g cap2 w5 hown hgrow hat hlt5; have HO5 := Lib.hid hown; have HB5 := Lib.hid (HB2.out.grown hgrow (by simp; omega) (fun k hk => (HR2.out.lt k hk).1)); have HZ5 := Lib.hid hgrow.size; clear hown hgrow hat)
              go_roundw
              case rel =>
                refine ⟨l4 ++ [c % 10], c / 10, by first | rfl | go_num | exact congrArg (Value.int .i64) (by omega), ?_, ?_, carry_val l4 c V HV4.out, ?_, HB5.out, ?_⟩
                · have h := HO5.out
                  rw [HCM.out] at h
                  unfold OwnsL
                  rw [List.length_append, List.map_append]
                  exact h
                · intro x hx
                  rw [List.mem_append, List.mem_singleton] at hx
                  rcases hx with hx | rfl
                  · exact HD4.out x hx
                  · omega
                · rw [List.length_append]; exact HLn.out.next (by omega)
                · have h := HZ5.out; simp at h; omega
              case measure => simp [intOf]; omega
            · obtain rfl : c = 0 := by omega
              have HVe := Lib.hid (show valT l4 = natB bn ((s.data.toList.drop n).take (j + 1)) from by have h := HV4.out; rw [HN.out]; simpa using h)
              clear h0
              go_wp2_with fail
              go_roundw
              case rel => exact ⟨j + 1, l4, by rw [HNJ.out]; go_num, by rw [HNJ.out]; omega, HO4.out, HD4.out, HVe.out, by omega, by omega, HB4.out, hz4⟩
              case measure => simp [intOf]; omega
    · have hje : (s.data.toList.drop n).length ≤ j := by rw [List.length_drop, ← Lib.size_eq]; omega
      rw [List.take_of_length_le hje] at HV
      have hl4 : ls.length ≤ 2001 := by omega
      generalize n + j = m at *
      have t1 : decide (m < s.size) = false := by simp; omega
      obtain ⟨g, rfl, hBg, hgl, hcell⟩ := HO.out.form rfl (by omega)
      have HC := Lib.hid hcell
      have HBA := Lib.hid (topT_bare ls HD.out (by omega))
      rw [HV.out] at HBA
      have HLE := Lib.hid (topT_len ls)
      clear hje hcell
      go_wp2_with fail
      generalize wr = W1 at *
      go_loopw [9, 10] (fun bv kv wr => TopAt ls W1 bv kv wr) (fun _ kv _ => (intOf kv + 1).toNat)
      case atStart => exact .inl ⟨ls.length - 1, congrArg (Value.int .i64) (by omega), by omega, by rw [show ls.length - 1 + 1 = ls.length from by omega, topT_end]; exact Buf.nil _ _ _ (Below.refl _ _) (Nat.le_refl _)⟩
      case round =>
        rcases hrel with ⟨q, rfl, hq, hb⟩ | ⟨rfl, hb⟩
        · have hx := HD.out ls[q] (List.getElem_mem hq)
          obtain ⟨hc0, _⟩ := HC.out q ls[q] (List.getElem?_eq_getElem hq)
          have hc1 := (hb.below.cell (p := ⟨g, q, none⟩) hgl).trans hc0
          have HT := Lib.hid (topT_step ls q hq)
          have htl := HLE.out (q + 1)
          have hbl : (topT ls (q + 1)).length ≤ 2001 := by omega
          have HI3 := Lib.hid hb
          generalize ls[q] = x at *
          have z : IntKind.u8.wrap (48 + (x : Int)) = 48 + (x : Int) := u8_of (by omega) (by omega)
          have q0 : (0 : Int) ≤ (q : Int) := by omega
          have q1 : decide ((0 : Int) ≤ (q : Int)) = true := by simp
          clear hc0 hb htl
          go_wp2_with (at_builtin; refine buf_add rfl _ _ rfl W1.heap.size _ _ [byteT x] ?hs5 W1 _ HI3.out _ ?hc5 1 rfl ?gg5 ?hh5 ?hx5 (by omega) ?_; (case hs5 => rfl); (case hx5 => rfl); (case hc5 => exact byteT_cells x hx); (case hh5 => first | rfl | simp); rintro v5 w5 hI5 ho5; have HI5 := Lib.hid hI5; clear hI5 ho5)
          go_roundw
          case rel =>
            have h := HI5.out
            rw [← HT.out] at h
            rcases q with _ | q
            · exact .inr ⟨by simp, h⟩
            · exact .inl ⟨q, by go_num, by omega, h⟩
          case measure => simp [intOf]
        · have HI3 := Lib.hid hb
          have hcv := hb.text
          have B1 := fun w => refBare_any ⟨(topT ls 0).toArray⟩ w (by have := HLE.out 0; simp [ByteArray.size]; omega)
          rw [show (⟨(topT ls 0).toArray⟩ : ByteArray).data.toList = topT ls 0 from rfl, HBA.out] at B1
          have B1 := Lib.hid B1
          clear hb
          go_wp2_with fail
          refine (B1.out _).mono ?_
          rintro e w7 ⟨rfl, rfl⟩
          have HB7 := Lib.hid (HB.out.trans (HI3.out.below.mono (by omega)))
          go_wp2_with fail
          go_ret2
          exact ⟨rfl, HB7.out⟩
set_option maxHeartbeats 2000000 in
theorem refDecimal_any (s : ByteArray) (w : World) (hs : s.size ≤ 1152921504606846976) :
    Calls Tryd.prog 17 #[.string s] w (DecPost (decimalX s.data.toList) w) := by
  have I1 := fun w => whole_any s 11 w (by decide) hs
  by_cases hI : isK 11 s.data.toList = true
  · by_cases hlong : 1000 < s.size
    · have HR := Lib.hid (show decimalX s.data.toList = ([], 3) from by unfold decimalX; rw [if_pos (show isInt s.data.toList = true from hI), if_pos (by rw [← Lib.size_eq]; exact hlong)])
      have t0 : decide ((1000 : Int) < s.size) = true := by simp; omega
      rw [hI] at I1
      have I1 := Lib.hid I1
      clear hI hlong
      go_enter Tryd.func17, Tryd.ntmps17
      go_wp2_with fail
      refine (I1.out _).mono ?_
      rintro e w1 ⟨rfl, rfl⟩
      go_wp2_with fail
      go_ret2
      exact ⟨by rw [HR.out]; rfl, Below.refl _ _⟩
    · obtain ⟨hall, hn⟩ := whole_dig _ hI
      have hb := prefX_base s.data.toList
      obtain ⟨⟨base, n⟩, hp⟩ : ∃ p, prefX s.data.toList = p := ⟨_, rfl⟩
      rw [hp] at hall hn hb
      simp only at hall hn
      rw [← Lib.size_eq] at hn
      obtain ⟨bn, rfl, hb1, hb2⟩ : ∃ bn : Nat, base = bn ∧ 1 ≤ bn ∧ bn ≤ 16 := by rcases hb with h | h | h <;> injection h with h1 h2 <;> exact ⟨base.toNat, by omega, by omega, by omega⟩
      have hR : decimalX s.data.toList = (Lib.decDigits (natB bn (s.data.toList.drop n)), 0) := by
        unfold decimalX
        rw [if_pos (show isInt s.data.toList = true from hI), if_neg (by rw [← Lib.size_eq]; exact hlong), hp]
      rw [hR]
      exact refDecimal_go s w (by omega) bn n hI hp hall hn hb1 hb2
  · have HR := Lib.hid (show decimalX s.data.toList = ([], 40) from by unfold decimalX; rw [if_neg (show ¬ isInt s.data.toList = true from hI)])
    have hI : isK 11 s.data.toList = false := by simpa using hI
    rw [hI] at I1
    have I1 := Lib.hid I1
    clear hI
    go_enter Tryd.func17, Tryd.ntmps17
    go_wp2_with fail
    refine (I1.out _).mono ?_
    rintro e w1 ⟨rfl, rfl⟩
    go_wp2_with fail
    go_ret2
    exact ⟨by rw [HR.out]; rfl, Below.refl _ _⟩
end Go.Proofs.YthcogfceighbpaaDoor
