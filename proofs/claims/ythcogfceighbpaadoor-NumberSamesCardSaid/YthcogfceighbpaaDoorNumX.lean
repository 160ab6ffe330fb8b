/- DERIVED. The walk of text: a long number in decimal digits. -/
import Derived.Test.YthcogfceighbpaaDoorNumL
set_option linter.unusedSimpArgs false
set_option linter.unusedVariables false
namespace Go.Proofs.YthcogfceighbpaaDoor
open Go.RowKit Go.Sort

theorem below_grow (w : World) (q : Nat) (os : Array Obj) : RowKit.Below w.heap.size w (grow (w.drewN q) os) := by
  refine ⟨rfl, rfl, rfl, ?_, fun k hk => ?_⟩
  · show w.heap.size ≤ (w.heap ++ os).size
    rw [Array.size_append]; omega
  · show (w.heap ++ os)[k]? = w.heap[k]?
    exact Array.getElem?_append_left hk
/-- The table that Itoa reads. -/
def Pow (w : World) : Prop := Lib.TabIs Tryd.prog w "internal/strconv.uint64pow10" .u64 Lib.pow10Tab
theorem Pow.below {w w' : World} (h : Pow w) (hb : RowKit.Below w.heap.size w w') : Pow w' := by
  unfold Pow Lib.TabIs World.var? at h ⊢
  cases hg : Tryd.prog.globalNamed "internal/strconv.uint64pow10" with
  | none => rw [hg] at h; simp at h
  | some g =>
    rw [hg] at h
    simp only [Option.bind_some] at h ⊢
    cases hh : w.heap[g]? with
    | none => rw [hh] at h; simp at h
    | some o =>
      rw [hb.block g (Array.getElem?_eq_some_iff.1 hh).1, hh]
      rw [hh] at h; exact h
theorem itoa_any (x : Nat) (w : World) (hx : x < 1000000000) (hT : Pow w) : Calls Tryd.prog 44 #[.int .i64 (x : Nat)] w fun e w' => e = .returned (.string ⟨(Lib.decDigits x).toArray⟩) ∧ RowKit.Below w.heap.size w w' := by
  refine (Tryd.strconv_Itoa x (by omega) (by omega) w hT).mono ?_
  rintro e w' ⟨he, k, os, rfl⟩
  refine ⟨?_, below_grow w k os⟩
  rw [he]
  have : Lib.itoa (x : Int) = Lib.decDigits x := by unfold Lib.itoa; rw [if_neg (by omega), Int.toNat_natCast]
  rw [this]
theorem repeat_one (c : Nat) : Lib.repeatL [48] c = List.replicate c 48 := by
  induction c with
  | zero => rfl
  | succ c ih => rw [Lib.repeatL, ih, List.replicate_succ]; rfl
theorem rep9_any (d : ByteArray) (w : World) (h : d.size ≤ 9) : Calls Tryd.prog 45 #[.string ⟨#[48]⟩, .int .i64 (9 - (d.size : Int))] w fun e w' => e = .returned (.string ⟨(List.replicate (9 - d.size) 48).toArray⟩) ∧ RowKit.Below w.heap.size w w' := by
  rw [show (9 - (d.size : Int)) = ((9 - d.size : Nat) : Int) from by omega]
  refine (Tryd.strings_Repeat ⟨#[48]⟩ (9 - d.size) w (by omega) (by show 1 * (9 - d.size) ≤ _; omega)).mono ?_
  rintro e w' ⟨he, hb⟩
  refine ⟨?_, hb⟩
  rw [he, show (⟨#[48]⟩ : ByteArray).data.toList = [48] from rfl, repeat_one]
theorem low_step (m : List Nat) (k : Nat) (h : k < m.length) : lowL (m.drop k) = lowL (m.drop (k + 1)) ++ pad9 m[k] := by
  rw [List.drop_eq_getElem_cons h, lowL]
theorem ba_append (a b : ByteArray) : (a ++ b).data.toList = a.data.toList ++ b.data.toList := by simp
set_option maxRecDepth 20000 in
set_option maxHeartbeats 4000000 in
theorem text_any (l : List Nat) (v : Value) (B : Nat) (w : World) (hO : OwnsL w B v l) (hl : ∀ x ∈ l, x < 1000000000) (hlen : l.length ≤ 1048576) (hT : Pow w) :
    Calls Tryd.prog 31 #[v] w fun e w' => e = .returned (.string ⟨(limbText l).toArray⟩) ∧ RowKit.Below w.heap.size w w' := by
  obtain ⟨a, cap, rfl⟩ := hO.shape
  by_cases h0 : l = []
  · subst h0
    clear hO
    go_enter Tryd.func31, Tryd.ntmps31
    go_wp2_with fail
    go_ret
    exact ⟨rfl, RowKit.Below.refl _ _⟩
  · have hpos : 0 < l.length := List.length_pos_iff.2 h0
    obtain ⟨g, rfl, hBg, hgl, hcell⟩ := hO.form rfl hpos
    obtain ⟨t, ht⟩ : ∃ t, l.getLast? = some t := ⟨l.getLast h0, List.getLast?_eq_some_getLast h0⟩
    have hR : limbText l = Lib.decDigits t ++ lowL l.dropLast := by unfold limbText; rw [ht]
    rw [hR]
    have htl : l[l.length - 1]? = some t := by rw [← List.getLast?_eq_getElem?]; exact ht
    have htm := hl t (List.mem_of_getElem? htl)
    have hc0 := (hcell _ t htl).1
    have hdl : l.dropLast.length = l.length - 1 := List.length_dropLast
    have hld := lowL_all l.dropLast (fun x hx => hl x (List.dropLast_subset _ hx))
    have HC := Lib.hid hcell
    have HLM := Lib.hid hl
    have HT := Lib.hid hT
    have hg : ∀ k, k < l.length - 1 → ∃ x, l[k]? = some x ∧ l.dropLast[k]? = some x ∧ x < 1000000000 := fun k hk => by
      refine ⟨l[k], List.getElem?_eq_getElem (by omega), ?_, hl _ (List.getElem_mem _)⟩
      rw [List.getElem?_dropLast, if_pos hk]
      exact List.getElem?_eq_getElem (by omega)
    have HG := Lib.hid hg
    have I1 := Lib.hid (itoa_any t w htm hT)
    generalize l.dropLast = m at *
    generalize hL : l.length = L at *
    have t0 : ((L : Int) == 0) = false := by simp; omega
    have j0 : (0 : Int) ≤ (L : Int) - 1 := by omega
    have j1 : (L : Int) - 1 < L := by omega
    have j2 : ((L : Int) - 1).toNat = L - 1 := by omega
    have HDL := Lib.hid hdl
    have HL0 := Lib.hid hL
    clear hO h0 hR htl ht hcell hl hT hg hL hdl hld
    go_enter Tryd.func31, Tryd.ntmps31
    go_wp2_with fail
    refine I1.out.mono ?_
    rintro e w1 ⟨rfl, hb1⟩
    have HB1 := Lib.hid hb1
    clear hb1
    go_wp2_with fail
    go_loopw [3, 19] (fun sv iv wr => ∃ (i : Nat) (S : ByteArray), iv = .int .i64 i ∧ sv = .string S ∧ i ≤ L - 1 ∧ Hid (S.data.toList = Lib.decDigits t ++ lowL (m.drop (L - 1 - i))) ∧ S.size ≤ 10 + 9 * i ∧ RowKit.Below w.heap.size w wr) (fun _ iv _ => L - 1 - (intOf iv).toNat)
    case atStart =>
      refine ⟨0, _, rfl, rfl, Nat.zero_le _, Lib.hid ?_, ?_, HB1.out⟩
      · rw [Nat.sub_zero, List.drop_eq_nil_of_le (by rw [HDL.out]; exact Nat.le_refl _), lowL, List.append_nil]
      · have := decDigits_len t 8 (by omega)
        simp only [ByteArray.size, List.size_toArray]; omega
    case round =>
      obtain ⟨i, S, rfl, rfl, hi, hS, hSz, hb⟩ := hrel
      have HBr := Lib.hid hb
      clear hb
      by_cases hin : i < L - 1
      · obtain ⟨x, hx1, hx2, hx3⟩ := HG.out (L - 2 - i) (by omega)
        have hc := (HC.out _ x hx1).1
        have hcr : wr.cell? ⟨g, L - 2 - i, none⟩ = some (.int .i64 (x : Nat)) := (HBr.out.cell (p := ⟨g, L - 2 - i, none⟩) hgl).trans hc
        have hml : L - 2 - i < m.length := by rw [HDL.out]; omega
        have hst := low_step m (L - 2 - i) hml
        have hmx : m[L - 2 - i] = x := by rw [List.getElem?_eq_getElem hml] at hx2; injection hx2
        rw [hmx, show L - 2 - i + 1 = L - 1 - i from by omega] at hst
        have HST := Lib.hid hst
        have hdx := decDigits_len x 8 (by omega)
        have I2 := Lib.hid fun w h => itoa_any x w hx3 h
        have k0 : (0 : Int) ≤ (L : Int) - 2 - i := by omega
        have k1 : (L : Int) - 2 - i < L := by omega
        have k2 : ((L : Int) - 2 - i).toNat = L - 2 - i := by omega
        have k3 : decide ((i : Int) < (L : Int) - 1) = true := by simp; omega
        obtain ⟨d, hd⟩ : ∃ d : ByteArray, (⟨(Lib.decDigits x).toArray⟩ : ByteArray) = d := ⟨_, rfl⟩
        have hdd : d.data.toList = Lib.decDigits x := by rw [← hd]
        have hds : d.size ≤ 9 := by rw [Lib.size_eq, hdd]; omega
        rw [hd] at I2
        have R2 := Lib.hid fun w => rep9_any d w hds
        have HDD := Lib.hid hdd
        clear hst hmx hml hx1 hx2 hc hd hdd
        go_wp2_with fail
        refine (I2.out _ (HT.out.below HBr.out)).mono ?_
        rintro e w2 ⟨rfl, hb2⟩
        have HB2 := Lib.hid (Below.then HBr.out hb2)
        clear hb2
        go_wp2_with fail
        refine (R2.out _).mono ?_
        rintro e w3 ⟨rfl, hb3⟩
        have HB3 := Lib.hid (Below.then HB2.out hb3)
        clear hb3
        obtain ⟨z, hz⟩ : ∃ z : ByteArray, (⟨(List.replicate (9 - d.size) 48).toArray⟩ : ByteArray) = z := ⟨_, rfl⟩
        have hzz : z.data.toList = List.replicate (9 - d.size) 48 := by rw [← hz]
        have hzs : z.size = 9 - d.size := by rw [Lib.size_eq, hzz, List.length_replicate]
        rw [hz]
        have hsz2 : (z ++ d).size = z.size + d.size := by simp
        have hsz3 : (S ++ (z ++ d)).size = S.size + (z.size + d.size) := by simp
        have HNS := Lib.hid (show (S ++ (z ++ d)).data.toList = Lib.decDigits t ++ lowL (m.drop (L - 1 - (i + 1))) from by
          rw [ba_append, ba_append, hS.out, hzz, HDD.out, show L - 1 - (i + 1) = L - 2 - i from by omega, HST.out, List.append_assoc]
          unfold pad9
          rw [Lib.size_eq d, HDD.out])
        have HNZ := Lib.hid (show (S ++ (z ++ d)).size ≤ 10 + 9 * (i + 1) from by rw [hsz3, hzs]; omega)
        have hzb : z.size ≤ 9 := by omega
        have hSb : S.size ≤ 18874378 := by omega
        clear hzz hzs hz hsz2 hsz3 hcr
        go_wp2_with fail
        go_roundw
        case rel => exact ⟨i + 1, S ++ (z ++ d), by go_num, rfl, by omega, HNS, HNZ.out, HB3.out⟩
        case measure => simp [intOf]; omega
      · have hi' : i = L - 1 := by omega
        have k3 : decide ((i : Int) < (L : Int) - 1) = false := by simp; omega
        have HE := Lib.hid (show S = ⟨(Lib.decDigits t ++ lowL m).toArray⟩ from by
          have h := hS.out
          rw [hi', Nat.sub_self, List.drop_zero] at h
          rw [← h])
        clear hi'
        go_wp2_with fail
        go_ret
        exact ⟨by rw [← HE.out]; rfl, HBr.out⟩
end Go.Proofs.YthcogfceighbpaaDoor
