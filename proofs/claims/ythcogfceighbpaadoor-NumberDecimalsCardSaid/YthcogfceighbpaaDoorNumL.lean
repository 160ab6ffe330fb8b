/- DERIVED. The walk of times: a long number so many times, and some more. -/
import Derived.Test.YthcogfceighbpaaDoorNumQ
import Derived.Test.YthcogfceighbpaaDoorNumS
import Derived.Deep.AppendLies
set_option linter.unusedSimpArgs false
set_option linter.unusedVariables false
namespace Go.Proofs.YthcogfceighbpaaDoor
open Go.RowKit

/-- Limbs that the call has made. -/
def OwnsL (w : World) (B : Nat) (v : Value) (l : List Nat) : Prop := w.ownsRow B 3 1 v l.length (l.map fun x => Value.int .i64 (x : Nat))
theorem OwnsL.shape {w : World} {B : Nat} {v : Value} {l : List Nat} (h : OwnsL w B v l) : ∃ a c, v = .slice a l.length c := by
  rcases h.2 with ⟨rfl, h0⟩ | ⟨g, cap, cur, rfl, _⟩
  · exact ⟨none, 0, by rw [h0]⟩
  · exact ⟨_, _, rfl⟩
theorem OwnsL.form {w : World} {B n : Nat} {a : Option Addr} {c : Nat} {l : List Nat} (h : OwnsL w B (.slice a n c) l) (hn : l.length = n) (h0 : 0 < n) :
    ∃ g, a = some ⟨g, 0, none⟩ ∧ B ≤ g ∧ g < w.heap.size ∧ ∀ i x, l[i]? = some x → w.cell? ⟨g, i, none⟩ = some (.int .i64 (x : Nat)) ∧ w.frozen? ⟨g, i, none⟩ = false := by
  subst hn
  rcases id h.2 with ⟨_, h1⟩ | ⟨g, cap, cur, hv, hg, hgg, hnc, hcm, _⟩
  · omega
  · simp only [Value.slice.injEq, true_and] at hv
    obtain ⟨rfl, rfl⟩ := hv
    refine ⟨g, rfl, hg, (Array.getElem?_eq_some_iff.1 hgg).1, fun i x hx => ⟨?_, frozen_of_row _ _ _ _ _ hgg⟩⟩
    have hi := (List.getElem?_eq_some_iff.1 hx).1
    rw [World.ownsRow.cellAt h i (by omega), List.getElem?_map, hx]; rfl
theorem OwnsL.set {w : World} {B g n c : Nat} {l : List Nat} (h : OwnsL w B (.slice (some ⟨g, 0, none⟩) n c) l) (hn : l.length = n) (i x : Nat) :
    OwnsL (w.setCell ⟨g, i, none⟩ (.int .i64 (x : Nat))) B (.slice (some ⟨g, 0, none⟩) n c) (l.set i x) := by
  subst hn
  rcases h.2 with ⟨h1, _⟩ | ⟨g', cap, cur, hv, hg, hgg, hnc, hcm, hsz, ht⟩
  · simp at h1
  · simp only [Value.slice.injEq, Option.some.injEq, Addr.mk.injEq, and_true, true_and] at hv
    obtain ⟨rfl, rfl⟩ := hv
    unfold OwnsL
    rw [List.length_set]
    refine ⟨by simp, .inr ⟨g, c, _, rfl, hg, heap_setCell_same _ _ i _ _ _ hgg, hnc, hcm, by simpa using hsz, ?_⟩⟩
    rw [Array.toList_setIfInBounds, List.take_set, ht, List.map_set]
theorem OwnsL.keep {w w' : World} {B : Nat} {v : Value} {l : List Nat} (h : OwnsL w B v l) (hb : Below w.heap.size w w') : OwnsL w' B v l := by
  obtain ⟨e, ⟨a, b⟩ | ⟨g, cap, cur, a, b, c, d⟩⟩ := h
  · exact ⟨e, .inl ⟨a, b⟩⟩
  · exact ⟨e, .inr ⟨g, cap, cur, a, b, (hb.block g (Array.getElem?_eq_some_iff.1 c).1).trans c, d⟩⟩
theorem mulA_snoc (by_ : Nat) (a : List Nat) (x : Nat) : ∀ c, mulA by_ (a ++ [x]) c = ((mulA by_ a c).1 ++ [((mulA by_ a c).2 + x * by_) % 1000000000], ((mulA by_ a c).2 + x * by_) / 1000000000) := by
  induction a with
  | nil => intro c; rfl
  | cons y r ih => intro c; simp only [List.cons_append, mulA, ih]
theorem int_info : ∃ i z, Tryd.prog.info? 3 = some i ∧ i.zero = some z ∧ i.size = 1 ∧ i.bytes = 8 ∧ z.cells.size = 1 := by
  have h : (Tryd.prog.info? 3).map (fun i => (i.zero.map (·.cells.size), i.size, i.bytes)) = some (some 1, 1, 8) := by kernel_rfl
  cases e : Tryd.prog.info? 3 with
  | none => rw [e] at h; cases h
  | some i =>
    rw [e] at h
    simp only [Option.map_some, Option.some.injEq, Prod.mk.injEq] at h
    cases hz : i.zero with
    | none => rw [hz] at h; simp at h
    | some z =>
      rw [hz] at h
      exact ⟨i, z, rfl, hz, h.2.1, h.2.2, by simpa using h.1⟩
/-- What the loop of times has come to. -/
def TimesAt (by_ : Nat) (l : List Nat) (c i : Nat) : List Nat := (mulA by_ (l.take i) c).1 ++ l.drop i
theorem timesAt_len (by_ : Nat) (l : List Nat) (c i : Nat) (h : i ≤ l.length) : (TimesAt by_ l c i).length = l.length := by
  unfold TimesAt; rw [List.length_append, mulA_len, List.length_take, List.length_drop]; omega
theorem timesAt_get (by_ : Nat) (l : List Nat) (c i : Nat) (h : i < l.length) : (TimesAt by_ l c i)[i]? = some l[i] := by
  unfold TimesAt
  rw [List.getElem?_append_right (by rw [mulA_len, List.length_take]; omega), mulA_len, List.length_take, show i - min i l.length = 0 from by omega, List.getElem?_drop, Nat.add_zero, List.getElem?_eq_getElem h]
theorem timesAt_step (by_ : Nat) (l : List Nat) (c i : Nat) (h : i < l.length) : (TimesAt by_ l c i).set i (((mulA by_ (l.take i) c).2 + l[i] * by_) % 1000000000) = TimesAt by_ l c (i + 1) ∧ (mulA by_ (l.take (i + 1)) c).2 = ((mulA by_ (l.take i) c).2 + l[i] * by_) / 1000000000 := by
  unfold TimesAt
  rw [List.take_succ_eq_append_getElem h, mulA_snoc]
  refine ⟨?_, rfl⟩
  rw [List.set_append_right _ _ (by rw [mulA_len, List.length_take]; omega), mulA_len, List.length_take, List.drop_eq_getElem_cons h, show i - min i l.length = 0 from by omega, List.set_cons_zero, List.append_assoc]
  rfl
set_option maxRecDepth 20000 in
set_option maxHeartbeats 4000000 in
theorem times_any (l : List Nat) (v : Value) (by_ c B : Nat) (w : World) (hO : OwnsL w B v l) (hB : B ≤ w.heap.size) (hb : by_ ≤ 16) (hc : c ≤ 16) (hl : ∀ x ∈ l, x < 1000000000) (hlen : l.length ≤ 1048576) :
    Calls Tryd.prog 30 #[v, .int .i64 by_, .int .i64 c] w fun e w' => ∃ v', e = .returned v' ∧ OwnsL w' B v' (timesL by_ l c) ∧ Below B w w' := by
  obtain ⟨a, cap, rfl⟩ := hO.shape
  obtain ⟨hm1, hm2⟩ := mulA_lim by_ l hb c hc hl
  have hlim : ∀ i, i ≤ l.length → (mulA by_ (l.take i) c).2 ≤ 16 := fun i _ => (mulA_lim by_ (l.take i) hb c hc (fun x hx => hl x (List.mem_of_mem_take hx))).2
  have HLIM := Lib.hid hlim
  have HL := Lib.hid hl
  have HO := Lib.hid hO
  obtain ⟨i0, z0, hi0, hz0, hz1, hz2, hz3⟩ := int_info
  clear hO hlim hl hm1
  go_enter Tryd.func30, Tryd.ntmps30
  go_wp2_with fail
  go_loopw [2, 10] (fun mv iv wr => ∃ (i m : Nat), iv = .int .i64 i ∧ mv = .int .i64 m ∧ i ≤ l.length ∧ m ≤ 16 ∧ (mulA by_ (l.take i) c).2 = m ∧ OwnsL wr B (.slice a l.length cap) (TimesAt by_ l c i) ∧ Below B w wr) (fun _ iv _ => l.length - (intOf iv).toNat)
  case atStart => exact ⟨0, c, rfl, rfl, Nat.zero_le _, hc, by simp [mulA], by unfold TimesAt; simpa [mulA] using HO.out, Below.refl _ _⟩
  case round =>
    obtain ⟨i, m, rfl, rfl, hi, hm, hM, hR, hBl⟩ := hrel
    have HM := Lib.hid hM
    have HR := Lib.hid hR
    have HBl := Lib.hid hBl
    clear hM hR hBl
    by_cases hin : i < l.length
    · have hlt := timesAt_len by_ l c i hi
      obtain ⟨g, rfl, hBg, hgl, hcell⟩ := HR.out.form hlt (by omega)
      obtain ⟨hc0, hz⟩ := hcell i l[i] (timesAt_get by_ l c i hin)
      obtain ⟨hS, hC⟩ := timesAt_step by_ l c i hin
      rw [HM.out] at hS hC
      have hx := HL.out l[i] (List.getElem_mem hin)
      have hq := HLIM.out (i + 1) hin
      rw [hC] at hq
      generalize l[i] = x at *
      have hmx : x * by_ ≤ 999999999 * 16 := Nat.mul_le_mul (by omega) hb
      have hpi : (x : Int) * (by_ : Int) = ((x * by_ : Nat) : Int) := by simp
      generalize x * by_ = p at *
      have HS := Lib.hid hS
      have HC := Lib.hid hC
      have hme : (((m + p) % 1000000000 : Nat) : Int) = ((m : Int) + p) % 1000000000 := by omega
      have hRS := HR.out.set hlt i ((m + p) % 1000000000)
      rw [hme] at hRS
      have HRS := Lib.hid hRS
      have HBS := Lib.hid (HBl.out.setCell (p := ⟨g, i, none⟩) hBg (.int .i64 (((m : Int) + p) % 1000000000)))
      have HMD := Lib.hid (show ((m : Int) + p) / 1000000000 = (((m + p) / 1000000000 : Nat) : Int) from by omega)
      clear hme hRS
      clear hcell hS hC hlt
      go_wp2_with fail
      go_roundw
      case rel => exact ⟨i + 1, (m + p) / 1000000000, by go_num, by first | rfl | exact congrArg (Value.int .i64) HMD.out, by omega, hq, HC.out, by rw [← HS.out]; exact HRS.out, HBS.out⟩
      case measure => simp [intOf]; omega
    · have hi' : i = l.length := by omega
      subst hi'
      rw [List.take_length] at HM
      have hT : TimesAt by_ l c l.length = (mulA by_ l c).1 := by unfold TimesAt; rw [List.take_length, List.drop_length, List.append_nil]
      rw [hT] at HR
      have hml := mulA_len by_ l c
      have t3 : decide (l.length < l.length) = false := by simp
      by_cases h0 : 0 < m
      · have t4 : decide (0 < m) = true := by simp; omega
        have HT := Lib.hid (show timesL by_ l c = (mulA by_ l c).1 ++ [m] from by unfold timesL; rw [HM.out, if_pos h0])
        have hR2 : wr.ownsRow B 3 1 (.slice a l.length cap) l.length ((mulA by_ l c).1.map fun x => Value.int .i64 (x : Nat)) := by have h := HR.out; unfold OwnsL at h; rw [hml] at h; exact h
        have HR2 := Lib.hid (hR2.alloc (.cells #[.int .i64 (m : Int)] 3))
        have hst := HBl.out.size
        have HB2 := Lib.hid (HBl.out.alloc (by omega) (.cells #[.int .i64 (m : Int)] 3))
        have hnew := heap_alloc_new wr (.cells #[.int .i64 (m : Int)] 3 (0, 0))
        have HNW := Lib.hid hnew
        clear hT hR2 h0 hnew
        go_wp2_with (at_builtin; refine wpList_append_lies _ rfl _ _ 42 rfl B 3 i0 z0 1 8 Tryd.underlying42 hi0 hz0 hz1 hz2 hz3 (by decide) _ _ _ rfl HR2.out ⟨wr.heap.size, 0, none⟩ 1 1 [.int .i64 (m : Int)] rfl rfl (World.news_of_block HNW.out) (by intro u hu; simp at hu; subst hu; rfl) (by omega) (by simp only [maxLen]; omega) (by omega) (by simp; omega) _ rfl ?_; rintro g cap2 w5 hown hgrow hat hlt5; have HO5 := Lib.hid hown; have HB5 := Lib.hid (HB2.out.grown hgrow (by simp; omega) (fun k hk => (HR2.out.lt k hk).1)); clear hown hgrow hat)
        go_ret
        refine ⟨_, rfl, ?_, HB5.out⟩
        rw [HT.out]
        unfold OwnsL
        rw [List.length_append, hml, List.map_append]
        exact HO5.out
      · have t4 : decide (0 < m) = false := by simp; omega
        have HT := Lib.hid (show timesL by_ l c = (mulA by_ l c).1 from by unfold timesL; rw [HM.out, if_neg h0])
        clear hT h0
        go_wp2_with fail
        go_ret
        exact ⟨_, rfl, by rw [HT.out]; exact HR.out, HBl.out⟩
end Go.Proofs.YthcogfceighbpaaDoor
