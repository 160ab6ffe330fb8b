/- DERIVED. The walks of more and Known, the document's. DERIVED. The walk of the document's Known. DERIVED. The walk of the document's SameFixes, at one list twice. -/
import Derived.Test.YtikkdkacflkifaaDoorFixA
import Derived.Deep.RegionHeld3
set_option linter.unusedSimpArgs false
set_option linter.unusedVariables false
namespace Go.Proofs.YtikkdkacflkifaaDoor
open Go.RowKit

def mkF (side prec : Int) (n : ByteArray) : Fx := ⟨n, side, prec⟩
theorem mkF_take (side prec : Int) (ns : List ByteArray) (j : Nat) (hj : j < ns.length) : (ns.take (j + 1)).map (mkF side prec) = (ns.take j).map (mkF side prec) ++ [⟨ns[j], side, prec⟩] := by
  rw [List.take_succ_eq_append_getElem hj, List.map_append]; rfl
/-- A block of texts. -/
def TextsAt (w : World) (g : Nat) (ns : List ByteArray) : Prop := w.heap[g]? = some (.cells (ns.map Value.string).toArray 9 (0, 0))
theorem TextsAt.get {w : World} {g : Nat} {ns : List ByteArray} (h : TextsAt w g ns) (j : Nat) (hj : j < ns.length) : w.cell? ⟨g, j, none⟩ = some (.string ns[j]) := by
  rw [cell_of_row' _ _ _ _ _ _ h]; simp [hj]
def MorePost (B : Nat) (l : List Fx) (w0 : World) (e : Ending) (w' : World) : Prop := ∃ v, e = .returned v ∧ OwnsX w' B v l ∧ Below B w0 w' ∧ B ≤ w'.heap.size
set_option maxRecDepth 20000 in
set_option maxHeartbeats 4000000 in
theorem more_any (B : Nat) (l : List Fx) (v : Value) (side prec : Int) (ns : List ByteArray) (g : Nat) (cap : Nat) (w0 w : World) (hl : l.length + ns.length ≤ 1000) (hg : B ≤ g) (hB : B ≤ w.heap.size) (hb : Below B w0 w) (hS : TextsAt w g ns) (hO : OwnsX w B v l) :
    Calls Tryd.prog 31 #[v, .int .i64 side, .int .i64 prec, .slice (some ⟨g, 0, none⟩) ns.length cap] w (MorePost B (l ++ ns.map (mkF side prec)) w0) := by
  obtain ⟨i0, z0, hi0, hz0, hz1, hz2, hz3⟩ := fix_info
  obtain ⟨va, vc, rfl⟩ := hO.shape
  have HS := Lib.hid hS; have HO := Lib.hid hO; have HB := Lib.hid hb
  clear hS hO hb
  go_enter Tryd.func31, Tryd.ntmps31
  go_wp2_with fail
  go_loopw [0, 9] (fun v a wr => ∃ j : Nat, a = .int .i64 j ∧ j ≤ ns.length ∧ Below B w0 wr ∧ B ≤ wr.heap.size ∧ TextsAt wr g ns ∧ OwnsX wr B v (l ++ (ns.take j).map (mkF side prec))) (fun _ a _ => ns.length - (intOf a).toNat)
  case atStart => exact ⟨0, rfl, by omega, HB.out, hB, HS.out, by simpa using HO.out⟩
  case round =>
    obtain ⟨j, rfl, hj, hbq, hBq, hSq, hOq⟩ := hrel
    have HBq := Lib.hid hbq; have HSq := Lib.hid hSq; have HOq := Lib.hid hOq
    obtain ⟨ua, uc, rfl⟩ := hOq.shape
    have hlen : (l ++ (ns.take j).map (mkF side prec)).length ≤ 1000 := by
      rw [List.length_append, List.length_map, List.length_take]; omega
    by_cases hjn : j < ns.length
    · have s0 := hSq.get j hjn
      have HT2 := Lib.hid (mkF_take side prec ns j hjn)
      clear hbq hSq hOq
      obtain ⟨nm, hnm⟩ : ∃ nm, ns[j] = nm := ⟨_, rfl⟩
      rw [hnm] at s0 HT2
      clear hnm
      go_wp2_with (at_builtin; refine wpList_append_own _ rfl _ _ 22 rfl B 25 i0 z0 3 32 Tryd.underlying22 hi0 hz0 hz1 hz2 hz3 (by decide) _ _ _ rfl (HOq.out.alloc _) ⟨wr.heap.size, 0, none⟩ 1 1 ([(⟨nm, side, prec⟩ : Fx)].flatMap fxCells) rfl rfl (new_fix _ ⟨nm, side, prec⟩ _ rfl) (fix_one _) (by simp only [maxLen]; omega) (by omega) (by simp; omega) ?_; rintro v' w2 hown' hgrow -)
      have HOn := Lib.hid (OwnsX.more hown' rfl)
      have HBn := Lib.hid ((HBq.out.alloc hBq _).grown hgrow (by simp; omega) (fun k hk => (HOq.out.lt k hk).1))
      have HSn := Lib.hid (show TextsAt w2 g ns from (hgrow.block _ (by have := (Array.getElem?_eq_some_iff.1 HSq.out).1; simp; omega) (HOq.out.ne HSq.out (by decide))).trans ((Below.heap_alloc _ _ _ (Array.getElem?_eq_some_iff.1 HSq.out).1).trans HSq.out))
      have hsz := HBn.out.size
      have hsz2 : B ≤ w2.heap.size := by have := hgrow.size; simp at this; omega
      clear hown' hgrow hsz
      go_roundw
      case rel => exact ⟨j + 1, by go_num, by omega, HBn.out, hsz2, HSn.out, by rw [HT2.out, ← List.append_assoc]; exact HOn.out⟩
      case measure => simp [intOf]; omega
    · have hj' : j = ns.length := by omega
      subst hj'
      have t3 : decide ((ns.length : Int) < ns.length) = false := by simp
      have HF := Lib.hid (show OwnsX wr B (.slice ua (l ++ (ns.take ns.length).map (mkF side prec)).length uc) (l ++ ns.map (mkF side prec)) by have h := HOq.out; rw [List.take_length] at h ⊢; exact h)
      clear hbq hSq hOq
      go_wp2_with fail
      go_ret
      exact ⟨_, rfl, HF.out, HBq.out, hBq⟩
end Go.Proofs.YtikkdkacflkifaaDoor

namespace Go.Proofs.YtikkdkacflkifaaDoor
open Go.RowKit

def kn0 : List ByteArray := [⟨#[46]⟩]
def kn1 : List ByteArray := [⟨#[33, 33]⟩]
def kn2 : List ByteArray := [⟨#[94]⟩, ⟨#[94, 94]⟩, ⟨#[42, 42]⟩]
def kn3 : List ByteArray := [⟨#[42]⟩, ⟨#[47]⟩, ⟨#[113, 117, 111, 116]⟩, ⟨#[114, 101, 109]⟩, ⟨#[100, 105, 118]⟩, ⟨#[109, 111, 100]⟩]
def kn4 : List ByteArray := [⟨#[43]⟩, ⟨#[45]⟩]
def kn5 : List ByteArray := [⟨#[58]⟩, ⟨#[43, 43]⟩]
def kn6 : List ByteArray := [⟨#[61, 61]⟩, ⟨#[47, 61]⟩, ⟨#[60]⟩, ⟨#[60, 61]⟩, ⟨#[62, 61]⟩, ⟨#[62]⟩, ⟨#[101, 108, 101, 109]⟩, ⟨#[110, 111, 116, 69, 108, 101, 109]⟩]
def kn7 : List ByteArray := [⟨#[38, 38]⟩]
def kn8 : List ByteArray := [⟨#[124, 124]⟩]
def kn9 : List ByteArray := [⟨#[62, 62]⟩, ⟨#[62, 62, 61]⟩]
def kn10 : List ByteArray := [⟨#[61, 60, 60]⟩]
def kn11 : List ByteArray := [⟨#[36]⟩, ⟨#[36, 33]⟩, ⟨#[115, 101, 113]⟩]
def knP0 : List Fx := []
def knP1 : List Fx := knP0 ++ kn0.map (mkF 2 9)
def knP2 : List Fx := knP1 ++ kn1.map (mkF 1 9)
def knP3 : List Fx := knP2 ++ kn2.map (mkF 2 8)
def knP4 : List Fx := knP3 ++ kn3.map (mkF 1 7)
def knP5 : List Fx := knP4 ++ kn4.map (mkF 1 6)
def knP6 : List Fx := knP5 ++ kn5.map (mkF 2 5)
def knP7 : List Fx := knP6 ++ kn6.map (mkF 3 4)
def knP8 : List Fx := knP7 ++ kn7.map (mkF 2 3)
def knP9 : List Fx := knP8 ++ kn8.map (mkF 2 2)
def knP10 : List Fx := knP9 ++ kn9.map (mkF 1 1)
def knP11 : List Fx := knP10 ++ kn10.map (mkF 2 1)
def knP12 : List Fx := knP11 ++ kn11.map (mkF 2 0)
theorem knP_len0 : knP0.length ≤ 31 := by decide +kernel
theorem knP_len1 : knP1.length ≤ 31 := by decide +kernel
theorem knP_len2 : knP2.length ≤ 31 := by decide +kernel
theorem knP_len3 : knP3.length ≤ 31 := by decide +kernel
theorem knP_len4 : knP4.length ≤ 31 := by decide +kernel
theorem knP_len5 : knP5.length ≤ 31 := by decide +kernel
theorem knP_len6 : knP6.length ≤ 31 := by decide +kernel
theorem knP_len7 : knP7.length ≤ 31 := by decide +kernel
theorem knP_len8 : knP8.length ≤ 31 := by decide +kernel
theorem knP_len9 : knP9.length ≤ 31 := by decide +kernel
theorem knP_len10 : knP10.length ≤ 31 := by decide +kernel
theorem knP_len11 : knP11.length ≤ 31 := by decide +kernel
theorem knP_len12 : knP12.length ≤ 31 := by decide +kernel
theorem fx_map_inj : ∀ a b : List Fx, a.map (fun x => (x.op.data.toList, x.side, x.prec)) = b.map (fun x => (x.op.data.toList, x.side, x.prec)) → a = b := by
  intro a
  induction a with
  | nil => intro b h; cases b with
    | nil => rfl
    | cons _ _ => simp at h
  | cons x r ih =>
    intro b h
    cases b with
    | nil => simp at h
    | cons y q =>
      simp only [List.map_cons, List.cons.injEq, Prod.mk.injEq] at h
      obtain ⟨⟨h1, h2, h3⟩, h4⟩ := h
      obtain ⟨⟨⟨a⟩⟩, b, c⟩ := x
      obtain ⟨⟨⟨d⟩⟩, e, f⟩ := y
      simp only at h1 h2 h3
      subst h1 h2 h3
      rw [ih q h4]
theorem knP_all : knP12 = knownL := by
  have h : knP12.map (fun x => (x.op.data.toList, x.side, x.prec)) = knownL.map (fun x => (x.op.data.toList, x.side, x.prec)) := by decide +kernel
  exact fx_map_inj _ _ h
theorem texts_new (w : World) (ns : List ByteArray) (n : Nat) (hn : n = w.heap.size) : TextsAt (w.alloc (.cells (ns.map Value.string).toArray 9)) n ns := by
  subst hn; exact heap_alloc_new _ _
set_option maxRecDepth 20000 in
set_option maxHeartbeats 4000000 in
theorem refKnown_any (w : World) : Calls Tryd.prog 15 #[] w (MorePost w.heap.size knownL w) := by
  rw [← knP_all]
  go_enter Tryd.func15, Tryd.ntmps15
  have C0 := Lib.hid (more_any w.heap.size knP0 (.slice none 0 0) 2 9 kn0 w.heap.size 1 w (w.alloc (.cells #[.string ⟨#[46]⟩] 9)) (by have h1 := knP_len0; have h2 : kn0.length ≤ 8 := (by decide +kernel); omega) (Nat.le_refl _) (by simp) ((Below.refl w.heap.size w).alloc (Nat.le_refl _) _) (texts_new w kn0 _ rfl) (OwnsX.alloc (show OwnsX w w.heap.size (.slice none 0 0) knP0 from ⟨rfl, .inl ⟨rfl, rfl⟩⟩) _))
  go_wp2_with fail
  refine C0.out.mono ?_
  rintro e w1 ⟨v1, rfl, hO1, hb1, hB1⟩
  have HO1 := Lib.hid (show OwnsX w1 w.heap.size v1 knP1 from hO1); have HB1 := Lib.hid hb1; clear hO1 hb1 C0
  have C1 := Lib.hid (more_any w.heap.size knP1 v1 1 9 kn1 w1.heap.size 1 w (w1.alloc (.cells #[.string ⟨#[33, 33]⟩] 9)) (by have h1 := knP_len1; have h2 : kn1.length ≤ 8 := (by decide +kernel); omega) hB1 (by simp; omega) (HB1.out.alloc hB1 _) (texts_new w1 kn1 _ rfl) (OwnsX.alloc HO1.out _))
  go_wp2_with fail
  refine C1.out.mono ?_
  rintro e w2 ⟨v2, rfl, hO2, hb2, hB2⟩
  have HO2 := Lib.hid (show OwnsX w2 w.heap.size v2 knP2 from hO2); have HB2 := Lib.hid hb2; clear hO2 hb2 C1
  have C2 := Lib.hid (more_any w.heap.size knP2 v2 2 8 kn2 w2.heap.size 3 w (w2.alloc (.cells #[.string ⟨#[94]⟩, .string ⟨#[94, 94]⟩, .string ⟨#[42, 42]⟩] 9)) (by have h1 := knP_len2; have h2 : kn2.length ≤ 8 := (by decide +kernel); omega) hB2 (by simp; omega) (HB2.out.alloc hB2 _) (texts_new w2 kn2 _ rfl) (OwnsX.alloc HO2.out _))
  go_wp2_with fail
  refine C2.out.mono ?_
  rintro e w3 ⟨v3, rfl, hO3, hb3, hB3⟩
  have HO3 := Lib.hid (show OwnsX w3 w.heap.size v3 knP3 from hO3); have HB3 := Lib.hid hb3; clear hO3 hb3 C2
  have C3 := Lib.hid (more_any w.heap.size knP3 v3 1 7 kn3 w3.heap.size 6 w (w3.alloc (.cells #[.string ⟨#[42]⟩, .string ⟨#[47]⟩, .string ⟨#[113, 117, 111, 116]⟩, .string ⟨#[114, 101, 109]⟩, .string ⟨#[100, 105, 118]⟩, .string ⟨#[109, 111, 100]⟩] 9)) (by have h1 := knP_len3; have h2 : kn3.length ≤ 8 := (by decide +kernel); omega) hB3 (by simp; omega) (HB3.out.alloc hB3 _) (texts_new w3 kn3 _ rfl) (OwnsX.alloc HO3.out _))
  go_wp2_with fail
  refine C3.out.mono ?_
  rintro e w4 ⟨v4, rfl, hO4, hb4, hB4⟩
  have HO4 := Lib.hid (show OwnsX w4 w.heap.size v4 knP4 from hO4); have HB4 := Lib.hid hb4; clear hO4 hb4 C3
  have C4 := Lib.hid (more_any w.heap.size knP4 v4 1 6 kn4 w4.heap.size 2 w (w4.alloc (.cells #[.string ⟨#[43]⟩, .string ⟨#[45]⟩] 9)) (by have h1 := knP_len4; have h2 : kn4.length ≤ 8 := (by decide +kernel); omega) hB4 (by simp; omega) (HB4.out.alloc hB4 _) (texts_new w4 kn4 _ rfl) (OwnsX.alloc HO4.out _))
  go_wp2_with fail
  refine C4.out.mono ?_
  rintro e w5 ⟨v5, rfl, hO5, hb5, hB5⟩
  have HO5 := Lib.hid (show OwnsX w5 w.heap.size v5 knP5 from hO5); have HB5 := Lib.hid hb5; clear hO5 hb5 C4
  have C5 := Lib.hid (more_any w.heap.size knP5 v5 2 5 kn5 w5.heap.size 2 w (w5.alloc (.cells #[.string ⟨#[58]⟩, .string ⟨#[43, 43]⟩] 9)) (by have h1 := knP_len5; have h2 : kn5.length ≤ 8 := (by decide +kernel); omega) hB5 (by simp; omega) (HB5.out.alloc hB5 _) (texts_new w5 kn5 _ rfl) (OwnsX.alloc HO5.out _))
  go_wp2_with fail
  refine C5.out.mono ?_
  rintro e w6 ⟨v6, rfl, hO6, hb6, hB6⟩
  have HO6 := Lib.hid (show OwnsX w6 w.heap.size v6 knP6 from hO6); have HB6 := Lib.hid hb6; clear hO6 hb6 C5
  have C6 := Lib.hid (more_any w.heap.size knP6 v6 3 4 kn6 w6.heap.size 8 w (w6.alloc (.cells #[.string ⟨#[61, 61]⟩, .string ⟨#[47, 61]⟩, .string ⟨#[60]⟩, .string ⟨#[60, 61]⟩, .string ⟨#[62, 61]⟩, .string ⟨#[62]⟩, .string ⟨#[101, 108, 101, 109]⟩, .string ⟨#[110, 111, 116, 69, 108, 101, 109]⟩] 9)) (by have h1 := knP_len6; have h2 : kn6.length ≤ 8 := (by decide +kernel); omega) hB6 (by simp; omega) (HB6.out.alloc hB6 _) (texts_new w6 kn6 _ rfl) (OwnsX.alloc HO6.out _))
  go_wp2_with fail
  refine C6.out.mono ?_
  rintro e w7 ⟨v7, rfl, hO7, hb7, hB7⟩
  have HO7 := Lib.hid (show OwnsX w7 w.heap.size v7 knP7 from hO7); have HB7 := Lib.hid hb7; clear hO7 hb7 C6
  have C7 := Lib.hid (more_any w.heap.size knP7 v7 2 3 kn7 w7.heap.size 1 w (w7.alloc (.cells #[.string ⟨#[38, 38]⟩] 9)) (by have h1 := knP_len7; have h2 : kn7.length ≤ 8 := (by decide +kernel); omega) hB7 (by simp; omega) (HB7.out.alloc hB7 _) (texts_new w7 kn7 _ rfl) (OwnsX.alloc HO7.out _))
  go_wp2_with fail
  refine C7.out.mono ?_
  rintro e w8 ⟨v8, rfl, hO8, hb8, hB8⟩
  have HO8 := Lib.hid (show OwnsX w8 w.heap.size v8 knP8 from hO8); have HB8 := Lib.hid hb8; clear hO8 hb8 C7
  have C8 := Lib.hid (more_any w.heap.size knP8 v8 2 2 kn8 w8.heap.size 1 w (w8.alloc (.cells #[.string ⟨#[124, 124]⟩] 9)) (by have h1 := knP_len8; have h2 : kn8.length ≤ 8 := (by decide +kernel); omega) hB8 (by simp; omega) (HB8.out.alloc hB8 _) (texts_new w8 kn8 _ rfl) (OwnsX.alloc HO8.out _))
  go_wp2_with fail
  refine C8.out.mono ?_
  rintro e w9 ⟨v9, rfl, hO9, hb9, hB9⟩
  have HO9 := Lib.hid (show OwnsX w9 w.heap.size v9 knP9 from hO9); have HB9 := Lib.hid hb9; clear hO9 hb9 C8
  have C9 := Lib.hid (more_any w.heap.size knP9 v9 1 1 kn9 w9.heap.size 2 w (w9.alloc (.cells #[.string ⟨#[62, 62]⟩, .string ⟨#[62, 62, 61]⟩] 9)) (by have h1 := knP_len9; have h2 : kn9.length ≤ 8 := (by decide +kernel); omega) hB9 (by simp; omega) (HB9.out.alloc hB9 _) (texts_new w9 kn9 _ rfl) (OwnsX.alloc HO9.out _))
  go_wp2_with fail
  refine C9.out.mono ?_
  rintro e w10 ⟨v10, rfl, hO10, hb10, hB10⟩
  have HO10 := Lib.hid (show OwnsX w10 w.heap.size v10 knP10 from hO10); have HB10 := Lib.hid hb10; clear hO10 hb10 C9
  have C10 := Lib.hid (more_any w.heap.size knP10 v10 2 1 kn10 w10.heap.size 1 w (w10.alloc (.cells #[.string ⟨#[61, 60, 60]⟩] 9)) (by have h1 := knP_len10; have h2 : kn10.length ≤ 8 := (by decide +kernel); omega) hB10 (by simp; omega) (HB10.out.alloc hB10 _) (texts_new w10 kn10 _ rfl) (OwnsX.alloc HO10.out _))
  go_wp2_with fail
  refine C10.out.mono ?_
  rintro e w11 ⟨v11, rfl, hO11, hb11, hB11⟩
  have HO11 := Lib.hid (show OwnsX w11 w.heap.size v11 knP11 from hO11); have HB11 := Lib.hid hb11; clear hO11 hb11 C10
  have C11 := Lib.hid (more_any w.heap.size knP11 v11 2 0 kn11 w11.heap.size 3 w (w11.alloc (.cells #[.string ⟨#[36]⟩, .string ⟨#[36, 33]⟩, .string ⟨#[115, 101, 113]⟩] 9)) (by have h1 := knP_len11; have h2 : kn11.length ≤ 8 := (by decide +kernel); omega) hB11 (by simp; omega) (HB11.out.alloc hB11 _) (texts_new w11 kn11 _ rfl) (OwnsX.alloc HO11.out _))
  go_wp2_with fail
  refine C11.out.mono ?_
  rintro e w12 ⟨v12, rfl, hO12, hb12, hB12⟩
  have HO12 := Lib.hid (show OwnsX w12 w.heap.size v12 knP12 from hO12); have HB12 := Lib.hid hb12; clear hO12 hb12 C11
  go_wp2_with fail
  go_ret
  exact ⟨_, rfl, HO12.out, HB12.out, hB12⟩
end Go.Proofs.YtikkdkacflkifaaDoor

namespace Go.Proofs.YtikkdkacflkifaaDoor
open Go.RowKit

set_option maxRecDepth 20000 in
set_option maxHeartbeats 4000000 in
theorem sameFx_any (l : List Fx) (xa ya : Option Addr) (cap cbp b o d p : Nat) (w : World) (hlen : l.length ≤ 9223372036854775807) (hxa : 0 < l.length → xa = some ⟨b, o, none⟩) (hya : 0 < l.length → ya = some ⟨d, p, none⟩) (hE : Fixes w b o l) (hF : Fixes w d p l) :
    Calls Tryd.prog 13 #[.slice xa l.length cap, .slice ya l.length cbp] w fun e w' => e = .returned (.bool true) ∧ Below w.heap.size w w' := by
  have HE := Lib.hid hE; have HF := Lib.hid hF; have HX := Lib.hid hxa; have HY := Lib.hid hya
  have t0 : ((l.length : Int) != l.length) = false := by simp
  clear hE hF hxa hya
  go_enter Tryd.func13, Tryd.ntmps13
  go_wp2_with fail
  go_loopw [5] (fun a wr => ∃ i : Nat, a = .int .i64 i ∧ i ≤ l.length ∧ Below w.heap.size w wr) (fun a _ => l.length - (intOf a).toNat)
  case atStart => exact ⟨0, rfl, by omega, Below.refl _ _⟩
  case round =>
    obtain ⟨i, rfl, hi, hb⟩ := hrel
    have HB := Lib.hid hb
    clear t0
    by_cases hin : i < l.length
    · have hx := HX.out (by omega)
      have hy := HY.out (by omega)
      subst hx hy
      have hEk := (HE.out.at_ i hin).below hb
      have hFk := (HF.out.at_ i hin).below hb
      generalize l[i] = x at *
      have c0 := hEk.c0; have c1 := hEk.c1; have c2 := hEk.c2
      have d0 := hFk.c0; have d1 := hFk.c1; have d2 := hFk.c2
      have hi0 : (0 : Int) ≤ (i : Int) := by omega
      have hi1 : (i : Int) < l.length := by omega
      clear hb hEk hFk
      go_wp2_with fail
      go_quiet (fail)
      go_wp2_with fail
      go_roundw
      case rel => exact ⟨i + 1, by go_num, by omega, below_drewN HB.out _⟩
      case measure => simp [intOf]; omega
    · have hi' : i = l.length := by omega
      subst hi'
      have t3 : decide ((l.length : Int) < l.length) = false := by simp
      clear hb
      go_wp2_with fail
      go_ret
      exact ⟨rfl, HB.out⟩
end Go.Proofs.YtikkdkacflkifaaDoor

