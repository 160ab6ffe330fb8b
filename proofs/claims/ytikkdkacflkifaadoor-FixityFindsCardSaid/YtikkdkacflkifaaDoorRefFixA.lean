/- DERIVED. The walks of more and Known, the document's. -/
import Derived.Test.YtikkdkacflkifaaDoorFixA
set_option linter.unusedSimpArgs false
set_option linter.unusedVariables false
namespace Go.Proofs.YtikkdkacflkifaaDoor
open Go.RowKit

def mkF (side prec : Int) (n : ByteArray) : Fx := ⟨n, side, prec⟩
theorem mkF_take (side prec : Int) (ns : List ByteArray) (j : Nat) (hj : j < ns.length) : (ns.take (j + 1)).map (mkF side prec) = (ns.take j).map (mkF side prec) ++ [⟨ns[j], side, prec⟩] := by
  rw [List.take_succ_eq_append_getElem hj, List.map_append]; rfl
/-- A block of texts. -/
def TextsAt (w : World) (g : Nat) (ns : List ByteArray) : Prop := w.heap[g]? = some (.cells (ns.map Value.string).toArray 9 (0, 0))
theorem TextsAt.get {w : World} {g : Nat} {ns : List ByteArray} (h : TextsAt w g ns) (j : Nat) (hj : j < ns.length) : w.cell? ⟨g, j, none⟩ = some (.string ns[j]) := by
  rw [cell_of_row' _ _ _ _ _ _ h]; simp [hj]
def MorePost (B : Nat) (l : List Fx) (w0 : World) (e : Ending) (w' : World) : Prop := ∃ v, e = .returned v ∧ OwnsX w' B v l ∧ Below B w0 w' ∧ B ≤ w'.heap.size
set_option maxRecDepth 20000 in
set_option maxHeartbeats 4000000 in
theorem more_any (B : Nat) (l : List Fx) (v : Value) (side prec : Int) (ns : List ByteArray) (g : Nat) (cap : Nat) (w0 w : World) (hl : l.length + ns.length ≤ 1000) (hg : B ≤ g) (hB : B ≤ w.heap.size) (hb : Below B w0 w) (hS : TextsAt w g ns) (hO : OwnsX w B v l) :
    Calls Tryd.prog 31 #[v, .int .i64 side, .int .i64 prec, .slice (some ⟨g, 0, none⟩) ns.length cap] w (MorePost B (l ++ ns.map (mkF side prec)) w0) := by
  obtain ⟨i0, z0, hi0, hz0, hz1, hz2, hz3⟩ := fix_info
  obtain ⟨va, vc, rfl⟩ := hO.shape
  have HS := Lib.hid hS; have HO := Lib.hid hO; have HB := Lib.hid hb
  clear hS hO hb
  go_enter Tryd.func31, Tryd.ntmps31
  go_wp2_with fail
  go_loopw [0, 9] (fun v a wr => ∃ j : Nat, a = .int .i64 j ∧ j ≤ ns.length ∧ Below B w0 wr ∧ B ≤ wr.heap.size ∧ TextsAt wr g ns ∧ OwnsX wr B v (l ++ (ns.take j).map (mkF side prec))) (fun _ a _ => ns.length - (intOf a).toNat)
  case atStart => exact ⟨0, rfl, by omega, HB.out, hB, HS.out, by simpa using HO.out⟩
  case round =>
    obtain ⟨j, rfl, hj, hbq, hBq, hSq, hOq⟩ := hrel
    have HBq := Lib.hid hbq; have HSq := Lib.hid hSq; have HOq := Lib.hid hOq
    obtain ⟨ua, uc, rfl⟩ := hOq.shape
    have hlen : (l ++ (ns.take j).map (mkF side prec)).length ≤ 1000 := by
      rw [List.length_append, List.length_map, List.length_take]; omega
    by_cases hjn : j < ns.length
    · have s0 := hSq.get j hjn
      have HT2 := Lib.hid (mkF_take side prec ns j hjn)
      clear hbq hSq hOq
      obtain ⟨nm, hnm⟩ : ∃ nm, ns[j] = nm := ⟨_, rfl⟩
      rw [hnm] at s0 HT2
      clear hnm
      go_wp2_with (at_builtin; refine wpList_append_own _ rfl _ _ 22 rfl B 25 i0 z0 3 32 Tryd.underlying22 hi0 hz0 hz1 hz2 hz3 (by decide) _ _ _ rfl (HOq.out.alloc _) ⟨wr.heap.size, 0, none⟩ 1 1 ([(⟨nm, side, prec⟩ : Fx)].flatMap fxCells) rfl rfl (new_fix _ ⟨nm, side, prec⟩ _ rfl) (fix_one _) (by simp only [maxLen]; omega) (by omega) (by simp; omega) ?_; rintro v' w2 hown' hgrow -)
      have HOn := Lib.hid (OwnsX.more hown' rfl)
      have HBn := Lib.hid ((HBq.out.alloc hBq _).grown hgrow (by simp; omega) (fun k hk => (HOq.out.lt k hk).1))
      have HSn := Lib.hid (show TextsAt w2 g ns from (hgrow.block _ (by have := (Array.getElem?_eq_some_iff.1 HSq.out).1; simp; omega) (HOq.out.ne HSq.out (by decide))).trans ((Below.heap_alloc _ _ _ (Array.getElem?_eq_some_iff.1 HSq.out).1).trans HSq.out))
      have hsz := HBn.out.size
      have hsz2 : B ≤ w2.heap.size := by have := hgrow.size; simp at this; omega
      clear hown' hgrow hsz
      go_roundw
      case rel => exact ⟨j + 1, by go_num, by omega, HBn.out, hsz2, HSn.out, by rw [HT2.out, ← List.append_assoc]; exact HOn.out⟩
      case measure => simp [intOf]; omega
    · have hj' : j = ns.length := by omega
      subst hj'
      have t3 : decide ((ns.length : Int) < ns.length) = false := by simp
      have HF := Lib.hid (show OwnsX wr B (.slice ua (l ++ (ns.take ns.length).map (mkF side prec)).length uc) (l ++ ns.map (mkF side prec)) by have h := HOq.out; rw [List.take_length] at h ⊢; exact h)
      clear hbq hSq hOq
      go_wp2_with fail
      go_ret
      exact ⟨_, rfl, HF.out, HBq.out, hBq⟩
end Go.Proofs.YtikkdkacflkifaaDoor
