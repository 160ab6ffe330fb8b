/- DERIVED. The walks of Depth and Size, both of them. -/
import Derived.Test.YtjdpbfjfcbjlfaaDoorTree
set_option linter.unusedSimpArgs false
set_option linter.unusedVariables false
namespace Go.Proofs.YtjdpbfjfcbjlfaaDoor
open Go.RowKit

mutual
/-- How deep a tree is. -/
def Tr.depth : Tr → Nat
  | .mk _ _ _ _ _ ks => depths ks + 1
def depths : List Tr → Nat
  | [] => 0
  | k :: r => max k.depth (depths r)
end
theorem Tr.depth_def (t : Tr) : t.depth = depths t.kids + 1 := by cases t; rw [Tr.depth]; rfl
theorem depths_append (a b : List Tr) : depths (a ++ b) = max (depths a) (depths b) := by
  induction a with
  | nil => simp [depths]
  | cons k r ih => simp only [List.cons_append, depths, ih]; omega
theorem depths_take (ks : List Tr) (i : Nat) (h : i < ks.length) : depths (ks.take (i + 1)) = max (depths (ks.take i)) (ks[i]).depth := by
  rw [List.take_add_one, List.getElem?_eq_getElem h, Option.toList_some, depths_append]; simp [depths]
theorem depth_le_size (n : Nat) : ∀ t : Tr, t.size ≤ n → t.depth ≤ t.size := by
  induction n with
  | zero => intro t h; rw [Tr.size_def] at h; omega
  | succ n ih =>
    intro t h
    rw [Tr.size_def] at h ⊢
    rw [Tr.depth_def]
    have key : ∀ ks : List Tr, sizes ks ≤ n → depths ks ≤ sizes ks := by
      intro ks
      induction ks with
      | nil => intro _; simp [depths]
      | cons k r ihr =>
        intro hs
        rw [sizes] at hs ⊢
        rw [depths]
        have := ih k (by omega)
        have := ihr (by omega)
        omega
    have := key t.kids (by omega)
    omega

set_option maxHeartbeats 1000000 in
theorem depth_any (n : Nat) : ∀ (t : Tr) (kv : Value) (w : World), t.size ≤ n → t.size ≤ 1152921504606846976 → Lies w t kv →
    Calls Tryd.prog 15 #[nodeV t kv] w fun e w' => e = .returned (.int .i64 t.depth) ∧ Below w.heap.size w w' := by
  induction n with
  | zero => intro t kv w h; rw [Tr.size_def] at h; omega
  | succ n ih =>
    intro t kv w hn hs hl
    obtain ⟨xa, cap, b, o, K, rfl, hxa, hk⟩ := hl.kidsOf
    have hsz := Tr.size_def t
    have hlen := sizes_len t.kids
    have IH := Lib.hid ih
    have HK := Lib.hid hk
    have HX := Lib.hid hxa
    clear ih hk hl hxa
    unfold nodeV
    go_enter Tryd.func15, Tryd.ntmps15
    go_wp2_with fail
    go_loopw [3, 9] (fun v a wr => ∃ i : Nat, v = .int .i64 (depths (t.kids.take i) : Nat) ∧ a = .int .i64 i ∧ i ≤ t.kids.length ∧ Below w.heap.size w wr) (fun _ a _ => t.kids.length - (intOf a).toNat)
    case atStart => exact ⟨0, rfl, rfl, by omega, (Below.refl _ _).alloc (Nat.le_refl _) _⟩
    case round =>
      obtain ⟨i, rfl, rfl, hi, hb⟩ := hrel
      have HB := Lib.hid hb
      have hst := hb.size
      by_cases hin : i < t.kids.length
      · have hx := HX.out (by omega)
        subst hx
        obtain ⟨x, c, hc', hl, hlt⟩ := kid_at HK.out hb hin
        have c0 := hc'.c0; have c1 := hc'.c1; have c2 := hc'.c2; have c3 := hc'.c3; have c4 := hc'.c4; have c5 := hc'.c5
        have HL := Lib.hid hl
        have hsk := Tr.size_kid t i hin
        have hdk := depth_le_size _ _ (Nat.le_refl t.kids[i].size)
        have hd := depths_take t.kids i hin
        clear hc' hl hb
        generalize hk : t.kids[i] = k at *
        go_wp2_with fail
        refine (IH.out k _ _ (by omega) (by omega) (HL.out.keep ((Below.refl _ _).alloc (Nat.le_refl _) _))).mono ?_
        rintro e w1 ⟨rfl, hb1⟩
        have HB1 := Lib.hid (Below.then (HB.out.alloc (by omega) _) hb1)
        clear hb1
        go_wp2_with fail
        go_roundw
        case rel => exact ⟨i + 1, by rw [hd]; congr 1; omega, by go_num, by omega, HB1.out⟩
        case measure => simp [intOf]; omega
      · have hi' : i = t.kids.length := by omega
        subst hi'
        have hdd := Tr.depth_def t
        have hds := depth_le_size _ t (Nat.le_refl t.size)
        rw [List.take_length]
        have t3 : decide ((t.kids.length : Int) < t.kids.length) = false := by simp
        clear hb
        go_wp2_with fail
        go_ret
        exact ⟨ret_int (by omega), HB.out⟩
end Go.Proofs.YtjdpbfjfcbjlfaaDoor
