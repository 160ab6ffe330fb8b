/- DERIVED. The walk of the reference's SameAll. -/
import Derived.Test.YtikkdkacflkifaaDoorTreeD
import Derived.Deep.RegionWith
set_option linter.unusedSimpArgs false
set_option linter.unusedVariables false
namespace Go.Proofs.YtikkdkacflkifaaDoor
open Go.RowKit

mutual
/-- The same, and of the same places. -/
def Tr.alike : Tr → Tr → Bool
  | .mk k f t l c ks, u => k == u.kind && (f == u.form && (t.toList == u.text.toList && (l == u.line && (c == u.col && alikes ks u.kids))))
def alikes : List Tr → List Tr → Bool
  | [], [] => true
  | k :: r, u :: s => k.alike u && alikes r s
  | [], _ :: _ => false
  | _ :: _, [] => false
end
theorem Tr.alike_def (t u : Tr) : t.alike u = (t.kind == u.kind && (t.form == u.form && (t.text.toList == u.text.toList && (t.line == u.line && (t.col == u.col && alikes t.kids u.kids))))) := by cases t; rw [Tr.alike]; rfl
theorem alikes_len (a : List Tr) : ∀ b : List Tr, a.length ≠ b.length → alikes a b = false := by
  induction a with
  | nil => intro b h; cases b with
    | nil => exact absurd rfl h
    | cons _ _ => rfl
  | cons k r ih => intro b h; cases b with
    | nil => rfl
    | cons u s => rw [alikes, ih s (by simpa using h)]; simp
theorem alikes_drop (a b : List Tr) (i : Nat) (ha : i < a.length) (hb : i < b.length) : alikes (a.drop i) (b.drop i) = ((a[i]).alike b[i] && alikes (a.drop (i + 1)) (b.drop (i + 1))) := by
  rw [List.drop_eq_getElem_cons ha, List.drop_eq_getElem_cons hb, alikes]
theorem alike_refl (n : Nat) : ∀ t : Tr, t.size ≤ n → t.alike t = true := by
  induction n with
  | zero => intro t h; rw [Tr.size_def] at h; omega
  | succ n ih =>
    intro t h
    rw [Tr.size_def] at h
    have key : ∀ ks : List Tr, sizes ks ≤ n → alikes ks ks = true := by
      intro ks
      induction ks with
      | nil => intro _; rfl
      | cons k r ihr =>
        intro hs
        rw [sizes] at hs
        rw [alikes, ih k (by omega), ihr (by omega)]; rfl
    rw [Tr.alike_def, key t.kids (by omega)]; simp
set_option maxHeartbeats 1000000 in
theorem refAll_any (n : Nat) : ∀ (t u : Tr) (kv jv : Value) (w : World), t.size ≤ n → Lies w t kv → Lies w u jv →
    Calls Tryd.prog 20 #[nodeV t kv, nodeV u jv] w fun e w' => e = .returned (.bool (t.alike u)) ∧ Below w.heap.size w w' := by
  induction n with
  | zero => intro t u kv jv w h; rw [Tr.size_def] at h; omega
  | succ n ih =>
    intro t u kv jv w hn hl hu
    have hshort := hl.short
    have hsz := Tr.size_def t
    have hlen := sizes_len t.kids
    obtain ⟨xa, cap, b, o, K, rfl, hxa, hk⟩ := hl.kidsOf
    obtain ⟨ya, cbp, b2, o2, J, rfl, hya, hj⟩ := hu.kidsOf
    have IH := Lib.hid ih
    have HK := Lib.hid hk
    have HX := Lib.hid hxa
    have HJ := Lib.hid hj
    have HY := Lib.hid hya
    have HD := Lib.hid (Tr.alike_def t u)
    clear ih hk hl hxa hj hya hu
    unfold nodeV
    by_cases h1 : t.kind = u.kind
    · have t1 : (t.kind == u.kind) = true := by simp; exact h1
      by_cases h2 : t.form = u.form
      · have t2 : (t.form == u.form) = true := by simp; exact h2
        by_cases h3 : t.text = u.text
        · have t3 : (t.text.toList == u.text.toList) = true := by simp [h3]
          by_cases h5 : t.line = u.line
          · have t5 : (t.line == u.line) = true := by simp; exact h5
            by_cases h6 : t.col = u.col
            · have t6 : (t.col == u.col) = true := by simp; exact h6
              by_cases hle : t.kids.length = u.kids.length
              · have hD := HD.out
                rw [t1, t2, t3, t5, t6] at hD
                simp only [Bool.true_and] at hD
                have HD2 := Lib.hid hD
                rw [← hle]
                have HLE := Lib.hid hle
                have n1 : (t.kind != u.kind) = false := by simp; exact h1
                have n2 : (t.form != u.form) = false := by simp; exact h2
                have n3 : (t.line != u.line) = false := by simp; exact h5
                have n4 : (t.col != u.col) = false := by simp; exact h6
                clear hD hle h1 h2 h3 h5 h6 t1 t2 t5 t6
                go_enter Tryd.func20, Tryd.ntmps20
                go_wp2_with fail
                go_loopw [5] (fun a wr => ∃ i : Nat, a = .int .i64 i ∧ i ≤ t.kids.length ∧ Below w.heap.size w wr ∧ Boxed wr w.heap.size t (.slice xa t.kids.length cap) ∧ Boxed wr (w.heap.size + 1) u (.slice ya t.kids.length cbp) ∧ alikes t.kids u.kids = alikes (t.kids.drop i) (u.kids.drop i)) (fun a _ => t.kids.length - (intOf a).toNat)
                case atStart => exact ⟨0, rfl, by omega, ((Below.refl _ _).alloc (Nat.le_refl _) _).alloc (by simp) _, (boxed_new _ _ _ _ rfl).alloc _, boxed_new _ _ _ _ (by simp), rfl⟩
                case round =>
                  obtain ⟨i, rfl, hi, hb, hB1, hB2, hS⟩ := hrel
                  have HB := Lib.hid hb
                  have HS := Lib.hid hS
                  have X1 := Lib.hid hB1
                  have X2 := Lib.hid hB2
                  have b5 := hB1.c5
                  have b6 := hB2.c5
                  have hst := hb.size
                  clear hS hB1 hB2
                  by_cases hin : i < t.kids.length
                  · have hin2 : i < u.kids.length := by rw [← HLE.out]; exact hin
                    have hx := HX.out (by omega)
                    have hy := HY.out (by omega)
                    subst hx hy
                    obtain ⟨x, c, hc', hl, hlt⟩ := kid_at HK.out hb hin
                    obtain ⟨y, d, hd', hm, hmt⟩ := kid_at HJ.out hb hin2
                    have c0 := hc'.c0; have c1 := hc'.c1; have c2 := hc'.c2; have c3 := hc'.c3; have c4 := hc'.c4; have c5 := hc'.c5
                    have d0 := hd'.c0; have d1 := hd'.c1; have d2 := hd'.c2; have d3 := hd'.c3; have d4 := hd'.c4; have d5 := hd'.c5
                    have HL := Lib.hid hl
                    have HM := Lib.hid hm
                    have HD3 := Lib.hid (alikes_drop t.kids u.kids i hin hin2)
                    have hsk := Tr.size_kid t i hin
                    clear hc' hl hb hd' hm
                    generalize hk : t.kids[i] = k at *
                    generalize hj : u.kids[i] = j at *
                    have I1 := Lib.hid fun kv jv w => IH.out k j kv jv w (by omega)
                    clear hk hj
                    go_wp2_with fail
                    go_region_with (go_at_call 20; refine (I1.out _ _ _ (HL.out.keep (Below.refl _ _).drew) (HM.out.keep (Below.refl _ _).drew)).mono ?_; rintro e w1 ⟨rfl, hb1⟩; have HB1 := Lib.hid (Below.then HB.out.drew hb1); have X3 := Lib.hid (X1.out.below ((Below.refl _ _).drew.trans hb1)); have X4 := Lib.hid (X2.out.below ((Below.refl _ _).drew.trans hb1)); clear hb1)
                    all_goals
                      trace "GOAL"
                      cases hsm : k.alike j
                      · go_wp2_with fail
                        go_ret
                        refine ⟨ret_bool ?_, HB1.out⟩
                        rw [HD2.out, HS.out, HD3.out, hsm]; rfl
                      · go_wp2_with fail
                        go_roundw
                        case rel =>
                          refine ⟨i + 1, by go_num, by omega, HB1.out, X3.out, X4.out, ?_⟩
                          rw [HS.out, HD3.out, hsm, Bool.true_and]
                        case measure => simp [intOf]; omega
                  · have t3 : decide ((i : Int) < t.kids.length) = false := by simp; omega
                    clear hb
                    go_wp2_with fail
                    go_ret
                    refine ⟨ret_bool ?_, HB.out⟩
                    rw [HD2.out, HS.out, List.drop_eq_nil_of_le (by omega), List.drop_eq_nil_of_le (by rw [← HLE.out]; omega)]; rfl
              · have t4 : ((t.kids.length : Int) == u.kids.length) = false := by simp; omega
                have hD := HD.out
                rw [t1, t2, t3, t5, t6, alikes_len _ _ hle] at hD
                simp only [Bool.true_and, Bool.false_and] at hD
                rw [hD]
                clear hD
                go_enter Tryd.func20, Tryd.ntmps20
                go_wp2_with fail
                go_ret
                exact ⟨rfl, ((Below.refl _ _).alloc (Nat.le_refl _) _).alloc (by simp) _⟩
            · have t6 : (t.col == u.col) = false := by simp; exact h6
              have hD := HD.out
              rw [t1, t2, t3, t5, t6] at hD
              simp only [Bool.true_and, Bool.false_and] at hD
              rw [hD]
              clear hD
              go_enter Tryd.func20, Tryd.ntmps20
              go_wp2_with fail
              go_ret
              exact ⟨rfl, ((Below.refl _ _).alloc (Nat.le_refl _) _).alloc (by simp) _⟩
          · have t5 : (t.line == u.line) = false := by simp; exact h5
            have hD := HD.out
            rw [t1, t2, t3, t5] at hD
            simp only [Bool.true_and, Bool.false_and] at hD
            rw [hD]
            clear hD
            go_enter Tryd.func20, Tryd.ntmps20
            go_wp2_with fail
            go_ret
            exact ⟨rfl, ((Below.refl _ _).alloc (Nat.le_refl _) _).alloc (by simp) _⟩
        · have t3 : (t.text.toList == u.text.toList) = false := by rw [beq_eq_false_iff_ne]; intro e; exact h3 (toList_inj e)
          have hD := HD.out
          rw [t1, t2, t3] at hD
          simp only [Bool.true_and, Bool.false_and] at hD
          rw [hD]
          clear hD
          go_enter Tryd.func20, Tryd.ntmps20
          go_wp2_with fail
          go_ret
          exact ⟨rfl, ((Below.refl _ _).alloc (Nat.le_refl _) _).alloc (by simp) _⟩
      · have t2 : (t.form == u.form) = false := by simp; exact h2
        have hD := HD.out
        rw [t1, t2] at hD
        simp only [Bool.true_and, Bool.false_and] at hD
        rw [hD]
        clear hD
        go_enter Tryd.func20, Tryd.ntmps20
        go_wp2_with fail
        go_ret
        exact ⟨rfl, ((Below.refl _ _).alloc (Nat.le_refl _) _).alloc (by simp) _⟩
    · have t1 : (t.kind == u.kind) = false := by simp; exact h1
      have hD := HD.out
      rw [t1] at hD
      simp only [Bool.true_and, Bool.false_and] at hD
      rw [hD]
      clear hD
      go_enter Tryd.func20, Tryd.ntmps20
      go_wp2_with fail
      go_ret
      exact ⟨rfl, ((Below.refl _ _).alloc (Nat.le_refl _) _).alloc (by simp) _⟩
end Go.Proofs.YtikkdkacflkifaaDoor
