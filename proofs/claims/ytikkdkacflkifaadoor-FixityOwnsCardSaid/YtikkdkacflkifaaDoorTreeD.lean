/- DERIVED. The walk of Size: a closure that counts. DERIVED. The walks of Same, and of the reference's Same and SameAll. -/
import Derived.Test.YtikkdkacflkifaaDoorTreeA
import Derived.Laws.EntriesVeiled
import Derived.Lib.Strings
set_option linter.unusedSimpArgs false
set_option linter.unusedVariables false
namespace Go.Proofs.YtikkdkacflkifaaDoor
open Go.RowKit
end Go.Proofs.YtikkdkacflkifaaDoor

namespace Go.Proofs.YtikkdkacflkifaaDoor
open Go.RowKit

mutual
/-- The same, whatever their places. -/
def Tr.same : Tr → Tr → Bool
  | .mk k f t _ _ ks, u => k == u.kind && (f == u.form && (t.toList == u.text.toList && sames ks u.kids))
def sames : List Tr → List Tr → Bool
  | [], [] => true
  | k :: r, u :: s => k.same u && sames r s
  | [], _ :: _ => false
  | _ :: _, [] => false
end
theorem Tr.same_def (t u : Tr) : t.same u = (t.kind == u.kind && (t.form == u.form && (t.text.toList == u.text.toList && sames t.kids u.kids))) := by cases t; rw [Tr.same]; rfl
theorem sames_len (a : List Tr) : ∀ b : List Tr, a.length ≠ b.length → sames a b = false := by
  induction a with
  | nil => intro b h; cases b with
    | nil => exact absurd rfl h
    | cons _ _ => rfl
  | cons k r ih => intro b h; cases b with
    | nil => rfl
    | cons u s => rw [sames, ih s (by simpa using h)]; simp
theorem sames_drop (a b : List Tr) (i : Nat) (ha : i < a.length) (hb : i < b.length) : sames (a.drop i) (b.drop i) = ((a[i]).same b[i] && sames (a.drop (i + 1)) (b.drop (i + 1))) := by
  rw [List.drop_eq_getElem_cons ha, List.drop_eq_getElem_cons hb, sames]

theorem toList_inj {a b : ByteArray} (h : a.toList = b.toList) : a = b := by
  rw [Lib.toList_data, Lib.toList_data] at h
  cases a; cases b; simp only [ByteArray.mk.injEq]; exact Array.toList_inj.1 h
set_option maxHeartbeats 1000000 in
theorem equal_any (ks js : List Tr) (t u : Tr) (hks : t.kids = ks) (hjs : u.kids = js) (kv jv : Value) (w : World) (hl : Lies w t kv) (hu : Lies w u jv)
    (ih : ∀ (i : Nat) (h : i < ks.length) (x : Tr) (kv jv : Value) (w : World), Lies w ks[i] kv → Lies w x jv → Calls Tryd.prog 24 #[nodeV ks[i] kv, nodeV x jv] w fun e w' => e = .returned (.bool (ks[i].same x)) ∧ Below w.heap.size w w') :
    Calls Tryd.prog 41 #[kv, jv, .func (.func 24) #[] #[]] w fun e w' => e = .returned (.bool (sames ks js)) ∧ Below w.heap.size w w' := by
  subst hks hjs
  have hlen := hl.short
  obtain ⟨xa, cap, b, o, K, rfl, hxa, hk⟩ := hl.kidsOf
  obtain ⟨ya, cbp, b2, o2, J, rfl, hya, hj⟩ := hu.kidsOf
  have IH := Lib.hid ih
  have HK := Lib.hid hk
  have HX := Lib.hid hxa
  have HJ := Lib.hid hj
  have HY := Lib.hid hya
  clear ih hk hl hxa hj hya hu
  by_cases hle : t.kids.length = u.kids.length
  · rw [← hle]
    have HLE := Lib.hid hle
    clear hle
    go_enter Tryd.func41, Tryd.ntmps41
    go_wp2_with fail
    go_loopw [17] (fun a wr => ∃ i : Nat, a = .int .i64 i ∧ i ≤ t.kids.length ∧ Below w.heap.size w wr ∧ sames t.kids u.kids = sames (t.kids.drop i) (u.kids.drop i)) (fun a _ => t.kids.length - (intOf a).toNat)
    case atStart => exact ⟨0, rfl, by omega, Below.refl _ _, rfl⟩
    case round =>
      obtain ⟨i, rfl, hi, hb, hS⟩ := hrel
      have HB := Lib.hid hb
      have HS := Lib.hid hS
      have hst := hb.size
      clear hS
      by_cases hin : i < t.kids.length
      · have hin2 : i < u.kids.length := by rw [← HLE.out]; exact hin
        have hx := HX.out (by omega)
        have hy := HY.out (by omega)
        subst hx hy
        obtain ⟨x, c, hc', hl, hlt⟩ := kid_at HK.out hb hin
        obtain ⟨y, d, hd', hm, hmt⟩ := kid_at HJ.out hb hin2
        have c0 := hc'.c0; have c1 := hc'.c1; have c2 := hc'.c2; have c3 := hc'.c3; have c4 := hc'.c4; have c5 := hc'.c5
        have d0 := fun o => (hd'.below ((Below.refl wr.heap.size wr).alloc (Nat.le_refl _) o)).c0
        have d1 := fun o => (hd'.below ((Below.refl wr.heap.size wr).alloc (Nat.le_refl _) o)).c1
        have d2 := fun o => (hd'.below ((Below.refl wr.heap.size wr).alloc (Nat.le_refl _) o)).c2
        have d3 := fun o => (hd'.below ((Below.refl wr.heap.size wr).alloc (Nat.le_refl _) o)).c3
        have d4 := fun o => (hd'.below ((Below.refl wr.heap.size wr).alloc (Nat.le_refl _) o)).c4
        have d5 := fun o => (hd'.below ((Below.refl wr.heap.size wr).alloc (Nat.le_refl _) o)).c5
        have HL := Lib.hid hl
        have HM := Lib.hid hm
        have I1 := Lib.hid (IH.out i hin)
        have HD := Lib.hid (sames_drop t.kids u.kids i hin hin2)
        clear hc' hl hb hd' hm
        generalize hk : t.kids[i] = k at *
        generalize hj : u.kids[i] = j at *
        go_wp2_with fail
        refine (I1.out j _ _ _ (HL.out.keep (((Below.refl _ _).alloc (Nat.le_refl _) _).alloc (by simp) _)) (HM.out.keep (((Below.refl _ _).alloc (Nat.le_refl _) _).alloc (by simp) _))).mono ?_
        rintro e w1 ⟨rfl, hb1⟩
        have HB1 := Lib.hid (Below.then ((HB.out.alloc (by omega) _).alloc (by simp; omega) _) hb1)
        clear hb1
        cases hsm : k.same j
        · go_wp2_with fail
          go_ret
          refine ⟨ret_bool ?_, HB1.out⟩
          rw [HS.out, HD.out, hsm]; rfl
        · go_wp2_with fail
          go_roundw
          case rel =>
            refine ⟨i + 1, by go_num, by omega, HB1.out, ?_⟩
            rw [HS.out, HD.out, hsm, Bool.true_and]
          case measure => simp [intOf]; omega
      · have t3 : decide ((i : Int) < t.kids.length) = false := by simp; omega
        clear hb
        go_wp2_with fail
        go_ret
        refine ⟨ret_bool ?_, HB.out⟩
        rw [HS.out, List.drop_eq_nil_of_le (by omega), List.drop_eq_nil_of_le (by rw [← HLE.out]; omega)]; rfl
  · have t1 : ((t.kids.length : Int) == u.kids.length) = false := by simp; omega
    rw [sames_len _ _ hle]
    go_enter Tryd.func41, Tryd.ntmps41
    go_wp2_with fail
    go_ret
    exact ⟨rfl, Below.refl _ _⟩
set_option maxHeartbeats 1000000 in
theorem same_any (n : Nat) : ∀ (t u : Tr) (kv jv : Value) (w : World), t.size ≤ n → Lies w t kv → Lies w u jv →
    Calls Tryd.prog 24 #[nodeV t kv, nodeV u jv] w fun e w' => e = .returned (.bool (t.same u)) ∧ Below w.heap.size w w' := by
  induction n with
  | zero => intro t u kv jv w h; rw [Tr.size_def] at h; omega
  | succ n ih =>
    intro t u kv jv w hn hl hu
    have hsz := Tr.size_def t
    have hlen := sizes_len t.kids
    have eq1 := fun w hl hu => equal_any t.kids u.kids t u rfl rfl kv jv w hl hu (fun i h x kv jv w h1 h2 => ih t.kids[i] x kv jv w (by have := Tr.size_kid t i h; omega) h1 h2)
    obtain ⟨xa, cap, rfl⟩ := hl.shape
    obtain ⟨ya, cbp, rfl⟩ := hu.shape
    have EQ := Lib.hid eq1
    have HL := Lib.hid hl
    have HU := Lib.hid hu
    have hd := Tr.same_def t u
    have HD := Lib.hid hd
    clear ih eq1 hl hu hd
    unfold nodeV
    by_cases h1 : t.kind = u.kind
    · have t1 : (t.kind == u.kind) = true := by simp; exact h1
      by_cases h2 : t.form = u.form
      · have t2 : (t.form == u.form) = true := by simp; exact h2
        by_cases h3 : t.text = u.text
        · have t3 : (t.text.toList == u.text.toList) = true := by simp [h3]
          have hD := HD.out
          rw [t1, t2, t3] at hD
          simp only [Bool.true_and] at hD
          have HD2 := Lib.hid hD
          clear hD
          go_enter Tryd.func24, Tryd.ntmps24
          go_wp2_with fail
          refine (EQ.out _ (HL.out.keep (((Below.refl _ _).alloc (Nat.le_refl _) _).alloc (by simp) _)) (HU.out.keep (((Below.refl _ _).alloc (Nat.le_refl _) _).alloc (by simp) _))).mono ?_
          rintro e w1 ⟨rfl, hb1⟩
          have HB1 := Lib.hid (Below.then (((Below.refl _ _).alloc (Nat.le_refl _) _).alloc (by simp) _) hb1)
          clear hb1
          go_wp2_with fail
          go_ret
          exact ⟨ret_bool HD2.out.symm, HB1.out⟩
        · have t3 : (t.text.toList == u.text.toList) = false := by rw [beq_eq_false_iff_ne]; intro e; exact h3 (toList_inj e)
          have hD := HD.out
          rw [t1, t2, t3] at hD
          simp only [Bool.true_and, Bool.false_and] at hD
          rw [hD]
          clear hD
          go_enter Tryd.func24, Tryd.ntmps24
          go_wp2_with fail
          go_ret
          exact ⟨rfl, ((Below.refl _ _).alloc (Nat.le_refl _) _).alloc (by simp) _⟩
      · have t2 : (t.form == u.form) = false := by simp; exact h2
        have hD := HD.out
        rw [t1, t2] at hD
        simp only [Bool.true_and, Bool.false_and] at hD
        rw [hD]
        clear hD
        go_enter Tryd.func24, Tryd.ntmps24
        go_wp2_with fail
        go_ret
        exact ⟨rfl, ((Below.refl _ _).alloc (Nat.le_refl _) _).alloc (by simp) _⟩
    · have t1 : (t.kind == u.kind) = false := by simp; exact h1
      have hD := HD.out
      rw [t1] at hD
      simp only [Bool.false_and] at hD
      rw [hD]
      clear hD
      go_enter Tryd.func24, Tryd.ntmps24
      go_wp2_with fail
      go_ret
      exact ⟨rfl, ((Below.refl _ _).alloc (Nat.le_refl _) _).alloc (by simp) _⟩
end Go.Proofs.YtikkdkacflkifaaDoor

