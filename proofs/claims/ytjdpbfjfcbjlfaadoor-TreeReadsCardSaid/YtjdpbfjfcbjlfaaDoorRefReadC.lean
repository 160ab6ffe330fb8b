/- DERIVED. The walk of the reference's read. -/
import Derived.Test.YtjdpbfjfcbjlfaaDoorRefReadB
import Derived.Test.YtjdpbfjfcbjlfaaDoorReadE
set_option linter.unusedSimpArgs false
set_option linter.unusedVariables false
namespace Go.Proofs.YtjdpbfjfcbjlfaaDoor
open Go.RowKit

def errEnd (x : Int) : Int := if x = 2 then -2 else -1
/-- What the reference's read leaves behind. -/
def RNodePost (i : Nat) (s : ByteArray) (R : Except Int (Tr × List UInt8)) (w : World) (e : Ending) (w' : World) : Prop :=
  Below w.heap.size w w' ∧
    match R with
    | .ok (t, q) => ∃ (kv : Value) (j : Nat), e = .returned (.tuple #[nodeV t kv, .int .i64 (j : Int)]) ∧ i ≤ j ∧ j ≤ s.size ∧ q = s.data.toList.drop j ∧ LiesP (w.heap.size ≤ ·) w' t kv
    | .error x => ∃ (t : Tr) (a : Option Addr) (n c : Nat), e = .returned (.tuple #[nodeV t (.slice a n c), .int .i64 (errEnd x)]) ∧ (x = 2 ∨ x = 100)
theorem rnode_err {i : Nat} {s : ByteArray} {R : Except Int (Tr × List UInt8)} {w w1 : World} {x y : Int} (hR : R = .error x) (hx : x = 2 ∨ x = 100) (hB : Below w.heap.size w w1) (t : Tr) (a : Option Addr) (n c : Nat) (hy : y = errEnd x) :
    RNodePost i s R w (.returned (.tuple #[nodeV t (.slice a n c), .int .i64 y])) (set6 w1 w.heap.size t (.slice a n c)) := by
  subst hR hy
  exact ⟨set6_below hB _ (Nat.le_refl _) _ _, t, a, n, c, rfl, hx⟩
theorem rnode_ok {i j : Nat} {s : ByteArray} {R : Except Int (Tr × List UInt8)} {w w1 : World} {t : Tr} {q : List UInt8} {kv : Value} {y : Int} (hR : R = .ok (t, q)) (hB : Below w.heap.size w w1) (hij : i ≤ j) (hj : j ≤ s.size) (hy : y = j)
    (hq : q = s.data.toList.drop j) (hl : LiesP (fun k => w.heap.size ≤ k ∧ k ≠ w.heap.size) w1 t kv) :
    RNodePost i s R w (.returned (.tuple #[nodeV t kv, .int .i64 y])) (set6 w1 w.heap.size t kv) := by
  subst hR hy
  refine ⟨set6_below hB _ (Nat.le_refl _) _ _, kv, j, rfl, hij, hj, hq, ?_⟩
  exact (hl.keep (fun k _ hp => set6_other w1 w.heap.size t kv k hp.2)).mono (fun k _ hp => hp.1)
theorem stands_facts {s : ByteArray} {k : Nat} {c : UInt8} (h : stands s k c = true) : ∃ hk : k < s.size, s[k] = c := by
  have hk := stands_in h
  refine ⟨hk, ?_⟩
  rw [stands_at hk, beq_iff_eq] at h; exact h
theorem stands_not {s : ByteArray} {k : Nat} {c : UInt8} (h : stands s k c = false) : s.size ≤ k ∨ ∃ hk : k < s.size, s[k].toNat ≠ c.toNat := by
  by_cases hk : k < s.size
  · rw [stands_at hk, beq_eq_false_iff_ne] at h
    exact .inr ⟨hk, fun e => h (UInt8.toNat_inj.1 e)⟩
  · exact .inl (by omega)
theorem textGo_len (n : Nat) : ∀ (l : List UInt8), l.length ≤ n → ∀ x k, textGo l = some (x, k) → k ≤ l.length := by
  induction n with
  | zero =>
    intro l h x k e
    have : l = [] := List.eq_nil_of_length_eq_zero (by omega)
    subst this
    simp [textGo] at e
    omega
  | succ n ih =>
    intro l h x k e
    match l, h with
    | [], _ => simp [textGo] at e; omega
    | c :: r, h =>
      simp only [List.length_cons] at h ⊢
      by_cases h1 : c = 34
      · subst h1; rw [textGo_quote] at e; simp at e; omega
      · by_cases h2 : c = 92
        · subst h2
          match r, h with
          | [], _ => rw [textGo_short _ (by simp)] at e; simp at e
          | [a], _ => rw [textGo_short _ (by simp)] at e; simp at e
          | a :: b :: q, h =>
            rw [textGo_esc] at e
            split at e
            · simp at e
            · obtain ⟨⟨x', k'⟩, e1, e2⟩ := Option.map_eq_some_iff.1 e
              simp only [Prod.mk.injEq] at e2
              simp only [List.length_cons] at h ⊢
              have := ih q (by omega) x' k' e1
              omega
        · rw [textGo_chr _ _ h1 h2] at e
          split at e
          · obtain ⟨⟨x', k'⟩, e1, e2⟩ := Option.map_eq_some_iff.1 e
            simp only [Prod.mk.injEq] at e2
            have := ih r (by omega) x' k' e1
            omega
          · simp at e
theorem textL_len (l x : List UInt8) (k : Nat) (h : textL l = some (x, k)) : k ≤ l.length := by
  unfold textL at h
  split at h
  · obtain ⟨⟨x', k'⟩, e1, e2⟩ := Option.bind_eq_some_iff.1 h
    have h2 := textGo_len _ _ (Nat.le_refl _) _ _ e1
    simp only at e2
    split at e2
    · rename_i h3
      simp only [Option.some.injEq, Prod.mk.injEq] at e2
      have := (List.getElem?_eq_some_iff.1 h3).1
      rw [List.length_drop] at this
      omega
    · simp at e2
  · simp at h
theorem stands_head {s : ByteArray} {k : Nat} {c : UInt8} : ((s.data.toList.drop k)[0]? = some c) ↔ stands s k c = true := by
  unfold stands; rw [List.getElem?_drop, Nat.add_zero, beq_iff_eq]

set_option maxRecDepth 20000 in
set_option maxHeartbeats 4000000 in
theorem refRead1_any (d : Nat) : ∀ (i : Nat) (s : ByteArray) (y x : Int) (w : World), y = i → x = 1001 - (d : Int) → d ≤ 1000 → s.size ≤ 16777216 → i ≤ s.size →
    Calls Tryd.prog 34 #[.string s, .int .i64 y, .int .i64 x] w fun e w' => RNodePost i s (nodeGo d (s.data.toList.drop i)) w e w' := by
  induction d with
  | zero =>
    intro i s y x w hy hx _ hs hi
    subst hx hy
    go_enter Tryd.func34, Tryd.ntmps34
    go_wp2_with fail
    refine bodyPost_ret (results_ct_row rfl _ _ w.heap.size 24 _ (0, 0) _ rfl (heap_alloc_new _ _) Tryd.underlying24 rfl (by kernel_rfl)) rfl ?_
    exact ⟨(Below.refl _ _).alloc (Nat.le_refl _) _, zeroT, none, 0, 0, rfl, .inl rfl⟩
  | succ d ih =>
    intro i s y x w hy hx hd hs hi
    subst hy
    have hx0 : decide ((1000 : Int) < x) = false := by simp; omega
    have HX1 := Lib.hid (show x + 1 = 1001 - (d : Int) by omega)
    have hxb : -1000 ≤ x ∧ x ≤ 1000 := by omega
    have IH := Lib.hid fun i s y x w h0 h1 => ih i s y x w h0 h1 (by omega)
    obtain ⟨R, hR⟩ : ∃ R, nodeGo (d + 1) (s.data.toList.drop i) = R := ⟨_, rfl⟩
    rw [hR]
    rw [nodeGo] at hR
    clear ih hx hd
    by_cases hq : stands s i 40 = true
    · rw [if_pos (stands_head.2 hq)] at hR
      obtain ⟨hii, hq4⟩ := stands_facts hq
      have q1 : decide ((s.size : Int) ≤ i) = false := by simp; omega
      have q1n : decide (s.size ≤ i) = false := by simp; omega
      have q2 : ((s[i].toNat : Int) != 40) = false := by rw [hq4]; rfl
      have hd1 : (s.data.toList.drop i).drop 1 = s.data.toList.drop (i + 1) := by rw [List.drop_drop]
      simp only [hd1] at hR
      have hnb := numGo_bd 3 (s.data.toList.drop (i + 1)) 0
      rw [List.length_drop, ← Lib.size_eq] at hnb
      have N1 := fun w => refNumber_any s (i + 1) ((i : Int) + 1) (by omega) w (by omega) (by omega)
      by_cases hno : numOk (s.data.toList.drop (i + 1)) 54 = false ∨ (numGo 3 (s.data.toList.drop (i + 1)) 0).1 ≤ 1
      · rw [if_pos hno] at hR
        have HRN := Lib.hid hR.symm
        obtain ⟨Z, hZ⟩ : ∃ Z, numV (s.data.toList.drop (i + 1)) = Z := ⟨_, rfl⟩
        have hz : Z < 0 ∨ 54 ≤ Z ∨ Z = 0 ∨ Z = 1 := by
          rcases hno with h | h
          · have := numV_no _ _ h; omega
          · cases hok : numOk (s.data.toList.drop (i + 1)) 54 with
            | false => have := numV_no _ _ hok; omega
            | true => have := (numV_ok _ _ hok).1; omega
        rw [hZ] at N1
        generalize ((i + 1 + (numGo 3 (s.data.toList.drop (i + 1)) 0).2 : Nat) : Int) = p at *
        have N1 := Lib.hid N1
        clear hR hZ hno hq hq4 hd1 hnb
        have hcase : (decide (Z < 1) = true) ∨ (decide (Z < 1) = false ∧ decide ((54 : Int) ≤ Z) = true) ∨ (decide (Z < 1) = false ∧ decide ((54 : Int) ≤ Z) = false ∧ (Z == 1) = true) := by
          simp only [decide_eq_true_eq, decide_eq_false_iff_not, beq_iff_eq]; omega
        clear hz
        rcases hcase with r1 | ⟨r1, r2⟩ | ⟨r1, r2, r3⟩
        all_goals
          go_enter Tryd.func34, Tryd.ntmps34
          go_wp2_with fail
          refine (N1.out _).mono ?_
          rintro e w2 ⟨rfl, rfl⟩
          go_wp2_with fail
          refine bodyPost_ret (results_ct_row rfl _ _ w.heap.size 24 _ (0, 0) _ rfl (heap_alloc_new _ _) Tryd.underlying24 rfl (by kernel_rfl)) rfl ?_
          rw [HRN.out]
          exact ⟨(Below.refl _ _).alloc (Nat.le_refl _) _, zeroT, none, 0, 0, rfl, .inr rfl⟩
      · rw [if_neg hno] at hR
        have hok : numOk (s.data.toList.drop (i + 1)) 54 = true := by
          cases hok : numOk (s.data.toList.drop (i + 1)) 54 with
          | true => rfl
          | false => exact absurd (.inl hok) hno
        have hv2 : ¬ (numGo 3 (s.data.toList.drop (i + 1)) 0).1 ≤ 1 := fun h => hno (.inr h)
        obtain ⟨hnv, hv54⟩ := numV_ok _ _ hok
        rw [hnv] at N1
        obtain ⟨V, hV⟩ : ∃ V, (numGo 3 (s.data.toList.drop (i + 1)) 0).1 = V := ⟨_, rfl⟩
        obtain ⟨N, hN⟩ : ∃ N, (numGo 3 (s.data.toList.drop (i + 1)) 0).2 = N := ⟨_, rfl⟩
        obtain ⟨p, hp⟩ : ∃ p, i + 1 + N = p := ⟨_, rfl⟩
        rw [hV] at hv2 hv54 hR N1
        rw [hN] at hnb hR N1
        simp only [List.drop_drop] at hR
        rw [hp] at hR N1
        have hpb : i + 1 ≤ p ∧ p ≤ s.size := by omega
        have N1 := Lib.hid N1
        have r1 : decide ((V : Int) < 1) = false := by simp; omega
        have r2 : decide ((54 : Int) ≤ (V : Int)) = false := by simp; omega
        have r3 : ((V : Int) == 1) = false := by rw [beq_eq_false_iff_ne]; omega
        clear hno hok hnv hV hN hp hd1 hq hq4 hnb
        by_cases hb33 : stands s p 33 = true
        · simp only [stands_head, if_pos hb33] at hR
          obtain ⟨hlt33, h33⟩ := stands_facts hb33
          have j1 : decide ((p : Int) < s.size) = true := by simp; omega
          have j1n : decide (p < s.size) = true := by simp; omega
          have j2 : ((s[p].toNat : Int) == 33) = true := by rw [h33]; rfl
          clear hb33 h33
          obtain ⟨K0, hK0⟩ : ∃ K0, kidsGo (nodeGo d) (s.data.toList.drop (p + 1)).length (s.data.toList.drop (p + 1)) = K0 := ⟨_, rfl⟩
          rw [hK0] at hR
          have HRN := Lib.hid hR
          have HK0' := Lib.hid hK0
          clear hR hK0
          go_enter Tryd.func34, Tryd.ntmps34
          go_wp2_with fail
          refine (N1.out _).mono ?_
          rintro e w2 ⟨rfl, rfl⟩
          have HA0 := Lib.hid ((rowN_new w zeroT (.slice none 0 0)).alloc (.cells #[.int .i64 V, .int .i64 1, .string ⟨#[]⟩, .int .i64 0, .int .i64 0, .slice none 0 0] 24))
          have hn0' := rowN_new (w.alloc (.cells #[.int .i64 0, .int .i64 0, .string ⟨#[]⟩, .int .i64 0, .int .i64 0, .slice none 0 0] 24)) (.mk V 1 ⟨#[]⟩ 0 0 []) (.slice none 0 0)
          rw [show (w.alloc (.cells #[.int .i64 0, .int .i64 0, .string ⟨#[]⟩, .int .i64 0, .int .i64 0, .slice none 0 0] 24)).heap.size = w.heap.size + 1 from by simp] at hn0'
          have HN0 := Lib.hid hn0'
          have HB0 := Lib.hid (((Below.refl w.heap.size w).alloc (Nat.le_refl _) (.cells #[.int .i64 0, .int .i64 0, .string ⟨#[]⟩, .int .i64 0, .int .i64 0, .slice none 0 0] 24)).alloc (by simp) (.cells #[.int .i64 V, .int .i64 1, .string ⟨#[]⟩, .int .i64 0, .int .i64 0, .slice none 0 0] 24))
          clear hn0'
          go_wp2_with fail
          go_loopw [13] (fun a wr => ∃ (j : Nat) (ts : List (Tr × Value)) (v : Value) (n : Nat), a = .int .i64 j ∧ (p + 1) ≤ j ∧ j ≤ s.size ∧ ts.length ≤ j ∧ Below w.heap.size w wr ∧ RowN wr w.heap.size zeroT (.slice none 0 0) ∧ RowN wr (w.heap.size + 1) (.mk V 1 ⟨#[]⟩ 0 0 []) v ∧ OwnsN wr (w.heap.size + 2) (w.heap.size + 2) v ts ∧ s.size - j ≤ n ∧ KInv K0 (nodeGo d) n (s.data.toList.drop j) ts) (fun a _ => s.size - (intOf a).toNat)
          case atStart =>
            refine ⟨(p + 1), [], .slice none 0 0, (s.data.toList.drop ((p + 1))).length, by first | rfl | go_num, Nat.le_refl _, by omega, by simp, HB0.out, HA0.out, HN0.out, ⟨⟨by simp, .inl ⟨rfl, rfl⟩⟩, fun x hx => by simp at hx⟩, by rw [List.length_drop, ← Lib.size_eq]; omega, ?_⟩
            unfold KInv
            rw [HK0'.out]
            cases K0 <;> simp
          case round =>
            obtain ⟨j, ts, v, n, rfl, hpj, hjs, htl, hbr, hNr, hNn, hO, hn0, hK⟩ := hrel
            have HBR := Lib.hid hbr
            have HNR := Lib.hid hNr
            have HNN := Lib.hid hNn
            have HO := Lib.hid hO
            have HKI := Lib.hid hK
            have hnlt2 := hNn.lt
            have hst5 := hbr.size
            obtain ⟨va, vc, rfl⟩ := hO.row.shapeN
            clear hbr hNr hNn hO hK
            by_cases hb32 : stands s j 32 = true
            · obtain ⟨hlt32, h32⟩ := stands_facts hb32
              have HL32 := Lib.hid (stands_head.2 hb32)
              have k1 : decide ((j : Int) < s.size) = true := by simp; omega
              have k2 : ((s[j].toNat : Int) == 32) = true := by rw [h32]; rfl
              clear hb32 h32
              go_wp2_with fail
              refine (IH.out (j + 1) s ((j : Int) + 1) (x + 1) _ (by omega) HX1.out hs (by omega)).mono ?_
              intro e w6 hpost
              obtain ⟨hb6, hres⟩ := hpost
              have HB6 := Lib.hid (Below.then HBR.out hb6)
              have HNR6 := Lib.hid (HNR.out.keep (hb6.block _ (by omega)))
              have HNN6 := Lib.hid (HNN.out.keep (hb6.block _ (by omega)))
              have HO6 := Lib.hid (HO.out.keep (Nat.le_refl _) (fun k hk _ => hb6.block k hk))
              have hst7 := hb6.size
              have hnlt6 := HNN6.out.lt
              have hdd : (s.data.toList.drop j).drop 1 = s.data.toList.drop (j + 1) := by rw [List.drop_drop]
              clear hb6
              cases hng : nodeGo d (s.data.toList.drop (j + 1)) with
              | error er =>
                rw [hng] at hres
                obtain ⟨et, ea, en, ec, rfl, her⟩ := hres
                have HK0 := Lib.hid (HKI.out.err (by omega) HL32.out (by rw [hdd]; exact hng))
                have HRE := Lib.hid (show R = .error er by rw [← HRN.out, HK0.out])
                have HER := Lib.hid her
                have hen : errEnd er < 0 := by unfold errEnd; split <;> omega
                obtain ⟨ev, hev⟩ : ∃ ev, errEnd er = ev := ⟨_, rfl⟩
                rw [hev] at hen ⊢
                have HEV := Lib.hid hev
                have e0 := fun o => (HNR6.out.alloc o).cells.1
                have e1 := fun o => (HNR6.out.alloc o).cells.2.1
                have e2 := fun o => (HNR6.out.alloc o).cells.2.2.1
                have e3 := fun o => (HNR6.out.alloc o).cells.2.2.2.1
                have e4 := fun o => (HNR6.out.alloc o).cells.2.2.2.2.1
                have e5 := fun o => (HNR6.out.alloc o).cells.2.2.2.2.2
                have z := fun o => (HNR6.out.alloc o).frozen
                clear hng hdd hev her
                unfold nodeV
                go_wp2_with fail
                refine bodyPost_ret (results_ct_row rfl _ _ w.heap.size 24 _ (0, 0) _ rfl ((HNR6.out.alloc _).set zeroT (.slice none 0 0)) Tryd.underlying24 rfl (by kernel_rfl)) rfl ?_
                exact rnode_err HRE.out HER.out (HB6.out.alloc (by omega) _) zeroT none 0 0 HEV.out.symm
              | ok tq =>
                obtain ⟨t, q⟩ := tq
                rw [hng] at hres
                obtain ⟨kv, j2, rfl, hjj, hj2, hq2, hl2⟩ := hres
                have HKI2 := Lib.hid (HKI.out.next (by omega) HL32.out (by rw [hdd]; exact hng) kv)
                obtain ⟨kx, kc, rfl⟩ := hl2.shape
                have HL2 := Lib.hid hl2
                have HQ2 := Lib.hid hq2
                have k3 : decide ((j2 : Int) < 0) = false := by simp
                clear hng hdd hl2 hq2
                have n5 := fun o => (HNN6.out.alloc o).cells.2.2.2.2.2
                obtain ⟨i0, z0, hi0, hz0, hz1, hz2, hz3⟩ := node_info
                have HOW5 := Lib.hid HO.out.row.lt
                have HOW := Lib.hid HO6.out.row.lt
                unfold nodeV
                go_wp2_with (at_builtin; refine wpList_append_lies _ rfl _ _ 22 rfl (w.heap.size + 2) 24 i0 z0 6 72 Tryd.underlying22 hi0 hz0 hz1 hz2 hz3 (by decide) _ _ _ rfl ((HO6.out.row.alloc _).alloc _) ⟨w6.heap.size + 1, 0, none⟩ 1 1 ([(t, Value.slice kx t.kids.length kc)].flatMap nodeCells) rfl rfl (new_node _ t _ _ (by simp)) (node_one _ _ _ _) (by omega) (by simp only [maxLen]; omega) (by omega) (by simp; omega) _ rfl ?_; rintro g cap w7 hown hgrow hat hlt; have hN7 := ((HNN6.out.alloc _).alloc _).keep (hgrow.block _ (by simp; omega) (fun e => by have := (HOW.out _ e.symm).1; omega)); have n7 := hN7.cells.2.2.2.2.2; have f7 := hN7.frozen 5; have HN7 := Lib.hid hN7; have HOWN := Lib.hid hown; have HGROW := Lib.hid hgrow; have HAT := Lib.hid hat; clear hN7 hown hgrow hat)
                have HO7 := Lib.hid (OwnsN.more (x := (t, Value.slice kx t.kids.length kc)) ((HO6.out.alloc (Nat.le_refl _) _).alloc (Nat.le_refl _) _) HOWN.out rfl HGROW.out HAT.out rfl (((HL2.out.alloc _).alloc _).mono (fun k _ hk => ⟨by omega, fun e => by have := (HOW5.out k e.symm).2; omega⟩)))
                have HB7 := Lib.hid (((HB6.out.alloc (by omega) _).alloc (by simp; omega) _).grown HGROW.out (by simp; omega) (fun k hk => by have := (HOW.out k hk).1; omega))
                have HNR7 := Lib.hid (((HNR6.out.alloc _).alloc _).keep (HGROW.out.block _ (by have := HNR6.out.lt; simp; omega) (fun e => by have := (HOW.out _ e.symm).1; omega)))
                go_roundw
                case rel =>
                  refine ⟨j2, ts ++ [(t, Value.slice kx t.kids.length kc)], _, n - 1, rfl, by omega, by omega, by simp; omega, HB7.out.setCell (p := ⟨w.heap.size + 1, 5, none⟩) (by simp) _, (Below.heap_setCell w7 ⟨w.heap.size + 1, 5, none⟩ _ w.heap.size (by simp)).trans HNR7.out, HN7.out.set5 _, HO7.out.keep (Nat.le_refl _) (fun k _ hB => Below.heap_setCell w7 ⟨w.heap.size + 1, 5, none⟩ _ k (by simp; omega)), by omega, by rw [← HQ2.out]; exact HKI2.out⟩
                case measure => simp [intOf]; omega
            · have hl32 : (s.data.toList.drop j)[0]? ≠ some 32 := fun e => hb32 (stands_head.1 e)
              have HK0 := Lib.hid (HKI.out.stop hl32)
              have hc32 := stands_not (show stands s j 32 = false by simpa using hb32)
              clear hb32 hl32
              obtain ⟨e0, e1, e2, e3, e4, e5⟩ := HNR.out.cells
              have z := HNR.out.frozen
              obtain ⟨n0, n1, n2, n3, n4, n5⟩ := HNN.out.cells
              simp only [Tr.kind, Tr.form, Tr.text, Tr.line, Tr.col] at n0 n1 n2 n3 n4
              by_cases hb41 : stands s j 41 = true
              · have HRE := Lib.hid (show R = .ok (.mk V 1 ⟨#[]⟩ 0 0 (ts.map (·.1)), (s.data.toList.drop j).drop 1) by rw [← HRN.out, HK0.out]; dsimp only; rw [if_pos (stands_head.2 hb41)])
                obtain ⟨hlt41, h41⟩ := stands_facts hb41
                have k1 : decide ((j : Int) < s.size) = true := by simp; omega
                have k2 : ((s[j].toNat : Int) == 32) = false := by rw [h41]; rfl
                have k3 : decide (s.size ≤ j) = false := by simp; omega
                have k4 : ((s[j].toNat : Int) != 41) = false := by rw [h41]; rfl
                clear hb41 h41 hc32
                go_wp2_with fail
                refine bodyPost_ret (results_ct_row rfl _ _ w.heap.size 24 _ (0, 0) _ rfl (HNR.out.set (.mk V 1 ⟨#[]⟩ 0 0 (ts.map (·.1))) (.slice va ts.length vc)) Tryd.underlying24 rfl (by kernel_rfl)) rfl ?_
                exact rnode_ok (j := j + 1) HRE.out HBR.out (by omega) (by omega) (by first | rfl | omega) (by rw [List.drop_drop]) ((HO.out.tree (Nat.le_refl _) V 1 ⟨#[]⟩ 0 0).mono (fun k _ hk => ⟨by omega, by omega⟩))
              · have HRE := Lib.hid (show R = .error 100 by rw [← HRN.out, HK0.out]; dsimp only; rw [if_neg (fun e => hb41 (stands_head.1 e))])
                have hc41 := stands_not (show stands s j 41 = false by simpa using hb41)
                have hcase : (decide (j < s.size) = false ∧ decide (s.size ≤ j) = true) ∨ (∃ hk : j < s.size, decide ((j : Int) < s.size) = true ∧ ((s[j].toNat : Int) == 32) = false ∧ decide (s.size ≤ j) = false ∧ ((s[j].toNat : Int) != 41) = true) := by
                  rcases hc41 with h | ⟨hk, h⟩
                  · exact .inl ⟨by simp; omega, by simp; omega⟩
                  · refine .inr ⟨hk, by simp; omega, ?_, by simp; omega, byte_ne (n := 41) h⟩
                    rcases hc32 with h2 | ⟨_, h2⟩
                    · omega
                    · exact byte_no (n := 32) h2
                clear hb41 hc41 hc32
                rcases hcase with ⟨k1, k3⟩ | ⟨hk, k1, k2, k3, k4⟩
                all_goals
                  go_wp2_with fail
                  refine bodyPost_ret (results_ct_row rfl _ _ w.heap.size 24 _ (0, 0) _ rfl (HNR.out.set zeroT (.slice none 0 0)) Tryd.underlying24 rfl (by kernel_rfl)) rfl ?_
                  exact rnode_err HRE.out (.inr rfl) HBR.out zeroT none 0 0 rfl
        · simp only [stands_head, if_neg hb33] at hR
          have hc33 := stands_not (show stands s p 33 = false by simpa using hb33)
          clear hb33
          rcases hc33 with h33 | ⟨hlt33, h33⟩
          · skip
            have j1 : decide ((p : Int) < s.size) = false := by simp; omega
            have j1n : decide (p < s.size) = false := by simp; omega
            skip
            obtain ⟨K0, hK0⟩ : ∃ K0, kidsGo (nodeGo d) (s.data.toList.drop p).length (s.data.toList.drop p) = K0 := ⟨_, rfl⟩
            rw [hK0] at hR
            have HRN := Lib.hid hR
            have HK0' := Lib.hid hK0
            clear hR hK0
            go_enter Tryd.func34, Tryd.ntmps34
            go_wp2_with fail
            refine (N1.out _).mono ?_
            rintro e w2 ⟨rfl, rfl⟩
            have HA0 := Lib.hid ((rowN_new w zeroT (.slice none 0 0)).alloc (.cells #[.int .i64 V, .int .i64 0, .string ⟨#[]⟩, .int .i64 0, .int .i64 0, .slice none 0 0] 24))
            have hn0' := rowN_new (w.alloc (.cells #[.int .i64 0, .int .i64 0, .string ⟨#[]⟩, .int .i64 0, .int .i64 0, .slice none 0 0] 24)) (.mk V 0 ⟨#[]⟩ 0 0 []) (.slice none 0 0)
            rw [show (w.alloc (.cells #[.int .i64 0, .int .i64 0, .string ⟨#[]⟩, .int .i64 0, .int .i64 0, .slice none 0 0] 24)).heap.size = w.heap.size + 1 from by simp] at hn0'
            have HN0 := Lib.hid hn0'
            have HB0 := Lib.hid (((Below.refl w.heap.size w).alloc (Nat.le_refl _) (.cells #[.int .i64 0, .int .i64 0, .string ⟨#[]⟩, .int .i64 0, .int .i64 0, .slice none 0 0] 24)).alloc (by simp) (.cells #[.int .i64 V, .int .i64 0, .string ⟨#[]⟩, .int .i64 0, .int .i64 0, .slice none 0 0] 24))
            clear hn0'
            go_wp2_with fail
            go_loopw [13] (fun a wr => ∃ (j : Nat) (ts : List (Tr × Value)) (v : Value) (n : Nat), a = .int .i64 j ∧ p ≤ j ∧ j ≤ s.size ∧ ts.length ≤ j ∧ Below w.heap.size w wr ∧ RowN wr w.heap.size zeroT (.slice none 0 0) ∧ RowN wr (w.heap.size + 1) (.mk V 0 ⟨#[]⟩ 0 0 []) v ∧ OwnsN wr (w.heap.size + 2) (w.heap.size + 2) v ts ∧ s.size - j ≤ n ∧ KInv K0 (nodeGo d) n (s.data.toList.drop j) ts) (fun a _ => s.size - (intOf a).toNat)
            case atStart =>
              refine ⟨p, [], .slice none 0 0, (s.data.toList.drop (p)).length, by first | rfl | go_num, Nat.le_refl _, by omega, by simp, HB0.out, HA0.out, HN0.out, ⟨⟨by simp, .inl ⟨rfl, rfl⟩⟩, fun x hx => by simp at hx⟩, by rw [List.length_drop, ← Lib.size_eq]; omega, ?_⟩
              unfold KInv
              rw [HK0'.out]
              cases K0 <;> simp
            case round =>
              obtain ⟨j, ts, v, n, rfl, hpj, hjs, htl, hbr, hNr, hNn, hO, hn0, hK⟩ := hrel
              have HBR := Lib.hid hbr
              have HNR := Lib.hid hNr
              have HNN := Lib.hid hNn
              have HO := Lib.hid hO
              have HKI := Lib.hid hK
              have hnlt2 := hNn.lt
              have hst5 := hbr.size
              obtain ⟨va, vc, rfl⟩ := hO.row.shapeN
              clear hbr hNr hNn hO hK
              by_cases hb32 : stands s j 32 = true
              · have := stands_in hb32; omega
              · have hl32 : (s.data.toList.drop j)[0]? ≠ some 32 := fun e => hb32 (stands_head.1 e)
                have HK0 := Lib.hid (HKI.out.stop hl32)
                have hc32 := stands_not (show stands s j 32 = false by simpa using hb32)
                clear hb32 hl32
                obtain ⟨e0, e1, e2, e3, e4, e5⟩ := HNR.out.cells
                have z := HNR.out.frozen
                obtain ⟨n0, n1, n2, n3, n4, n5⟩ := HNN.out.cells
                simp only [Tr.kind, Tr.form, Tr.text, Tr.line, Tr.col] at n0 n1 n2 n3 n4
                by_cases hb41 : stands s j 41 = true
                · have := stands_in hb41; omega
                · have HRE := Lib.hid (show R = .error 100 by rw [← HRN.out, HK0.out]; dsimp only; rw [if_neg (fun e => hb41 (stands_head.1 e))])
                  have hc41 := stands_not (show stands s j 41 = false by simpa using hb41)
                  have hcase : (decide (j < s.size) = false ∧ decide (s.size ≤ j) = true) ∨ (∃ hk : j < s.size, decide ((j : Int) < s.size) = true ∧ ((s[j].toNat : Int) == 32) = false ∧ decide (s.size ≤ j) = false ∧ ((s[j].toNat : Int) != 41) = true) := by
                    rcases hc41 with h | ⟨hk, h⟩
                    · exact .inl ⟨by simp; omega, by simp; omega⟩
                    · refine .inr ⟨hk, by simp; omega, ?_, by simp; omega, byte_ne (n := 41) h⟩
                      rcases hc32 with h2 | ⟨_, h2⟩
                      · omega
                      · exact byte_no (n := 32) h2
                  clear hb41 hc41 hc32
                  rcases hcase with ⟨k1, k3⟩ | ⟨hk, _⟩
                  rotate_left
                  · omega
                  all_goals
                    go_wp2_with fail
                    refine bodyPost_ret (results_ct_row rfl _ _ w.heap.size 24 _ (0, 0) _ rfl (HNR.out.set zeroT (.slice none 0 0)) Tryd.underlying24 rfl (by kernel_rfl)) rfl ?_
                    exact rnode_err HRE.out (.inr rfl) HBR.out zeroT none 0 0 rfl

          · skip
            have j1 : decide ((p : Int) < s.size) = true := by simp; omega
            have j1n : decide (p < s.size) = true := by simp; omega
            have j2 : ((s[p].toNat : Int) == 33) = false := byte_no (n := 33) h33
            skip
            obtain ⟨K0, hK0⟩ : ∃ K0, kidsGo (nodeGo d) (s.data.toList.drop p).length (s.data.toList.drop p) = K0 := ⟨_, rfl⟩
            rw [hK0] at hR
            have HRN := Lib.hid hR
            have HK0' := Lib.hid hK0
            clear hR hK0
            go_enter Tryd.func34, Tryd.ntmps34
            go_wp2_with fail
            refine (N1.out _).mono ?_
            rintro e w2 ⟨rfl, rfl⟩
            have HA0 := Lib.hid ((rowN_new w zeroT (.slice none 0 0)).alloc (.cells #[.int .i64 V, .int .i64 0, .string ⟨#[]⟩, .int .i64 0, .int .i64 0, .slice none 0 0] 24))
            have hn0' := rowN_new (w.alloc (.cells #[.int .i64 0, .int .i64 0, .string ⟨#[]⟩, .int .i64 0, .int .i64 0, .slice none 0 0] 24)) (.mk V 0 ⟨#[]⟩ 0 0 []) (.slice none 0 0)
            rw [show (w.alloc (.cells #[.int .i64 0, .int .i64 0, .string ⟨#[]⟩, .int .i64 0, .int .i64 0, .slice none 0 0] 24)).heap.size = w.heap.size + 1 from by simp] at hn0'
            have HN0 := Lib.hid hn0'
            have HB0 := Lib.hid (((Below.refl w.heap.size w).alloc (Nat.le_refl _) (.cells #[.int .i64 0, .int .i64 0, .string ⟨#[]⟩, .int .i64 0, .int .i64 0, .slice none 0 0] 24)).alloc (by simp) (.cells #[.int .i64 V, .int .i64 0, .string ⟨#[]⟩, .int .i64 0, .int .i64 0, .slice none 0 0] 24))
            clear hn0'
            go_wp2_with fail
            go_loopw [13] (fun a wr => ∃ (j : Nat) (ts : List (Tr × Value)) (v : Value) (n : Nat), a = .int .i64 j ∧ p ≤ j ∧ j ≤ s.size ∧ ts.length ≤ j ∧ Below w.heap.size w wr ∧ RowN wr w.heap.size zeroT (.slice none 0 0) ∧ RowN wr (w.heap.size + 1) (.mk V 0 ⟨#[]⟩ 0 0 []) v ∧ OwnsN wr (w.heap.size + 2) (w.heap.size + 2) v ts ∧ s.size - j ≤ n ∧ KInv K0 (nodeGo d) n (s.data.toList.drop j) ts) (fun a _ => s.size - (intOf a).toNat)
            case atStart =>
              refine ⟨p, [], .slice none 0 0, (s.data.toList.drop (p)).length, by first | rfl | go_num, Nat.le_refl _, by omega, by simp, HB0.out, HA0.out, HN0.out, ⟨⟨by simp, .inl ⟨rfl, rfl⟩⟩, fun x hx => by simp at hx⟩, by rw [List.length_drop, ← Lib.size_eq]; omega, ?_⟩
              unfold KInv
              rw [HK0'.out]
              cases K0 <;> simp
            case round =>
              obtain ⟨j, ts, v, n, rfl, hpj, hjs, htl, hbr, hNr, hNn, hO, hn0, hK⟩ := hrel
              have HBR := Lib.hid hbr
              have HNR := Lib.hid hNr
              have HNN := Lib.hid hNn
              have HO := Lib.hid hO
              have HKI := Lib.hid hK
              have hnlt2 := hNn.lt
              have hst5 := hbr.size
              obtain ⟨va, vc, rfl⟩ := hO.row.shapeN
              clear hbr hNr hNn hO hK
              by_cases hb32 : stands s j 32 = true
              · obtain ⟨hlt32, h32⟩ := stands_facts hb32
                have HL32 := Lib.hid (stands_head.2 hb32)
                have k1 : decide ((j : Int) < s.size) = true := by simp; omega
                have k2 : ((s[j].toNat : Int) == 32) = true := by rw [h32]; rfl
                clear hb32 h32
                go_wp2_with fail
                refine (IH.out (j + 1) s ((j : Int) + 1) (x + 1) _ (by omega) HX1.out hs (by omega)).mono ?_
                intro e w6 hpost
                obtain ⟨hb6, hres⟩ := hpost
                have HB6 := Lib.hid (Below.then HBR.out hb6)
                have HNR6 := Lib.hid (HNR.out.keep (hb6.block _ (by omega)))
                have HNN6 := Lib.hid (HNN.out.keep (hb6.block _ (by omega)))
                have HO6 := Lib.hid (HO.out.keep (Nat.le_refl _) (fun k hk _ => hb6.block k hk))
                have hst7 := hb6.size
                have hnlt6 := HNN6.out.lt
                have hdd : (s.data.toList.drop j).drop 1 = s.data.toList.drop (j + 1) := by rw [List.drop_drop]
                clear hb6
                cases hng : nodeGo d (s.data.toList.drop (j + 1)) with
                | error er =>
                  rw [hng] at hres
                  obtain ⟨et, ea, en, ec, rfl, her⟩ := hres
                  have HK0 := Lib.hid (HKI.out.err (by omega) HL32.out (by rw [hdd]; exact hng))
                  have HRE := Lib.hid (show R = .error er by rw [← HRN.out, HK0.out])
                  have HER := Lib.hid her
                  have hen : errEnd er < 0 := by unfold errEnd; split <;> omega
                  obtain ⟨ev, hev⟩ : ∃ ev, errEnd er = ev := ⟨_, rfl⟩
                  rw [hev] at hen ⊢
                  have HEV := Lib.hid hev
                  have e0 := fun o => (HNR6.out.alloc o).cells.1
                  have e1 := fun o => (HNR6.out.alloc o).cells.2.1
                  have e2 := fun o => (HNR6.out.alloc o).cells.2.2.1
                  have e3 := fun o => (HNR6.out.alloc o).cells.2.2.2.1
                  have e4 := fun o => (HNR6.out.alloc o).cells.2.2.2.2.1
                  have e5 := fun o => (HNR6.out.alloc o).cells.2.2.2.2.2
                  have z := fun o => (HNR6.out.alloc o).frozen
                  clear hng hdd hev her
                  unfold nodeV
                  go_wp2_with fail
                  refine bodyPost_ret (results_ct_row rfl _ _ w.heap.size 24 _ (0, 0) _ rfl ((HNR6.out.alloc _).set zeroT (.slice none 0 0)) Tryd.underlying24 rfl (by kernel_rfl)) rfl ?_
                  exact rnode_err HRE.out HER.out (HB6.out.alloc (by omega) _) zeroT none 0 0 HEV.out.symm
                | ok tq =>
                  obtain ⟨t, q⟩ := tq
                  rw [hng] at hres
                  obtain ⟨kv, j2, rfl, hjj, hj2, hq2, hl2⟩ := hres
                  have HKI2 := Lib.hid (HKI.out.next (by omega) HL32.out (by rw [hdd]; exact hng) kv)
                  obtain ⟨kx, kc, rfl⟩ := hl2.shape
                  have HL2 := Lib.hid hl2
                  have HQ2 := Lib.hid hq2
                  have k3 : decide ((j2 : Int) < 0) = false := by simp
                  clear hng hdd hl2 hq2
                  have n5 := fun o => (HNN6.out.alloc o).cells.2.2.2.2.2
                  obtain ⟨i0, z0, hi0, hz0, hz1, hz2, hz3⟩ := node_info
                  have HOW5 := Lib.hid HO.out.row.lt
                  have HOW := Lib.hid HO6.out.row.lt
                  unfold nodeV
                  go_wp2_with (at_builtin; refine wpList_append_lies _ rfl _ _ 22 rfl (w.heap.size + 2) 24 i0 z0 6 72 Tryd.underlying22 hi0 hz0 hz1 hz2 hz3 (by decide) _ _ _ rfl ((HO6.out.row.alloc _).alloc _) ⟨w6.heap.size + 1, 0, none⟩ 1 1 ([(t, Value.slice kx t.kids.length kc)].flatMap nodeCells) rfl rfl (new_node _ t _ _ (by simp)) (node_one _ _ _ _) (by omega) (by simp only [maxLen]; omega) (by omega) (by simp; omega) _ rfl ?_; rintro g cap w7 hown hgrow hat hlt; have hN7 := ((HNN6.out.alloc _).alloc _).keep (hgrow.block _ (by simp; omega) (fun e => by have := (HOW.out _ e.symm).1; omega)); have n7 := hN7.cells.2.2.2.2.2; have f7 := hN7.frozen 5; have HN7 := Lib.hid hN7; have HOWN := Lib.hid hown; have HGROW := Lib.hid hgrow; have HAT := Lib.hid hat; clear hN7 hown hgrow hat)
                  have HO7 := Lib.hid (OwnsN.more (x := (t, Value.slice kx t.kids.length kc)) ((HO6.out.alloc (Nat.le_refl _) _).alloc (Nat.le_refl _) _) HOWN.out rfl HGROW.out HAT.out rfl (((HL2.out.alloc _).alloc _).mono (fun k _ hk => ⟨by omega, fun e => by have := (HOW5.out k e.symm).2; omega⟩)))
                  have HB7 := Lib.hid (((HB6.out.alloc (by omega) _).alloc (by simp; omega) _).grown HGROW.out (by simp; omega) (fun k hk => by have := (HOW.out k hk).1; omega))
                  have HNR7 := Lib.hid (((HNR6.out.alloc _).alloc _).keep (HGROW.out.block _ (by have := HNR6.out.lt; simp; omega) (fun e => by have := (HOW.out _ e.symm).1; omega)))
                  go_roundw
                  case rel =>
                    refine ⟨j2, ts ++ [(t, Value.slice kx t.kids.length kc)], _, n - 1, rfl, by omega, by omega, by simp; omega, HB7.out.setCell (p := ⟨w.heap.size + 1, 5, none⟩) (by simp) _, (Below.heap_setCell w7 ⟨w.heap.size + 1, 5, none⟩ _ w.heap.size (by simp)).trans HNR7.out, HN7.out.set5 _, HO7.out.keep (Nat.le_refl _) (fun k _ hB => Below.heap_setCell w7 ⟨w.heap.size + 1, 5, none⟩ _ k (by simp; omega)), by omega, by rw [← HQ2.out]; exact HKI2.out⟩
                  case measure => simp [intOf]; omega
              · have hl32 : (s.data.toList.drop j)[0]? ≠ some 32 := fun e => hb32 (stands_head.1 e)
                have HK0 := Lib.hid (HKI.out.stop hl32)
                have hc32 := stands_not (show stands s j 32 = false by simpa using hb32)
                clear hb32 hl32
                obtain ⟨e0, e1, e2, e3, e4, e5⟩ := HNR.out.cells
                have z := HNR.out.frozen
                obtain ⟨n0, n1, n2, n3, n4, n5⟩ := HNN.out.cells
                simp only [Tr.kind, Tr.form, Tr.text, Tr.line, Tr.col] at n0 n1 n2 n3 n4
                by_cases hb41 : stands s j 41 = true
                · have HRE := Lib.hid (show R = .ok (.mk V 0 ⟨#[]⟩ 0 0 (ts.map (·.1)), (s.data.toList.drop j).drop 1) by rw [← HRN.out, HK0.out]; dsimp only; rw [if_pos (stands_head.2 hb41)])
                  obtain ⟨hlt41, h41⟩ := stands_facts hb41
                  have k1 : decide ((j : Int) < s.size) = true := by simp; omega
                  have k2 : ((s[j].toNat : Int) == 32) = false := by rw [h41]; rfl
                  have k3 : decide (s.size ≤ j) = false := by simp; omega
                  have k4 : ((s[j].toNat : Int) != 41) = false := by rw [h41]; rfl
                  clear hb41 h41 hc32
                  go_wp2_with fail
                  refine bodyPost_ret (results_ct_row rfl _ _ w.heap.size 24 _ (0, 0) _ rfl (HNR.out.set (.mk V 0 ⟨#[]⟩ 0 0 (ts.map (·.1))) (.slice va ts.length vc)) Tryd.underlying24 rfl (by kernel_rfl)) rfl ?_
                  exact rnode_ok (j := j + 1) HRE.out HBR.out (by omega) (by omega) (by first | rfl | omega) (by rw [List.drop_drop]) ((HO.out.tree (Nat.le_refl _) V 0 ⟨#[]⟩ 0 0).mono (fun k _ hk => ⟨by omega, by omega⟩))
                · have HRE := Lib.hid (show R = .error 100 by rw [← HRN.out, HK0.out]; dsimp only; rw [if_neg (fun e => hb41 (stands_head.1 e))])
                  have hc41 := stands_not (show stands s j 41 = false by simpa using hb41)
                  have hcase : (decide (j < s.size) = false ∧ decide (s.size ≤ j) = true) ∨ (∃ hk : j < s.size, decide ((j : Int) < s.size) = true ∧ ((s[j].toNat : Int) == 32) = false ∧ decide (s.size ≤ j) = false ∧ ((s[j].toNat : Int) != 41) = true) := by
                    rcases hc41 with h | ⟨hk, h⟩
                    · exact .inl ⟨by simp; omega, by simp; omega⟩
                    · refine .inr ⟨hk, by simp; omega, ?_, by simp; omega, byte_ne (n := 41) h⟩
                      rcases hc32 with h2 | ⟨_, h2⟩
                      · omega
                      · exact byte_no (n := 32) h2
                  clear hb41 hc41 hc32
                  rcases hcase with ⟨k1, k3⟩ | ⟨hk, k1, k2, k3, k4⟩
                  all_goals
                    go_wp2_with fail
                    refine bodyPost_ret (results_ct_row rfl _ _ w.heap.size 24 _ (0, 0) _ rfl (HNR.out.set zeroT (.slice none 0 0)) Tryd.underlying24 rfl (by kernel_rfl)) rfl ?_
                    exact rnode_err HRE.out (.inr rfl) HBR.out zeroT none 0 0 rfl
    · rw [if_neg (fun e => hq (stands_head.1 e))] at hR
      have hcq := stands_not (show stands s i 40 = false by simpa using hq)
      have hcase : decide (s.size ≤ i) = true ∨ (∃ hk : i < s.size, decide (s.size ≤ i) = false ∧ ((s[i].toNat : Int) != 40) = true) := by
        rcases hcq with h | ⟨hk, h⟩
        · exact .inl (by simp; omega)
        · exact .inr ⟨hk, by simp; omega, byte_ne (n := 40) h⟩
      have N1 := fun w => refNumber_any s i i rfl w (by omega) hi
      have hnb := numGo_bd 3 (s.data.toList.drop i) 0
      rw [List.length_drop, ← Lib.size_eq] at hnb
      by_cases hok : numOk (s.data.toList.drop i) 22 = false
      · rw [if_pos hok] at hR
        have HRN := Lib.hid hR.symm
        obtain ⟨Z, hZ⟩ : ∃ Z, numV (s.data.toList.drop i) = Z := ⟨_, rfl⟩
        have hz := numV_no _ _ hok
        rw [hZ] at N1 hz
        generalize ((i + (numGo 3 (s.data.toList.drop i) 0).2 : Nat) : Int) = p at *
        have N1 := Lib.hid N1
        have hc2 : decide (Z < 0) = true ∨ (decide (Z < 0) = false ∧ decide ((22 : Int) ≤ Z) = true) := by
          simp only [decide_eq_true_eq, decide_eq_false_iff_not]; omega
        clear hR hZ hok hq hcq hz hnb
        rcases hcase with r1 | ⟨hk, r1, r2⟩
        all_goals
          rcases hc2 with r3 | ⟨r3, r4⟩
          all_goals
            go_enter Tryd.func34, Tryd.ntmps34
            go_wp2_with fail
            refine (N1.out _).mono ?_
            rintro e w2 ⟨rfl, rfl⟩
            go_wp2_with fail
            refine bodyPost_ret (results_ct_row rfl _ _ w.heap.size 24 _ (0, 0) _ rfl (heap_alloc_new _ _) Tryd.underlying24 rfl (by kernel_rfl)) rfl ?_
            rw [HRN.out]
            exact ⟨(Below.refl _ _).alloc (Nat.le_refl _) _, zeroT, none, 0, 0, rfl, .inr rfl⟩
      · have hok : numOk (s.data.toList.drop i) 22 = true := by simpa using hok
        rw [if_neg (by rw [hok]; simp)] at hR
        rw [List.drop_drop] at hR
        obtain ⟨hnv, hv22⟩ := numV_ok _ _ hok
        rw [hnv] at N1
        obtain ⟨V, hV⟩ : ∃ V, (numGo 3 (s.data.toList.drop i) 0).1 = V := ⟨_, rfl⟩
        obtain ⟨N, hN⟩ : ∃ N, (numGo 3 (s.data.toList.drop i) 0).2 = N := ⟨_, rfl⟩
        obtain ⟨p, hp⟩ : ∃ p, i + N = p := ⟨_, rfl⟩
        rw [hV] at hv22 hR N1
        rw [hN] at hnb hR N1
        rw [hp] at hR N1
        have hpb : i ≤ p ∧ p ≤ s.size := by omega
        have N1 := Lib.hid N1
        have r3 : decide ((V : Int) < 0) = false := by simp
        have r4 : decide ((22 : Int) ≤ (V : Int)) = false := by simp; omega
        have X1 := fun w => refText_any s p p rfl w (by omega) (by omega)
        clear hok hnv hV hN hp hq hcq hnb
        cases htx : textL (s.data.toList.drop p) with
        | none =>
          rw [htx] at hR X1
          have HRN := Lib.hid hR.symm
          have X1 := Lib.hid X1
          clear hR htx
          rcases hcase with r1 | ⟨hk, r1, r2⟩
          all_goals
            go_enter Tryd.func34, Tryd.ntmps34
            go_wp2_with fail
            refine (N1.out _).mono ?_
            rintro e w2 ⟨rfl, rfl⟩
            go_wp2_with fail
            refine (X1.out _).mono ?_
            rintro e w3 ⟨rfl, hb3⟩
            have HN3 := Lib.hid ((rowN_new w zeroT (.slice none 0 0)).keep (hb3.block _ (by simp)))
            have HB3 := Lib.hid (((Below.refl w.heap.size w).alloc (Nat.le_refl _) _).trans (hb3.mono (by simp)))
            clear hb3
            obtain ⟨e0, e1, e2, e3, e4, e5⟩ := HN3.out.cells
            have z := HN3.out.frozen
            unfold textV
            go_wp2_with fail
            refine bodyPost_ret (results_ct_row rfl _ _ w.heap.size 24 _ (0, 0) _ rfl (HN3.out.set (.mk 1 V ⟨#[]⟩ 0 0 []) (.slice none 0 0)) Tryd.underlying24 rfl (by kernel_rfl)) rfl ?_
            exact rnode_err HRN.out (.inr rfl) HB3.out (.mk 1 V ⟨#[]⟩ 0 0 []) none 0 0 rfl
        | some tn =>
          obtain ⟨tx, tn⟩ := tn
          have htl := textL_len _ _ _ htx
          rw [List.length_drop, ← Lib.size_eq] at htl
          rw [htx] at hR X1
          have HRN := Lib.hid hR.symm
          have X1 := Lib.hid X1
          clear hR htx
          rcases hcase with r1 | ⟨hk, r1, r2⟩
          all_goals
            go_enter Tryd.func34, Tryd.ntmps34
            go_wp2_with fail
            refine (N1.out _).mono ?_
            rintro e w2 ⟨rfl, rfl⟩
            go_wp2_with fail
            refine (X1.out _).mono ?_
            rintro e w3 ⟨rfl, hb3⟩
            have HN3 := Lib.hid ((rowN_new w zeroT (.slice none 0 0)).keep (hb3.block _ (by simp)))
            have HB3 := Lib.hid (((Below.refl w.heap.size w).alloc (Nat.le_refl _) _).trans (hb3.mono (by simp)))
            clear hb3
            obtain ⟨e0, e1, e2, e3, e4, e5⟩ := HN3.out.cells
            have z := HN3.out.frozen
            unfold textV
            go_wp2_with fail
            refine bodyPost_ret (results_ct_row rfl _ _ w.heap.size 24 _ (0, 0) _ rfl (HN3.out.set (.mk 1 V ⟨tx.toArray⟩ 0 0 []) (.slice none 0 0)) Tryd.underlying24 rfl (by kernel_rfl)) rfl ?_
            exact rnode_ok (j := p + tn) (by rw [HRN.out, List.drop_drop]) HB3.out (by omega) (by omega) (by first | rfl | omega) rfl (LiesP.leaf ..)
end Go.Proofs.YtjdpbfjfcbjlfaaDoor
