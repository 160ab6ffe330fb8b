/- DERIVED. The walk of gap. -/
import Derived.Test.YtmgnpgbganjgfaaDoorQuoteE
import Derived.Deep.AppendLies
import Derived.Deep.RegionLaw
set_option linter.unusedSimpArgs false
set_option linter.unusedVariables false
namespace Go.Proofs.YtmgnpgbganjgfaaDoor
open Go.RowKit

theorem byteN_is (l : List UInt8) (i : Nat) (c : UInt8) (x : Int) (hx : x = c.toNat) (hc : c ≠ 0) : (byteN l i == x) = decide (l[i]? = some c) := by
  subst hx
  unfold byteN
  rw [Bool.eq_iff_iff, beq_iff_eq, decide_eq_true_iff]
  rw [List.getD_eq_getElem?_getD]
  constructor
  · intro h
    have h2 : l[i]?.getD 0 = c := UInt8.toNat_inj.1 (by omega)
    cases hl : l[i]? with
    | none => rw [hl] at h2; exact absurd h2.symm hc
    | some b => rw [hl] at h2; simp at h2; rw [h2]
  · intro h; rw [h]; rfl
theorem pair_info : ∃ i, Tryd.prog.info? 57 = some i ∧ i.zero = some (.agg #[.int .i64 0, .int .i64 0]) ∧ i.size = 2 ∧ i.bytes = 16 := by
  have h : (Tryd.prog.info? 57).map (fun i => (i.zero, i.size, i.bytes)) = some (some (.agg #[.int .i64 0, .int .i64 0]), 2, 16) := by kernel_rfl
  cases e : Tryd.prog.info? 57 with
  | none => rw [e] at h; cases h
  | some i =>
    rw [e] at h
    simp only [Option.map_some, Option.some.injEq, Prod.mk.injEq] at h
    exact ⟨i, rfl, h.1, h.2.1, h.2.2⟩
/-- One gap more, at a step of a region that draws its order. -/
theorem gap_step {ops : Array Oper} {o : Oper} {a : Act} {K : Act → World → Prop} {Q : Exit → Act → World → Prop} {E : Prop} (hgd : o.guard = none) (sl x : Operand)
    (ho : o.op = .call { callee := .builtin .append, args := #[sl, x], argTypes := #[39, 39] })
    (W0 : World) (b : Nat) (s : ByteArray) (k : Int) (text : Bool) (out : List Int) (gaps : List (Nat × Nat)) (vo vg : Value) (w0 : World) (hR : Rd W0 b s k text out gaps vo vg w0)
    (hs : a.eval sl = vg) (c : Nat × Nat) (cs : Array Value) (hcs : cs.toList = pairC c) (H : Nat) (hH : H = w0.heap.size) (hx : a.eval x = .slice (some ⟨H, 0, none⟩) 1 1) (hlen : gaps.length ≤ 16777216) (wA : World) (hA : wA = w0.alloc (.cells cs 57))
    (h : ∀ v' w', w'.heap[b]? = some (.cells (rdC s k text vo vg) 41 (0, 0)) → Rd W0 b s k text out (gaps ++ [c]) vo v' (w'.setCell ⟨b, 4, none⟩ v') → K (a.put o.dst v') w') :
    if Region.wanted o (yielded ops a.tmps) = true then Oper.wp Tryd.prog o a wA K Q else E := by
  subst hH hA
  obtain ⟨i0, hi0, hz0, hz1, hz2⟩ := pair_info
  have hw : Region.wanted o (yielded ops a.tmps) = true := by simp [Region.wanted, hgd]
  rw [if_pos hw]
  have hown : (w0.alloc (.cells cs 57)).ownsRow W0.heap.size 57 2 vg gaps.length (gaps.flatMap pairC) :=
    row_keep hR.2.2.2.2 fun g cur hg => Below.heap_alloc w0 _ g (Array.getElem?_eq_some_iff.1 hg).1
  have hsz := hR.2.2.1.size
  obtain ⟨v', w', hr, h2, h3, h4⟩ := run_append_own (P := Tryd.prog) (w0.alloc (.cells cs 57)) W0.heap.size 39 o.type 57 i0 (.agg #[.int .i64 0, .int .i64 0]) 2 16 Tryd.underlying39 hi0 hz0 hz1 hz2 rfl (by decide) vg gaps.length (gaps.flatMap pairC) hown ⟨w0.heap.size, 0, none⟩ 1 1 (pairC c) rfl
    (by rw [← hcs]; exact World.news_of_block (heap_alloc_new w0 (.cells cs 57 (0, 0)))) (by intro u hu; simp [pairC] at hu; rcases hu with rfl | rfl <;> rfl) (by unfold maxLen; omega) (by omega) (by simp; omega)
  obtain ⟨k1, k2⟩ := hR.gapd _ c h2 h3
  unfold Oper.wp execOp
  simp only [ho, resolve, invoke, builtin, Sem.run_bind, Sem.run_pure, Result.andThen_ok, List.map_toArray, List.map_cons, List.map_nil, hs, hx, hr]
  exact h v' w' k1 k2
theorem byte_get (s : ByteArray) (i : Nat) (h : i < s.size) : s.data.toList[i]? = some s[i] := by
  rw [Array.getElem?_toList]; exact Array.getElem?_eq_getElem _
theorem isGap_at (l : List UInt8) (k : Nat) (hk : k < l.length) : isGap (l.drop k) = (decide (l[k]? = some 92) && decide (0 < gapP (l.drop (k + 1)))) := by
  rw [List.drop_eq_getElem_cons hk, isGap_cons, List.getElem?_eq_getElem hk]
  congr 1
  rw [decide_eq_decide]; simp
theorem runL_at (l : List UInt8) (k : Nat) (hk : k + 1 ≤ l.length) : runL l ((k : Int) + 1) 1 = (k : Int) + 1 + span (isCls 1) (l.drop (k + 1)) := by
  unfold runL
  rw [if_pos ⟨by omega, by omega⟩, show ((k : Int) + 1).toNat = k + 1 from by omega]
/-- What gap does. -/
def GapPost (W0 : World) (b : Nat) (s : ByteArray) (k : Nat) (text : Bool) (out : List Int) (gaps : List (Nat × Nat)) (g : Bool) (n : Nat) (e : Ending) (w' : World) : Prop :=
  match g with
  | true => e = .returned (.bool true) ∧ ∃ vo vg, Rd W0 b s ((k + n : Nat) : Int) text out (gaps ++ [(k, k + n)]) vo vg w'
  | false => e = .returned (.bool false) ∧ ∃ vo vg, Rd W0 b s k text out gaps vo vg w'
set_option maxHeartbeats 4000000 in
theorem gap_any (W0 : World) (b : Nat) (s : ByteArray) (k : Nat) (text : Bool) (out : List Int) (gaps : List (Nat × Nat)) (vo vg : Value) (w : World) (hs : s.size ≤ 16777216) (hk : k < s.size) (hgl : gaps.length ≤ 16777216) (h : Rd W0 b s k text out gaps vo vg w) :
    Calls Tryd.prog 48 #[.pointer (some ⟨b, 0, none⟩)] w (GapPost W0 b s k text out gaps (text && isGap (s.data.toList.drop k)) (gapP (s.data.toList.drop (k + 1)) + 1)) := by
  have hkl : k < s.data.toList.length := by rw [← Lib.size_eq]; exact hk
  rw [isGap_at _ k hkl]
  have HH := Lib.hid h
  obtain ⟨c0, c1, c2, c3, c4, hz⟩ := h.cells
  cases text with
  | false =>
    clear h c0 c1 c3 c4 hz
    rw [Bool.false_and]
    unfold GapPost
    go_enter Tryd.func48, Tryd.ntmps48
    go_wp2_with fail
    go_ret
    exact ⟨rfl, _, _, HH.out⟩
  | true =>
    rw [Bool.true_and]
    have B1 := byteAt_any W0 b s k 0 true out gaps vo vg w hs (by omega) (by omega) h
    rw [Nat.add_zero] at B1
    have hb92 := byteN_is s.data.toList k 92 92 rfl (by decide)
    have B1 := Lib.hid B1
    by_cases h92 : s.data.toList[k]? = some 92
    · rw [decide_eq_true h92, Bool.true_and]
      rw [decide_eq_true h92] at hb92
      have hb92n : (byteN s.data.toList k != 92) = false := by simpa using hb92
      obtain ⟨n, hn⟩ : ∃ n, span (isCls 1) (s.data.toList.drop (k + 1)) = n := ⟨_, rfl⟩
      have hnle := span_le' (isCls 1) (s.data.toList.drop (k + 1))
      rw [hn, List.length_drop, ← Lib.size_eq] at hnle
      have G1 := fun w => run_any s ((k : Int) + 1) 1 w (by omega)
      rw [runL_at _ k (by omega), hn] at G1
      obtain ⟨E, hE⟩ : ∃ E : Nat, E = k + 1 + n := ⟨_, rfl⟩
      rw [show (k : Int) + 1 + (n : Int) = (E : Int) from by omega] at G1
      have hgp : gapP (s.data.toList.drop (k + 1)) = if 0 < n ∧ s.data.toList[E]? = some 92 then n + 1 else 0 := by
        unfold gapP
        rw [hn, List.getElem?_drop, hE]
      have g1 : IntKind.i64.wrap ((k : Int) + 1) = (k : Int) + 1 := IntWalk.i64_in _ (by omega)
      have r0 := fun w' (h : Rd W0 b s k true out gaps vo vg w') => h.cells.1
      have r1 := fun w' (h : Rd W0 b s k true out gaps vo vg w') => h.cells.2.1
      have HE := Lib.hid hE
      have G1 := Lib.hid G1
      have HGP := Lib.hid hgp
      have hEs : E ≤ s.size := by omega
      clear h c0 c1 c2 c3 c4 hz hn hgp
      generalize byteN s.data.toList k = x at *
      by_cases h0 : n = 0
      · have t1 : ((E : Int) == (k : Int) + 1) = true := by simp; omega
        have hg0 : gapP (s.data.toList.drop (k + 1)) = 0 := by rw [HGP.out, if_neg (by omega)]
        rw [hg0]
        rw [show decide (0 < 0) = false from rfl]
        have r2 := fun w' (h : Rd W0 b s k true out gaps vo vg w') => h.cells.2.2.1
        clear hE hg0 h0
        unfold GapPost
        obtain ⟨_, _, c2, _, _, _⟩ := HH.out.cells
        go_enter Tryd.func48, Tryd.ntmps48
        go_wp2_with (go_at_call 40; refine B1.out.mono ?_; rintro e w1 ⟨rfl, hR1⟩; have HR1 := Lib.hid hR1; have HS0 := Lib.hid hR1.drew1; clear hR1)
        go_region_held3 (fun w' => Rd W0 b s k true out gaps vo vg w')
          (first
            | with_reducible exact HS1.out
            | with_reducible exact HS0.out)
          (first
            | (go_at_call 58; refine (G1.out _).mono ?_; rintro e w2 ⟨rfl, hb2⟩; have HS1 := Lib.hid (HS0.out.keep hb2)))
        obtain ⟨c0, c1, _, _, _, _⟩ := HS1.out.cells
        go_wp2_with fail
        go_ret
        exact ⟨rfl, _, _, HS1.out⟩
      · have t1 : ((E : Int) == (k : Int) + 1) = false := by simp; omega
        by_cases hel : E < s.size
        · have t2 : decide ((s.size : Int) ≤ (E : Int)) = false := by simp; omega
          have t2n : decide (s.size ≤ E) = false := by simp; omega
          have hge := byte_get s E hel
          by_cases he92 : s[E] = 92
          · have hq : ((s[E].toNat : Int) == 92) = true := (u8K s[E] 92 92 rfl (by decide)).1 he92
            have hqn : ((s[E].toNat : Int) != 92) = false := by simpa using hq
            have hg0 : gapP (s.data.toList.drop (k + 1)) = n + 1 := by rw [HGP.out, if_pos ⟨by omega, by rw [hge, he92]⟩]
            rw [hg0]
            rw [show decide (0 < n + 1) = true from by simp]
            have HK := Lib.hid (show k + (n + 1 + 1) = E + 1 from by omega)
            have g2 : IntKind.i64.wrap ((E : Int) + 1) = (E : Int) + 1 := IntWalk.i64_in _ (by omega)
            obtain ⟨_, _, c2, _, _, _⟩ := HH.out.cells
            clear hE hg0 he92 hge
            unfold GapPost
            simp only [HK.out]
            go_enter Tryd.func48, Tryd.ntmps48
            go_wp2_with (go_at_call 40; refine B1.out.mono ?_; rintro e w1 ⟨rfl, hR1⟩; have HR1 := Lib.hid hR1; have HS0 := Lib.hid hR1.drew1; clear hR1)
            go_region_held3 (fun w' => Rd W0 b s k true out gaps vo vg w')
              (first
                | with_reducible exact HS1.out
                | with_reducible exact HS0.out)
              (first
                | (go_at_call 58; refine (G1.out _).mono ?_; rintro e w2 ⟨rfl, hb2⟩; have HS1 := Lib.hid (HS0.out.keep hb2)))
            obtain ⟨c0, c1, _, c3, c4, hz⟩ := HS1.out.cells
            have hz4 := hz 4
            clear hz
            have HP2 := Lib.hid HS1.out.drew1
            have hal : ∀ o : Obj, (w2.alloc o).cell? ⟨b, 4, none⟩ = some vg := fun o => by rw [World.cell?_alloc_lt _ _ _ HS1.out.lt]; exact c4
            go_wp2_with fail
            refine wp_region_noPanic ?_
            refine wp_region_held_drew (S := (fun _ => True)) (by kernel_rfl) trivial (fun hHeld => ?_)
            refine wpAnyH_take (i := 0) (v := ?_) rfl (by kernel_rfl) (by kernel_rfl) (by kernel_rfl) (fun _ _ _ h => h) (Or.inl ⟨by rfl, ?_⟩) (by assumption) ?_
            rotate_left
            · (intro w hSw; (try dsimp only at hSw); go_simp; try with_reducible rfl)
            (try simp only [Act.put, List.setIfInBounds_toArray, List.set_cons_zero, List.set_cons_succ])
            refine wpAnyH_take (i := 1) (v := ?_) rfl (by kernel_rfl) (by kernel_rfl) (by kernel_rfl) (fun _ _ _ h => h) (Or.inl ⟨by rfl, ?_⟩) (by assumption) ?_
            rotate_left
            · (intro w hSw; (try dsimp only at hSw); go_simp; try with_reducible rfl)
            (try simp only [Act.put, List.setIfInBounds_toArray, List.set_cons_zero, List.set_cons_succ])
            refine wpAnyH_take (i := 2) (v := ?_) rfl (by kernel_rfl) (by kernel_rfl) (by kernel_rfl) (fun _ _ _ h => h) (Or.inl ⟨by rfl, ?_⟩) (by assumption) ?_
            rotate_left
            · (intro w hSw; (try dsimp only at hSw); go_simp; try with_reducible rfl)
            (try simp only [Act.put, List.setIfInBounds_toArray, List.set_cons_zero, List.set_cons_succ])
            refine wpAnyH_take (i := 3) (v := ?_) rfl (by kernel_rfl) (by kernel_rfl) (by kernel_rfl) (fun _ _ _ h => h) (Or.inl ⟨by rfl, ?_⟩) (by assumption) ?_
            rotate_left
            · (intro w hSw; (try dsimp only at hSw); go_simp; try with_reducible rfl)
            (try simp only [Act.put, List.setIfInBounds_toArray, List.set_cons_zero, List.set_cons_succ])
            refine wpAnyH_take (i := 5) (v := ?_) rfl (by kernel_rfl) (by kernel_rfl) (by kernel_rfl) (fun _ _ _ h => h) (Or.inl ⟨by rfl, ?_⟩) (by assumption) ?_
            rotate_left
            · (intro w hSw; (try dsimp only at hSw); go_simp; try with_reducible rfl)
            (try simp only [Act.put, List.setIfInBounds_toArray, List.set_cons_zero, List.set_cons_succ])
            refine wpAnyH_take (i := 6) (v := ?_) rfl (by kernel_rfl) (by kernel_rfl) (by kernel_rfl) (fun _ _ _ h => h) (Or.inl ⟨by rfl, ?_⟩) (by assumption) ?_
            rotate_left
            · (intro w hSw; (try dsimp only at hSw); go_simp; try with_reducible rfl)
            (try simp only [Act.put, List.setIfInBounds_toArray, List.set_cons_zero, List.set_cons_succ])
            refine wpAnyH_take (i := 7) (v := ?_) rfl (by kernel_rfl) (by kernel_rfl) (by kernel_rfl) (fun _ _ _ h => h) (Or.inl ⟨by rfl, ?_⟩) (by assumption) ?_
            rotate_left
            · (intro w hSw; (try dsimp only at hSw); go_simp; try with_reducible rfl)
            (try simp only [Act.put, List.setIfInBounds_toArray, List.set_cons_zero, List.set_cons_succ])
            refine wpAnyH_take (i := 9) (v := ?_) rfl (by kernel_rfl) (by kernel_rfl) (by kernel_rfl) (fun _ _ _ h => h) (Or.inl ⟨by rfl, ?_⟩) (by assumption) ?_
            rotate_left
            · (intro w hSw; (try dsimp only at hSw); go_simp; try with_reducible rfl)
            (try simp only [Act.put, List.setIfInBounds_toArray, List.set_cons_zero, List.set_cons_succ])
            refine wpAnyH_take (i := 10) (v := ?_) rfl (by kernel_rfl) (by kernel_rfl) (by kernel_rfl) (fun _ _ _ h => h) (Or.inl ⟨by rfl, ?_⟩) (by assumption) ?_
            rotate_left
            · (intro w hSw; (try dsimp only at hSw); go_simp; try with_reducible rfl)
            (try simp only [Act.put, List.setIfInBounds_toArray, List.set_cons_zero, List.set_cons_succ])
            refine wpAnyH_ready (rs := [4, 8]) (by kernel_rfl) (by simp) ?_
            refine AllReadyH.cons rfl (fun K hK => ?_) (AllReadyH.cons rfl (fun K hK => ?_) AllReadyH.nil)
            · go_simp
              refine hK.out _ _ trivial (fun hHeld => ?_)
              clear hK K
              (try simp only [Act.put, List.setIfInBounds_toArray, List.set_cons_zero, List.set_cons_succ])
              refine wpAnyH_ready (rs := [8]) (by kernel_rfl) (by simp) ?_
              refine AllReadyH.cons rfl (fun K hK => ?_) AllReadyH.nil
              go_simp
              refine hK.out _ _ trivial (fun hHeld => ?_)
              clear hK K
              (try simp only [Act.put, List.setIfInBounds_toArray, List.set_cons_zero, List.set_cons_succ])
              refine wpAnyH_take (i := 11) (v := ?_) rfl (by kernel_rfl) (by kernel_rfl) (by kernel_rfl) (fun _ _ _ h => h) (Or.inl ⟨by rfl, ?_⟩) (by assumption) ?_
              rotate_left
              · (intro w hSw; (try dsimp only at hSw); go_simp; try with_reducible rfl)
              (try simp only [Act.put, List.setIfInBounds_toArray, List.set_cons_zero, List.set_cons_succ])
              refine wpAnyH_ready (rs := [12]) (by kernel_rfl) (by simp) ?_
              refine AllReadyH.cons rfl (fun K hK => ?_) AllReadyH.nil
              go_simp
              refine hK.out _ _ trivial (fun hHeld => ?_)
              clear hK K
              (try simp only [Act.put, List.setIfInBounds_toArray, List.set_cons_zero, List.set_cons_succ])
              refine wpAnyH_ready (rs := [13]) (by kernel_rfl) (by simp) ?_
              refine AllReadyH.cons rfl (fun K hK => ?_) AllReadyH.nil
              refine gap_step (by rfl) _ _ (by rfl) W0 b s k true out gaps vo vg w2.drew HP2.out ?ga1 (k, E + 1) #[.int .i64 (k : Int), .int .i64 ((E : Int) + 1)] ?gb1 w2.heap.size ?gc1 ?gd1 hgl _ ?ge1 ?_
              case ga1 => rfl
              case gb1 => rfl
              case gc1 => rfl
              case gd1 => rfl
              case ge1 => rfl
              intro v3 w3 hk3 hR3
              have HR3 := Lib.hid hR3
              obtain ⟨_, k1, _, _, k4, kz⟩ := rd_cells hk3
              have kz4 := kz 4
              obtain ⟨a3, n3, x3, rfl⟩ := row_shape hR3.2.2.2.2
              clear hk3 hR3 kz
              refine hK.out _ _ trivial (fun hHeld => ?_)
              clear hK K
              (try simp only [Act.put, List.setIfInBounds_toArray, List.set_cons_zero, List.set_cons_succ])
              refine wpAnyH_take (i := 14) (v := ?_) rfl (by kernel_rfl) (by kernel_rfl) (by kernel_rfl) (fun _ _ _ h => h) (Or.inl ⟨by rfl, ?_⟩) (by assumption) ?_
              rotate_left
              · (intro w hSw; (try dsimp only at hSw); go_simp; try with_reducible rfl)
              (try simp only [Act.put, List.setIfInBounds_toArray, List.set_cons_zero, List.set_cons_succ])
              refine wpAnyH_take (i := 15) (v := ?_) rfl (by kernel_rfl) (by kernel_rfl) (by kernel_rfl) (fun _ _ _ h => h) (Or.inl ⟨by rfl, ?_⟩) (by assumption) ?_
              rotate_left
              · (intro w hSw; (try dsimp only at hSw); go_simp; try with_reducible rfl)
              (try simp only [Act.put, List.setIfInBounds_toArray, List.set_cons_zero, List.set_cons_succ])
              refine wpAnyH_ready (rs := [16]) (by kernel_rfl) (by simp) ?_
              refine AllReadyH.cons rfl (fun K hK => ?_) AllReadyH.nil
              go_simp
              refine hK.out _ _ trivial (fun hHeld => ?_)
              clear hK K
              (try simp only [Act.put, List.setIfInBounds_toArray, List.set_cons_zero, List.set_cons_succ])
              refine wpAnyH_done (by kernel_rfl) ?_ _
              refine NoPanic.normal ?_
              obtain ⟨_, k1, _, _, _, kz⟩ := HR3.out.cells
              have kz1 := kz 1
              clear kz kz4 k4
              generalize w3.setCell ⟨b, 4, none⟩ (.slice a3 n3 x3) = w4 at *
              go_wp2_with fail
              go_ret
              exact ⟨rfl, _, _, HR3.out.go ((E + 1 : Nat) : Int)⟩
            · go_simp
              refine hK.out _ _ trivial (fun hHeld => ?_)
              clear hK K
              (try simp only [Act.put, List.setIfInBounds_toArray, List.set_cons_zero, List.set_cons_succ])
              refine wpAnyH_take (i := 11) (v := ?_) rfl (by kernel_rfl) (by kernel_rfl) (by kernel_rfl) (fun _ _ _ h => h) (Or.inl ⟨by rfl, ?_⟩) (by assumption) ?_
              rotate_left
              · (intro w hSw; (try dsimp only at hSw); go_simp; try with_reducible rfl)
              (try simp only [Act.put, List.setIfInBounds_toArray, List.set_cons_zero, List.set_cons_succ])
              refine wpAnyH_ready (rs := [4, 12]) (by kernel_rfl) (by simp) ?_
              refine AllReadyH.cons rfl (fun K hK => ?_) (AllReadyH.cons rfl (fun K hK => ?_) AllReadyH.nil)
              · go_simp
                refine hK.out _ _ trivial (fun hHeld => ?_)
                clear hK K
                (try simp only [Act.put, List.setIfInBounds_toArray, List.set_cons_zero, List.set_cons_succ])
                refine wpAnyH_ready (rs := [12]) (by kernel_rfl) (by simp) ?_
                refine AllReadyH.cons rfl (fun K hK => ?_) AllReadyH.nil
                go_simp
                refine hK.out _ _ trivial (fun hHeld => ?_)
                clear hK K
                (try simp only [Act.put, List.setIfInBounds_toArray, List.set_cons_zero, List.set_cons_succ])
                refine wpAnyH_ready (rs := [13]) (by kernel_rfl) (by simp) ?_
                refine AllReadyH.cons rfl (fun K hK => ?_) AllReadyH.nil
                refine gap_step (by rfl) _ _ (by rfl) W0 b s k true out gaps vo vg w2.drew HP2.out ?ga2 (k, E + 1) #[.int .i64 (k : Int), .int .i64 ((E : Int) + 1)] ?gb2 w2.heap.size ?gc2 ?gd2 hgl _ ?ge2 ?_
                case ga2 => rfl
                case gb2 => rfl
                case gc2 => rfl
                case gd2 => rfl
                case ge2 => rfl
                intro v3 w3 hk3 hR3
                have HR3 := Lib.hid hR3
                obtain ⟨_, k1, _, _, k4, kz⟩ := rd_cells hk3
                have kz4 := kz 4
                obtain ⟨a3, n3, x3, rfl⟩ := row_shape hR3.2.2.2.2
                clear hk3 hR3 kz
                refine hK.out _ _ trivial (fun hHeld => ?_)
                clear hK K
                (try simp only [Act.put, List.setIfInBounds_toArray, List.set_cons_zero, List.set_cons_succ])
                refine wpAnyH_take (i := 14) (v := ?_) rfl (by kernel_rfl) (by kernel_rfl) (by kernel_rfl) (fun _ _ _ h => h) (Or.inl ⟨by rfl, ?_⟩) (by assumption) ?_
                rotate_left
                · (intro w hSw; (try dsimp only at hSw); go_simp; try with_reducible rfl)
                (try simp only [Act.put, List.setIfInBounds_toArray, List.set_cons_zero, List.set_cons_succ])
                refine wpAnyH_take (i := 15) (v := ?_) rfl (by kernel_rfl) (by kernel_rfl) (by kernel_rfl) (fun _ _ _ h => h) (Or.inl ⟨by rfl, ?_⟩) (by assumption) ?_
                rotate_left
                · (intro w hSw; (try dsimp only at hSw); go_simp; try with_reducible rfl)
                (try simp only [Act.put, List.setIfInBounds_toArray, List.set_cons_zero, List.set_cons_succ])
                refine wpAnyH_ready (rs := [16]) (by kernel_rfl) (by simp) ?_
                refine AllReadyH.cons rfl (fun K hK => ?_) AllReadyH.nil
                go_simp
                refine hK.out _ _ trivial (fun hHeld => ?_)
                clear hK K
                (try simp only [Act.put, List.setIfInBounds_toArray, List.set_cons_zero, List.set_cons_succ])
                refine wpAnyH_done (by kernel_rfl) ?_ _
                refine NoPanic.normal ?_
                obtain ⟨_, k1, _, _, _, kz⟩ := HR3.out.cells
                have kz1 := kz 1
                clear kz kz4 k4
                generalize w3.setCell ⟨b, 4, none⟩ (.slice a3 n3 x3) = w4 at *
                go_wp2_with fail
                go_ret
                exact ⟨rfl, _, _, HR3.out.go ((E + 1 : Nat) : Int)⟩
              · go_simp
                refine hK.out _ _ trivial (fun hHeld => ?_)
                clear hK K
                (try simp only [Act.put, List.setIfInBounds_toArray, List.set_cons_zero, List.set_cons_succ])
                refine wpAnyH_ready (rs := [4]) (by kernel_rfl) (by simp) ?_
                refine AllReadyH.cons rfl (fun K hK => ?_) AllReadyH.nil
                go_simp
                refine hK.out _ _ trivial (fun hHeld => ?_)
                clear hK K
                (try simp only [Act.put, List.setIfInBounds_toArray, List.set_cons_zero, List.set_cons_succ])
                refine wpAnyH_ready (rs := [13]) (by kernel_rfl) (by simp) ?_
                refine AllReadyH.cons rfl (fun K hK => ?_) AllReadyH.nil
                refine gap_step (by rfl) _ _ (by rfl) W0 b s k true out gaps vo vg w2.drew HP2.out ?ga3 (k, E + 1) #[.int .i64 (k : Int), .int .i64 ((E : Int) + 1)] ?gb3 w2.heap.size ?gc3 ?gd3 hgl _ ?ge3 ?_
                case ga3 => rfl
                case gb3 => rfl
                case gc3 => rfl
                case gd3 => rfl
                case ge3 => rfl
                intro v3 w3 hk3 hR3
                have HR3 := Lib.hid hR3
                obtain ⟨_, k1, _, _, k4, kz⟩ := rd_cells hk3
                have kz4 := kz 4
                obtain ⟨a3, n3, x3, rfl⟩ := row_shape hR3.2.2.2.2
                clear hk3 hR3 kz
                refine hK.out _ _ trivial (fun hHeld => ?_)
                clear hK K
                (try simp only [Act.put, List.setIfInBounds_toArray, List.set_cons_zero, List.set_cons_succ])
                refine wpAnyH_take (i := 14) (v := ?_) rfl (by kernel_rfl) (by kernel_rfl) (by kernel_rfl) (fun _ _ _ h => h) (Or.inl ⟨by rfl, ?_⟩) (by assumption) ?_
                rotate_left
                · (intro w hSw; (try dsimp only at hSw); go_simp; try with_reducible rfl)
                (try simp only [Act.put, List.setIfInBounds_toArray, List.set_cons_zero, List.set_cons_succ])
                refine wpAnyH_take (i := 15) (v := ?_) rfl (by kernel_rfl) (by kernel_rfl) (by kernel_rfl) (fun _ _ _ h => h) (Or.inl ⟨by rfl, ?_⟩) (by assumption) ?_
                rotate_left
                · (intro w hSw; (try dsimp only at hSw); go_simp; try with_reducible rfl)
                (try simp only [Act.put, List.setIfInBounds_toArray, List.set_cons_zero, List.set_cons_succ])
                refine wpAnyH_ready (rs := [16]) (by kernel_rfl) (by simp) ?_
                refine AllReadyH.cons rfl (fun K hK => ?_) AllReadyH.nil
                go_simp
                refine hK.out _ _ trivial (fun hHeld => ?_)
                clear hK K
                (try simp only [Act.put, List.setIfInBounds_toArray, List.set_cons_zero, List.set_cons_succ])
                refine wpAnyH_done (by kernel_rfl) ?_ _
                refine NoPanic.normal ?_
                obtain ⟨_, k1, _, _, _, kz⟩ := HR3.out.cells
                have kz1 := kz 1
                clear kz kz4 k4
                generalize w3.setCell ⟨b, 4, none⟩ (.slice a3 n3 x3) = w4 at *
                go_wp2_with fail
                go_ret
                exact ⟨rfl, _, _, HR3.out.go ((E + 1 : Nat) : Int)⟩
          · have hq : ((s[E].toNat : Int) == 92) = false := (u8K s[E] 92 92 rfl (by decide)).2 he92
            have hqn : ((s[E].toNat : Int) != 92) = true := by simpa using hq
            have hg0 : gapP (s.data.toList.drop (k + 1)) = 0 := by rw [HGP.out, if_neg (fun h => he92 (by rw [hge] at h; simpa using h.2))]
            rw [hg0]
            rw [show decide (0 < 0) = false from rfl]
            obtain ⟨_, _, c2, _, _, _⟩ := HH.out.cells
            clear hE hg0 he92 hge
            unfold GapPost
            go_enter Tryd.func48, Tryd.ntmps48
            go_wp2_with (go_at_call 40; refine B1.out.mono ?_; rintro e w1 ⟨rfl, hR1⟩; have HR1 := Lib.hid hR1; have HS0 := Lib.hid hR1.drew1; clear hR1)
            go_region_held3 (fun w' => Rd W0 b s k true out gaps vo vg w')
              (first
                | with_reducible exact HS1.out
                | with_reducible exact HS0.out)
              (first
                | (go_at_call 58; refine (G1.out _).mono ?_; rintro e w2 ⟨rfl, hb2⟩; have HS1 := Lib.hid (HS0.out.keep hb2)))
            obtain ⟨c0, c1, _, c3, c4, hz⟩ := HS1.out.cells
            clear hz
            go_wp2_with fail
            go_ret
            exact ⟨rfl, _, _, HS1.out⟩
        · have t2 : decide ((s.size : Int) ≤ (E : Int)) = true := by simp; omega
          have t2n : decide (s.size ≤ E) = true := by simp; omega
          have hg0 : gapP (s.data.toList.drop (k + 1)) = 0 := by rw [HGP.out, if_neg (fun h => by have := (List.getElem?_eq_some_iff.1 h.2).1; rw [← Lib.size_eq] at this; omega)]
          rw [hg0]
          rw [show decide (0 < 0) = false from rfl]
          obtain ⟨_, _, c2, _, _, _⟩ := HH.out.cells
          clear hE hg0
          unfold GapPost
          go_enter Tryd.func48, Tryd.ntmps48
          go_wp2_with (go_at_call 40; refine B1.out.mono ?_; rintro e w1 ⟨rfl, hR1⟩; have HR1 := Lib.hid hR1; have HS0 := Lib.hid hR1.drew1; clear hR1)
          go_region_held3 (fun w' => Rd W0 b s k true out gaps vo vg w')
            (first
              | with_reducible exact HS1.out
              | with_reducible exact HS0.out)
            (first
              | (go_at_call 58; refine (G1.out _).mono ?_; rintro e w2 ⟨rfl, hb2⟩; have HS1 := Lib.hid (HS0.out.keep hb2)))
          obtain ⟨c0, c1, _, c3, c4, hz⟩ := HS1.out.cells
          clear hz
          go_wp2_with fail
          go_ret
          exact ⟨rfl, _, _, HS1.out⟩
    · rw [decide_eq_false h92, Bool.false_and]
      rw [decide_eq_false h92] at hb92
      have hb92n : (byteN s.data.toList k != 92) = true := by simpa using hb92
      clear h c0 c1 c3 c4 hz
      unfold GapPost
      generalize byteN s.data.toList k = x at *
      go_enter Tryd.func48, Tryd.ntmps48
      go_wp2_with (go_at_call 40; refine B1.out.mono ?_; rintro e w1 ⟨rfl, hR1⟩; have HR1 := Lib.hid hR1; clear hR1)
      go_ret
      exact ⟨rfl, _, _, HR1.out⟩
end Go.Proofs.YtmgnpgbganjgfaaDoor
