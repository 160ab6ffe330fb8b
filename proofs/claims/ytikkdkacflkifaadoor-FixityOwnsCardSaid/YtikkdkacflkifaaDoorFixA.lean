/- DERIVED. The walks of may and Known. -/
import Derived.Test.YtikkdkacflkifaaDoorFix
import Derived.Test.YtikkdkacflkifaaDoorShelf
import Derived.Laws.AppendOwnNone
import Derived.Test.YtikkdkacflkifaaDoorNext
set_option linter.unusedSimpArgs false
set_option linter.unusedVariables false
namespace Go.Proofs.YtikkdkacflkifaaDoor
open Go.RowKit

/-- What the listed variables give. -/
structure Tabs16 (w : World) : Prop where
  u : Tabs w
  sp : Lib.TabIs Tryd.prog w "strings.asciiSpace" .u8 Lib.asciiSpaceTab
theorem var_below {w w' : World} {n : String} {k : IntKind} {zs : List Int} (h : Lib.TabIs Tryd.prog w n k zs) (hb : Below w.heap.size w w') : Lib.TabIs Tryd.prog w' n k zs := by
  unfold Lib.TabIs World.var? at h ⊢
  cases hg : Tryd.prog.globalNamed n with
  | none => rw [hg] at h; simp at h
  | some g =>
    rw [hg] at h
    simp only [Option.bind_some] at h ⊢
    cases hh : w.heap[g]? with
    | none => rw [hh] at h; simp at h
    | some o =>
      rw [hb.block g (Array.getElem?_eq_some_iff.1 hh).1, hh]
      rw [hh] at h; exact h
theorem Tabs16.below {w w' : World} (h : Tabs16 w) (hb : Below w.heap.size w w') : Tabs16 w' := ⟨h.u.below hb, var_below h.sp hb⟩
def rkCells (r : Int × Int × ByteArray) : List Value := [.int .i64 r.1, .int .i64 r.2.1, .string r.2.2]
theorem rk_at (l : List (Int × Int × ByteArray)) : ∀ (i : Nat) (hi : i < l.length) (j : Nat), j < 3 → (l.flatMap rkCells)[i * 3 + j]? = (rkCells l[i])[j]? := by
  induction l with
  | nil => intro i hi; simp at hi
  | cons x r ih =>
    intro i hi j hj
    rw [List.flatMap_cons]
    cases i with
    | zero => rw [List.getElem?_append_left (by simp [rkCells]; omega)]; simp
    | succ i =>
      rw [List.getElem?_append_right (by simp [rkCells]; omega)]
      have := ih i (by simpa using hi) j hj
      rw [show (i + 1) * 3 + j - (rkCells x).length = i * 3 + j from by simp [rkCells]; omega, this]
      simp
theorem ranks_len : ranksL.length = 12 := rfl
theorem ranks_ascii : ∀ r ∈ ranksL, r.2.2.size < 4294967281 ∧ ∀ b ∈ r.2.2.data.toList, b.toNat < 128 := by decide +kernel
theorem fields_len : ∀ r ∈ ranksL, (Lib.fields r.2.2.data.toList).length ≤ 8 := by decide +kernel
set_option maxHeartbeats 1000000 in
theorem may_any (x : Fx) (w : World) : Calls Tryd.prog 29 #[fxV x] w fun e w' => e = .returned (.bool x.ok) ∧ Below w.heap.size w w' := by
  obtain ⟨b, hb⟩ : ∃ b, x.ok = b := ⟨_, rfl⟩
  rw [hb]
  unfold Fx.ok at hb
  have hcase : (decide (0 ≤ x.prec) = false ∧ b = false) ∨ (decide (0 ≤ x.prec) = true ∧ decide (x.prec ≤ 9) = false ∧ b = false) ∨ (decide (0 ≤ x.prec) = true ∧ decide (x.prec ≤ 9) = true ∧ decide (1 ≤ x.side) = false ∧ b = false) ∨ (decide (0 ≤ x.prec) = true ∧ decide (x.prec ≤ 9) = true ∧ decide (1 ≤ x.side) = true ∧ decide (x.side ≤ 3) = b) := by
    cases h1 : decide (0 ≤ x.prec) <;> cases h2 : decide (x.prec ≤ 9) <;> cases h3 : decide (1 ≤ x.side) <;> cases h4 : decide (x.side ≤ 3) <;> rw [h1, h2, h3, h4] at hb <;> simp_all
  clear hb
  unfold fxV
  rcases hcase with ⟨h1, rfl⟩ | ⟨h1, h2, rfl⟩ | ⟨h1, h2, h3, rfl⟩ | ⟨h1, h2, h3, h4⟩
  all_goals
    go_enter Tryd.func29, Tryd.ntmps29
    go_wp2_with fail
    go_ret
    exact ⟨rfl, (Below.refl _ _).alloc (Nat.le_refl _) _⟩

theorem OwnsX.ne {w : World} {B k : Nat} {v : Value} {l : List Fx} {cs : Array Value} {t : TypeId} {fz : Nat × Nat} (h : OwnsX w B v l) (hk : w.heap[k]? = some (.cells cs t fz)) (h1 : t ≠ 25) : some k ≠ v.ownBlock := by
  rcases h.2 with ⟨rfl, _⟩ | ⟨g, cap, cur, rfl, b, c, d⟩
  · simp [Value.ownBlock]
  · simp only [Value.ownBlock]
    intro e
    have e := Option.some.inj e
    subst e
    rw [hk] at c
    injection c with c
    injection c with _ c
    exact h1 c
theorem cell_of_row' (w : World) (b j : Nat) (cs : Array Value) (t : TypeId) (fz : Nat × Nat) (h : w.heap[b]? = some (.cells cs t fz)) : w.cell? ⟨b, j, none⟩ = cs[j]? := cell_of_row w b j cs t fz h
theorem rank_flat (i : Nat) (hi : i < ranksL.length) : (ranksL.take (i + 1)).flatMap rankF = (ranksL.take i).flatMap rankF ++ rankF ranksL[i] := by
  rw [List.take_succ_eq_append_getElem hi, List.flatMap_append]; simp
theorem rankF_take (r : Int × Int × ByteArray) (j : Nat) (hj : j < (Lib.fields r.2.2.data.toList).length) : (rankF r).take (j + 1) = (rankF r).take j ++ [⟨⟨(Lib.fields r.2.2.data.toList)[j].toArray⟩, r.1, r.2.1⟩] := by
  have hl : j < (rankF r).length := by unfold rankF; rw [List.length_map]; exact hj
  rw [List.take_succ_eq_append_getElem hl]
  congr 1
  simp only [rankF, List.getElem_map]
theorem known_part (i : Nat) : ((ranksL.take i).flatMap rankF).length ≤ 31 := by
  have h : (ranksL.take i).flatMap rankF ++ (ranksL.drop i).flatMap rankF = knownL := by rw [← List.flatMap_append, List.take_append_drop]; rfl
  have h2 := congrArg List.length h
  rw [known_len, List.length_append] at h2
  omega
set_option maxRecDepth 100000 in
set_option maxHeartbeats 4000000 in
theorem known_any (w : World) (hT : Tabs16 w) : Calls Tryd.prog 14 #[] w fun e w' => ∃ v, e = .returned v ∧ OwnsX w' w.heap.size v knownL ∧ Below w.heap.size w w' := by
  obtain ⟨i0, z0, hi0, hz0, hz1, hz2, hz3⟩ := fix_info
  have HT := Lib.hid hT
  clear hT
  go_enter Tryd.func14, Tryd.ntmps14
  go_wp2_with fail
  have hr0 := heap_alloc_new w (.cells (ranksL.flatMap rkCells).toArray 54 (0, 0))
  have hr1 : ((w.alloc (.cells (ranksL.flatMap rkCells).toArray 54 (0, 0))).alloc (.cells #[] 25 (0, 0))).heap[w.heap.size]? = some (.cells (ranksL.flatMap rkCells).toArray 54 (0, 0)) := (Below.heap_alloc _ _ _ (by simp)).trans hr0
  have ho := heap_alloc_new (w.alloc (.cells (ranksL.flatMap rkCells).toArray 54 (0, 0))) (.cells #[] 25 (0, 0))
  rw [show (w.alloc (.cells (ranksL.flatMap rkCells).toArray 54 (0, 0))).heap.size = w.heap.size + 1 from by simp] at ho
  have HR1 := Lib.hid hr1
  have HO1 := Lib.hid ho
  clear hr0 hr1 ho
  go_loopw [2, 23] (fun v a wr => ∃ i : Nat, a = .int .i64 i ∧ i ≤ 12 ∧ Below w.heap.size w wr ∧ wr.heap[w.heap.size]? = some (.cells (ranksL.flatMap rkCells).toArray 54 (0, 0)) ∧ OwnsX wr w.heap.size v ((ranksL.take i).flatMap rankF)) (fun _ a _ => 12 - (intOf a).toNat)
  case atStart =>
    refine ⟨0, rfl, by omega, ((Below.refl _ _).alloc (Nat.le_refl _) _).alloc (by simp) _, HR1.out, rfl, .inr ⟨_, 0, #[], rfl, by omega, HO1.out, Nat.le_refl _, by decide, rfl, rfl⟩⟩
  case round =>
    obtain ⟨i, rfl, hi, hb, hR, hO⟩ := hrel
    generalize wr = W1 at *
    have HB := Lib.hid hb
    have HR := Lib.hid hR
    have HO := Lib.hid hO
    obtain ⟨va, vc, rfl⟩ := hO.shape
    have hst := hb.size
    have hst2 : w.heap.size < W1.heap.size := (Array.getElem?_eq_some_iff.1 hR).1
    clear hb hO
    by_cases hin : i < 12
    · have hil : i < ranksL.length := by rw [ranks_len]; exact hin
      have hcell : ∀ j, j < 3 → W1.cell? ⟨w.heap.size, i * 3 + j, none⟩ = (rkCells ranksL[i])[j]? := fun j hj => by
        rw [cell_of_row' _ _ _ _ _ _ hR, ← rk_at ranksL i hil j hj]; simp
      have c0 := hcell 0 (by omega)
      have c1 := hcell 1 (by omega)
      have c2 := hcell 2 (by omega)
      simp only [rkCells, List.getElem?_cons_zero, List.getElem?_cons_succ, Nat.add_zero] at c0 c1 c2
      have hmem : ranksL[i] ∈ ranksL := List.getElem_mem hil
      obtain ⟨hsz, hasc⟩ := ranks_ascii _ hmem
      have hfl := fields_len _ hmem
      have HD := Lib.hid (rank_flat i hil)
      have hkp := known_part i
      clear hcell hR hmem
      generalize ranksL[i] = r at *
      clear hil
      have HSZ := Lib.hid hsz
      have HASC := Lib.hid hasc
      clear hsz hasc
      go_wp2_with fail
      refine (Tryd.strings_Fields r.2.2 _ HSZ.out (fun j b hj => HASC.out b (List.mem_of_getElem? hj)) ((HT.out.below (HB.out.alloc (by omega) _)).sp)).mono ?_
      rintro e w1 ⟨rfl, rfl⟩
      obtain ⟨ns, hns⟩ : ∃ ns, Lib.fields r.2.2.data.toList = ns := ⟨_, rfl⟩
      have HNS := Lib.hid hns
      rw [hns] at hfl ⊢
      have hB1 := (HB.out.alloc hst (.cells #[.int .i64 r.1, .int .i64 r.2.1, .string r.2.2] 54)).alloc (by simp; omega) (.cells (ns.map fun l => Value.string ⟨l.toArray⟩).toArray 9)
      have hK1 := heap_alloc_new W1 (.cells #[.int .i64 r.1, .int .i64 r.2.1, .string r.2.2] 54 (0, 0))
      have hK2 := (Below.heap_alloc (W1.alloc (.cells #[.int .i64 r.1, .int .i64 r.2.1, .string r.2.2] 54 (0, 0))) (.cells (ns.map fun l => Value.string ⟨l.toArray⟩).toArray 9 (0, 0)) W1.heap.size (by simp)).trans hK1
      have hS2 := heap_alloc_new (W1.alloc (.cells #[.int .i64 r.1, .int .i64 r.2.1, .string r.2.2] 54 (0, 0))) (.cells (ns.map fun l => Value.string ⟨l.toArray⟩).toArray 9 (0, 0))
      rw [show (W1.alloc (.cells #[.int .i64 r.1, .int .i64 r.2.1, .string r.2.2] 54 (0, 0))).heap.size = W1.heap.size + 1 from by simp] at hS2
      have hR2 := (Below.heap_alloc (W1.alloc (.cells #[.int .i64 r.1, .int .i64 r.2.1, .string r.2.2] 54 (0, 0))) (.cells (ns.map fun l => Value.string ⟨l.toArray⟩).toArray 9 (0, 0)) w.heap.size (by simp; omega)).trans ((Below.heap_alloc W1 (.cells #[.int .i64 r.1, .int .i64 r.2.1, .string r.2.2] 54 (0, 0)) w.heap.size hst2).trans HR.out)
      have HB1 := Lib.hid hB1; have HK2 := Lib.hid hK2; have HS2 := Lib.hid hS2; have HR2 := Lib.hid hR2
      have HO2 := Lib.hid ((HO.out.alloc (.cells #[.int .i64 r.1, .int .i64 r.2.1, .string r.2.2] 54)).alloc (.cells (ns.map fun l => Value.string ⟨l.toArray⟩).toArray 9))
      clear hns hB1 hK1 hK2 hS2 hR2 c0 c1 c2
      go_wp2_with fail
      go_loopw [2, 31] (fun v a wr => ∃ j : Nat, a = .int .i64 j ∧ j ≤ ns.length ∧ Below w.heap.size w wr ∧ wr.heap[w.heap.size]? = some (.cells (ranksL.flatMap rkCells).toArray 54 (0, 0)) ∧ wr.heap[W1.heap.size]? = some (.cells #[.int .i64 r.1, .int .i64 r.2.1, .string r.2.2] 54 (0, 0)) ∧ wr.heap[W1.heap.size + 1]? = some (.cells (ns.map fun l => Value.string ⟨l.toArray⟩).toArray 9 (0, 0)) ∧ OwnsX wr w.heap.size v ((ranksL.take i).flatMap rankF ++ (rankF r).take j)) (fun _ a _ => ns.length - (intOf a).toNat)
      case atStart => exact ⟨0, rfl, by omega, HB1.out, HR2.out, HK2.out, HS2.out, by simpa using HO2.out⟩
      case round =>
        obtain ⟨j, rfl, hj, hb, hRq, hKq, hSq, hOq⟩ := hrel
        have HBq := Lib.hid hb
        have HRq := Lib.hid hRq; have HKq := Lib.hid hKq; have HSq := Lib.hid hSq; have HOq := Lib.hid hOq
        have hstq := hb.size
        obtain ⟨ua, uc, rfl⟩ := hOq.shape
        have k0 : wr.cell? ⟨W1.heap.size, 0, none⟩ = some (.int .i64 r.1) := cell_of_row _ _ _ _ _ _ hKq
        have k1 : wr.cell? ⟨W1.heap.size, 1, none⟩ = some (.int .i64 r.2.1) := cell_of_row _ _ _ _ _ _ hKq
        have hlen : ((ranksL.take i).flatMap rankF ++ (rankF r).take j).length ≤ 39 := by
          rw [List.length_append, List.length_take]
          have : (rankF r).length ≤ 8 := by unfold rankF; rw [List.length_map, HNS.out]; exact hfl
          omega
        by_cases hjn : j < ns.length
        · have s0 : wr.cell? ⟨W1.heap.size + 1, j, none⟩ = some (.string ⟨ns[j].toArray⟩) := by
            rw [cell_of_row' _ _ _ _ _ _ hSq]; simp [hjn]
          have HT2 := Lib.hid (show (rankF r).take (j + 1) = (rankF r).take j ++ [⟨⟨ns[j].toArray⟩, r.1, r.2.1⟩] by
            have h := HNS.out
            subst h
            exact rankF_take r j hjn)
          clear hb hRq hKq hSq hOq
          go_wp2_with (at_builtin; refine wpList_append_own _ rfl _ _ 22 rfl w.heap.size 25 i0 z0 3 32 Tryd.underlying22 hi0 hz0 hz1 hz2 hz3 (by decide) _ _ _ rfl (HOq.out.alloc _) ⟨wr.heap.size, 0, none⟩ 1 1 ([(⟨⟨ns[j].toArray⟩, r.1, r.2.1⟩ : Fx)].flatMap fxCells) rfl rfl (new_fix _ ⟨⟨ns[j].toArray⟩, r.1, r.2.1⟩ _ rfl) (fix_one _) (by simp only [maxLen]; omega) (by omega) (by simp; omega) ?_; rintro v' w2 hown' hgrow -)
          have HOn := Lib.hid (OwnsX.more hown' rfl)
          have HBn := Lib.hid ((HBq.out.alloc hstq _).grown hgrow (by simp; omega) (fun k hk => (HOq.out.lt k hk).1))
          have HRn := Lib.hid ((hgrow.block _ (by have := (Array.getElem?_eq_some_iff.1 HRq.out).1; simp; omega) (HOq.out.ne HRq.out (by decide))).trans ((Below.heap_alloc _ _ _ (Array.getElem?_eq_some_iff.1 HRq.out).1).trans HRq.out))
          have HKn := Lib.hid ((hgrow.block _ (by have := (Array.getElem?_eq_some_iff.1 HKq.out).1; simp; omega) (HOq.out.ne HKq.out (by decide))).trans ((Below.heap_alloc _ _ _ (Array.getElem?_eq_some_iff.1 HKq.out).1).trans HKq.out))
          have HSn := Lib.hid ((hgrow.block _ (by have := (Array.getElem?_eq_some_iff.1 HSq.out).1; simp; omega) (HOq.out.ne HSq.out (by decide))).trans ((Below.heap_alloc _ _ _ (Array.getElem?_eq_some_iff.1 HSq.out).1).trans HSq.out))
          clear hown' hgrow
          go_roundw
          case rel => exact ⟨j + 1, by go_num, by omega, HBn.out, HRn.out, HKn.out, HSn.out, by rw [HT2.out, ← List.append_assoc]; exact HOn.out⟩
          case measure => simp [intOf]; omega
        · have hj' : j = ns.length := by omega
          subst hj'
          have t3 : decide ((ns.length : Int) < ns.length) = false := by simp
          have hfull : (rankF r).take ns.length = rankF r := List.take_of_length_le (by unfold rankF; rw [List.length_map, HNS.out]; exact Nat.le_refl _)
          have HF := Lib.hid hfull
          clear hb hRq hKq hSq hOq hfull
          go_wp2_with fail
          go_roundw
          case rel => exact ⟨i + 1, by go_num, by omega, HBq.out, HRq.out, by rw [HD.out]; have h := HOq.out; have hL := HF.out; generalize (rankF r).take ns.length = L at *; subst hL; exact h⟩
          case measure => simp [intOf]; omega
    · have hi' : i = 12 := by omega
      subst hi'
      go_wp2_with fail
      go_ret
      exact ⟨_, rfl, HO.out, HB.out⟩
end Go.Proofs.YtikkdkacflkifaaDoor
