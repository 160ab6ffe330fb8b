/- DERIVED. The walk of named. -/
import Derived.Test.YtmgnpgbganjgfaaDoorQuoteC
set_option linter.unusedSimpArgs false
set_option linter.unusedVariables false
namespace Go.Proofs.YtmgnpgbganjgfaaDoor
open Go.RowKit

/-- What the listed variables give. -/
structure Tabs5 (w : World) : Prop where
  u : Tabs w
  sp : Lib.TabIs Tryd.prog w "strings.asciiSpace" .u8 Lib.asciiSpaceTab
  pow : Lib.TabIs Tryd.prog w "internal/strconv.uint64pow10" .u64 Lib.pow10Tab
theorem var_below {w w' : World} {n : String} {k : IntKind} {zs : List Int} (h : Lib.TabIs Tryd.prog w n k zs) (hb : Below w.heap.size w w') : Lib.TabIs Tryd.prog w' n k zs := by
  unfold Lib.TabIs World.var? at h ⊢
  cases hg : Tryd.prog.globalNamed n with
  | none => rw [hg] at h; simp at h
  | some g =>
    rw [hg] at h
    simp only [Option.bind_some] at h ⊢
    cases hh : w.heap[g]? with
    | none => rw [hh] at h; simp at h
    | some o =>
      rw [hb.block g (Array.getElem?_eq_some_iff.1 hh).1, hh]
      rw [hh] at h; exact h
theorem Tabs5.below {w w' : World} (h : Tabs5 w) (hb : Below w.heap.size w w') : Tabs5 w' := ⟨h.u.below hb, var_below h.sp hb, var_below h.pow hb⟩
theorem Tabs5.below0 {w w' : World} (h : Tabs5 w) (hb : Below w.heap.size w w') : Tabs5 w' := h.below hb
def namesB : ByteArray := ⟨([78, 85, 76, 32, 83, 79, 72, 32, 83, 84, 88, 32, 69, 84, 88, 32, 69, 79, 84, 32, 69, 78, 81, 32, 65, 67, 75, 32, 66, 69, 76, 32, 66, 83, 32, 72, 84, 32, 76, 70, 32, 86, 84, 32, 70, 70, 32, 67, 82, 32, 83, 79, 32, 83, 73, 32, 68, 76, 69, 32].append [68, 67, 49, 32, 68, 67, 50, 32, 68, 67, 51, 32, 68, 67, 52, 32, 78, 65, 75, 32, 83, 89, 78, 32, 69, 84, 66, 32, 67, 65, 78, 32, 69, 77, 32, 83, 85, 66, 32, 69, 83, 67, 32, 70, 83, 32, 71, 83, 32, 82, 83, 32, 85, 83, 32, 83, 80, 32, 68, 69, 76]).toArray⟩
theorem fields_names : Lib.fields namesB.data.toList = namesL := by decide +kernel
theorem namesB_ascii : namesB.size < 4294967281 ∧ ∀ b ∈ namesB.data.toList, b.toNat < 128 := by decide +kernel
def namesC : Array Value := (namesL.map fun l => Value.string ⟨l.toArray⟩).toArray
theorem names_fields (w : World) (hT : Lib.TabIs Tryd.prog w "strings.asciiSpace" .u8 Lib.asciiSpaceTab) :
    Calls Tryd.prog 72 #[.string namesB] w fun e w' => e = .returned (.slice (some ⟨w.heap.size, 0, none⟩) 34 34) ∧ w' = w.alloc (.cells namesC 9) := by
  have h := Tryd.strings_Fields namesB w namesB_ascii.1 (fun j b hj => namesB_ascii.2 b (List.mem_of_getElem? hj)) hT
  rw [fields_names] at h
  exact h
theorem namesC_at (i : Nat) (h : i < namesL.length) : namesC[i]? = some (.string ⟨(namesL[i]).toArray⟩) := by
  unfold namesC
  rw [List.getElem?_toArray, List.getElem?_map, List.getElem?_eq_getElem h]; rfl
theorem names_len : namesL.length = 34 := rfl
set_option maxRecDepth 20000 in
set_option maxHeartbeats 2000000 in
theorem named_any (s : ByteArray) (w : World) (hs : s.size ≤ 16777216) (hT : Tabs5 w) :
    Calls Tryd.prog 61 #[.string s] w fun e w' => e = .returned (.tuple #[.int .i64 ((nameP s.data.toList).1 : Int), .int .i64 ((nameP s.data.toList).2 : Int)]) ∧ Below w.heap.size w w' := by
  obtain ⟨R, hR⟩ : ∃ R, nameF s.data.toList namesL 0 (0, 0) = R := ⟨_, rfl⟩
  unfold nameP
  rw [hR]
  have HR := Lib.hid hR
  have F1 := Lib.hid (names_fields w hT.sp)
  have P1 := Lib.hid fun (p : ByteArray) (w : World) => Tryd.strings_HasPrefix s p w
  have HNC := Lib.hid (show ∀ (j : Nat) (h : j < namesL.length), namesC[j]? = some (.string ⟨(namesL[j]).toArray⟩) from fun j h => namesC_at j h)
  have HNL := Lib.hid (show namesL.length = 34 from rfl)
  have HN3 := Lib.hid (show ∀ w ∈ namesL, w.length ≤ 3 by decide +kernel)
  clear hR hT
  generalize namesL = N at *
  generalize hV : Value.tuple #[.int .i64 ((if R.1 = 33 then ((127, R.2) : Nat × Nat) else R).1 : Int), .int .i64 ((if R.1 = 33 then ((127, R.2) : Nat × Nat) else R).2 : Int)] = V
  have HV := Lib.hid hV
  clear hV
  go_enter Tryd.func61, Tryd.ntmps61
  go_wp2_with fail
  refine F1.out.mono ?_
  rintro e w1 ⟨rfl, rfl⟩
  have HB := Lib.hid ((Below.refl w.heap.size w).alloc (Nat.le_refl _) (.cells namesC 9))
  have HC := Lib.hid (show ∀ j, (w.alloc (.cells namesC 9)).cell? ⟨w.heap.size, j, none⟩ = namesC[j]? from fun j => World.cell?_alloc_new _ _ _ _)
  generalize w.alloc (.cells namesC 9) = w1 at *
  go_wp2_with fail
  go_loop [2, 3, 8] (fun cv nv jv => ∃ (j c n : Nat), cv = .int .i64 (c : Int) ∧ nv = .int .i64 (n : Int) ∧ jv = .int .i64 (j : Int) ∧ j ≤ 34 ∧ n ≤ 3 ∧ c ≤ 33 ∧ nameF s.data.toList (N.drop j) j (c, n) = R) (fun _ _ jv => 34 - (intOf jv).toNat)
  case atStart => exact ⟨0, 0, 0, rfl, rfl, rfl, by omega, by omega, by omega, HR.out⟩
  case round =>
    obtain ⟨j, c, n, rfl, rfl, rfl, hj, hn, hc, hF⟩ := hrel
    have HF := Lib.hid hF
    clear hF
    by_cases hj34 : j < 34
    · have hjl : j < N.length := by rw [HNL.out]; exact hj34
      have hcell := HC.out j
      rw [HNC.out j hjl] at hcell
      have hst := HF.out
      rw [List.drop_eq_getElem_cons hjl, nameF_cons] at hst
      have hw3 : (N[j]).length ≤ 3 := HN3.out _ (List.getElem_mem hjl)
      generalize N[j] = x at *
      have hxs : (⟨x.toArray⟩ : ByteArray).size = x.length := by simp only [ByteArray.size, List.size_toArray]
      have p1 := fun w => P1.out ⟨x.toArray⟩ w
      rw [show (⟨x.toArray⟩ : ByteArray).data.toList = x from rfl, show Lib.hasPrefix s.data.toList x = x.isPrefixOf s.data.toList from rfl] at p1
      generalize x.isPrefixOf s.data.toList = q at *
      generalize (⟨x.toArray⟩ : ByteArray) = X at *
      have PP := Lib.hid p1
      have HST := Lib.hid hst
      clear hst p1
      by_cases hlen : n < x.length
      · have t1 : decide ((n : Int) < (X.size : Int)) = true := by rw [hxs]; simp; omega
        have t2 : decide (n < X.size) = true := by rw [hxs]; simp; omega
        cases q with
        | true =>
          have hst := HST.out
          rw [if_pos ⟨hlen, rfl⟩] at hst
          have HS2 := Lib.hid hst
          clear hst
          go_wp2_with (go_at_call 73; refine (PP.out _).mono ?_; rintro e w2 ⟨rfl, rfl⟩)
          go_round
          case rel => exact ⟨j + 1, j, x.length, by go_num, by first | rfl | go_num | rw [hxs], by go_num, by omega, hw3, by omega, HS2.out⟩
          case measure => simp [intOf]; omega
        | false =>
          have hst := HST.out
          rw [if_neg (by simp)] at hst
          have HS2 := Lib.hid hst
          clear hst
          go_wp2_with (go_at_call 73; refine (PP.out _).mono ?_; rintro e w2 ⟨rfl, rfl⟩)
          go_round
          case rel => exact ⟨j + 1, c, n, by go_num, by go_num, by go_num, by omega, hn, hc, HS2.out⟩
          case measure => simp [intOf]; omega
      · have t1 : decide ((n : Int) < (X.size : Int)) = false := by rw [hxs]; simp; omega
        have t2 : decide (n < X.size) = false := by rw [hxs]; simp; omega
        have hst := HST.out
        rw [if_neg (fun h => hlen h.1)] at hst
        have HS2 := Lib.hid hst
        clear hst
        go_wp2_with fail
        go_round
        case rel => exact ⟨j + 1, c, n, by go_num, by go_num, by go_num, by omega, hn, hc, HS2.out⟩
        case measure => simp [intOf]; omega
    · have hj' : j = 34 := by omega
      have hfin := HF.out
      rw [List.drop_of_length_le (by rw [HNL.out]; omega)] at hfin
      have hfin : (c, n) = R := hfin
      have HFI := Lib.hid hfin
      clear hfin hj'
      by_cases h33 : c = 33
      · have t3 : ((c : Int) == 33) = true := by simp; omega
        have HV2 := Lib.hid (show V = .tuple #[.int .i64 127, .int .i64 (n : Int)] from by rw [← HV.out, ← HFI.out, if_pos h33]; rfl)
        clear h33
        go_wp2_with fail
        go_ret2
        exact ⟨by rw [HV2.out]; rfl, HB.out⟩
      · have t3 : ((c : Int) == 33) = false := by simp; omega
        have HV2 := Lib.hid (show V = .tuple #[.int .i64 (c : Int), .int .i64 (n : Int)] from by rw [← HV.out, ← HFI.out, if_neg h33])
        clear h33
        go_wp2_with fail
        go_ret2
        exact ⟨by rw [HV2.out]; rfl, HB.out⟩
end Go.Proofs.YtmgnpgbganjgfaaDoor
