/- DERIVED. The walk of the law FixityNames. -/
import Derived.Test.YtikkdkacflkifaaDoorL16Awake
import Derived.Test.YtikkdkacflkifaaDoorRefFixD
set_option linter.unusedSimpArgs false
set_option linter.unusedVariables false
namespace Go.Proofs.YtikkdkacflkifaaDoor
open Go.RowKit

set_option maxRecDepth 20000 in
set_option maxHeartbeats 4000000 in
theorem fixityNames_walk (t : Tr) (kv : Value) (w : World) (hs : t.mid.text.size ≤ 1152921504606846976) (hl : Lies w t kv) (hT : Tabs16 w) :
    Calls Tryd.prog 4 #[nodeV t kv] w fun e w' => e = .returned (.bool true) ∧ Below w.heap.size w w' := by
  obtain ⟨x, c, rfl⟩ := hl.shape
  have N1 := fun w hl hT => opName_any t (.slice x t.kids.length c) w hs hl hT
  have N2 := fun w hl => refOpName_any t (.slice x t.kids.length c) w hs hl
  have hne := nameR_eq t
  obtain ⟨⟨s, ok⟩, hp⟩ : ∃ p, nameR t = p := ⟨_, rfl⟩
  rw [hp] at N2 hne
  have HN := Lib.hid (rowN_new w t (.slice x t.kids.length c))
  have HB := Lib.hid ((Below.refl w.heap.size w).alloc (Nat.le_refl _) (.cells #[.int .i64 t.kind, .int .i64 t.form, .string t.text, .int .i64 t.line, .int .i64 t.col, .slice x t.kids.length c] 32))
  have HL := Lib.hid hl
  have HT := Lib.hid hT
  have N2 := Lib.hid N2
  obtain ⟨d0, d1, d2, d3, d4, d5⟩ := HN.out.cells
  clear hl hT hp
  unfold nodeV
  cases ok with
  | true =>
    simp only [if_true] at hne
    rw [hne] at N1
    have N1 := Lib.hid N1
    have t1 : (s.toList == s.toList) = true := by simp
    clear hne
    go_enter Tryd.func4, Tryd.ntmps4
    go_wp2_with fail
    refine (N1.out _ (HL.out.keep HB.out) (HT.out.below HB.out)).mono ?_
    rintro e w1 ⟨rfl, hb1⟩
    have HB1 := Lib.hid (Below.then HB.out hb1)
    have HN1 := Lib.hid (HN.out.keep (hb1.block w.heap.size HN.out.lt))
    obtain ⟨e0, e1, e2, e3, e4, e5⟩ := HN1.out.cells
    clear hb1
    unfold nameV
    go_wp2_with fail
    refine (N2.out _ (HL.out.keep HB1.out)).mono ?_
    rintro e w2 ⟨rfl, hb2⟩
    have HB2 := Lib.hid (Below.then HB1.out hb2)
    clear hb2
    unfold nameRV
    go_wp2_with fail
    refine (awake_any _ (HT.out.below HB2.out)).mono ?_
    rintro e w3 ⟨rfl, hb3⟩
    have HB3 := Lib.hid (Below.then HB2.out hb3)
    clear hb3
    go_wp2_with fail
    go_ret
    exact ⟨rfl, HB3.out⟩
  | false =>
    have hne : nameX t = none := by rw [hne]; rfl
    rw [hne] at N1
    have N1 := Lib.hid N1
    clear hne
    go_enter Tryd.func4, Tryd.ntmps4
    go_wp2_with fail
    refine (N1.out _ (HL.out.keep HB.out) (HT.out.below HB.out)).mono ?_
    rintro e w1 ⟨rfl, hb1⟩
    have HB1 := Lib.hid (Below.then HB.out hb1)
    have HN1 := Lib.hid (HN.out.keep (hb1.block w.heap.size HN.out.lt))
    obtain ⟨e0, e1, e2, e3, e4, e5⟩ := HN1.out.cells
    clear hb1
    unfold nameV
    go_wp2_with fail
    refine (N2.out _ (HL.out.keep HB1.out)).mono ?_
    rintro e w2 ⟨rfl, hb2⟩
    have HB2 := Lib.hid (Below.then HB1.out hb2)
    clear hb2
    unfold nameRV
    go_wp2_with fail
    refine (awake_any _ (HT.out.below HB2.out)).mono ?_
    rintro e w3 ⟨rfl, hb3⟩
    have HB3 := Lib.hid (Below.then HB2.out hb3)
    clear hb3
    go_wp2_with fail
    go_ret
    exact ⟨rfl, HB3.out⟩
#print axioms fixityNames_walk
end Go.Proofs.YtikkdkacflkifaaDoor
