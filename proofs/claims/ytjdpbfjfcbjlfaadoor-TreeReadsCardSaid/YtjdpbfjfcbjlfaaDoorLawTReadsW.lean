/- DERIVED. The walk of the law TreeReads. -/
import Derived.Test.YtjdpbfjfcbjlfaaDoorL10Awake
import Derived.Test.YtjdpbfjfcbjlfaaDoorRefReadD
import Derived.Test.YtjdpbfjfcbjlfaaDoorTreeF
import Derived.Test.YtjdpbfjfcbjlfaaDoorBoxRead
set_option linter.unusedSimpArgs false
set_option linter.unusedVariables false
namespace Go.Proofs.YtjdpbfjfcbjlfaaDoor
open Go.RowKit

def readT : Except Int Tr → Tr
  | .ok t => t
  | .error _ => zeroT
def readE : Except Int Tr → Int
  | .ok _ => 0
  | .error x => x
def NodeIs (t : Tr) (x : Int) (w : World) (e : Ending) (w' : World) : Prop := Below w.heap.size w w' ∧ ∃ (kv : Value), e = .returned (.tuple #[nodeV t kv, .int .i64 x]) ∧ Lies w' t kv
/-- What both readers answer: one node, and where it lies. -/
theorem readPost_node {R : Except Int Tr} {w : World} {e : Ending} {w' : World} (h : ReadPost R w e w') : NodeIs (readT R) (readE R) w e w' := by
  obtain ⟨hb, hr⟩ := h
  refine ⟨hb, ?_⟩
  cases R with
  | ok t => obtain ⟨kv, he, hl⟩ := hr; exact ⟨kv, he, hl.lies⟩
  | error x => exact ⟨_, hr.1, Lies.leaf ..⟩
set_option maxHeartbeats 2000000 in
theorem treeReads_walk (s : ByteArray) (w : World) :
    Calls Tryd.prog 6 #[.string s] w fun e w' => e = .returned (.bool true) ∧ Below w.heap.size w w' := by
  have R1 : ∀ w, Calls Tryd.prog 22 #[.string s] w fun e w' => NodeIs (readT (readGo s)) (readE (readGo s)) w e w' := fun w => (read_any s w).mono fun _ _ h => readPost_node h
  have R2 : ∀ w, Calls Tryd.prog 23 #[.string s] w fun e w' => NodeIs (readT (readGo s)) (readE (readGo s)) w e w' := fun w => (refRead_any s w).mono fun _ _ h => readPost_node h
  generalize readT (readGo s) = t at R1 R2
  generalize readE (readGo s) = x at R1 R2
  have R1 := Lib.hid R1
  have R2 := Lib.hid R2
  have S1 := fun kv jv w => refAll_any t.size t t kv jv w (Nat.le_refl _)
  rw [alike_refl _ t (Nat.le_refl _)] at S1
  have S1 := Lib.hid S1
  go_enter Tryd.func6, Tryd.ntmps6
  go_wp2_with fail
  refine (R1.out _).mono ?_
  rintro e w1 ⟨hb1, kv, rfl, hl1⟩
  obtain ⟨xa, xc, rfl⟩ := hl1.shape
  have HB1 := Lib.hid hb1
  have HL1 := Lib.hid (hl1.keep ((Below.refl _ _).alloc (Nat.le_refl _) (.cells #[.int .i64 t.kind, .int .i64 t.form, .string t.text, .int .i64 t.line, .int .i64 t.col, .slice xa t.kids.length xc] 24)))
  have X1 := Lib.hid (boxed_new w1 t (.slice xa t.kids.length xc) _ rfl)
  have hst1 := hb1.size
  clear hb1 hl1
  unfold nodeV
  go_wp2_with fail
  refine (R2.out _).mono ?_
  rintro e w2 ⟨hb2, jv, rfl, hl2⟩
  obtain ⟨ya, yc, rfl⟩ := hl2.shape
  have HB2 := Lib.hid (Below.then (HB1.out.alloc hst1 _) hb2)
  have HL2 := Lib.hid (HL1.out.keep hb2)
  have X2 := Lib.hid (X1.out.below hb2)
  have HM2 := Lib.hid hl2
  have Y2 := Lib.hid (boxed_new w2 t (.slice ya t.kids.length yc) _ rfl)
  have hst2 := HB2.out.size
  clear hb2 hl2
  unfold nodeV
  go_wp2_with fail
  refine (awake_any _).mono ?_
  rintro e w3 ⟨rfl, hb3⟩
  have HB3 := Lib.hid (Below.then (HB2.out.alloc hst2 _) hb3)
  have HL3 := Lib.hid ((HL2.out.keep ((Below.refl _ _).alloc (Nat.le_refl _) _)).keep hb3)
  have HM3 := Lib.hid ((HM2.out.keep ((Below.refl _ _).alloc (Nat.le_refl _) _)).keep hb3)
  have X3 := (X2.out.alloc _).below hb3
  have Y3 := Y2.out.below hb3
  have c0 := X3.c0; have c1 := X3.c1; have c2 := X3.c2; have c3 := X3.c3; have c4 := X3.c4; have c5 := X3.c5
  have d0 := Y3.c0; have d1 := Y3.c1; have d2 := Y3.c2; have d3 := Y3.c3; have d4 := Y3.c4; have d5 := Y3.c5
  clear hb3 X3 Y3
  go_wp2_with fail
  refine (S1.out _ _ _ HL3.out HM3.out).mono ?_
  rintro e w4 ⟨rfl, hb4⟩
  have HB4 := Lib.hid (Below.then HB3.out hb4)
  clear hb4 c0 c1 c2 c3 c4 c5 d0 d1 d2 d3 d4 d5
  go_wp2_with fail
  go_ret
  exact ⟨rfl, HB4.out⟩
end Go.Proofs.YtjdpbfjfcbjlfaaDoor
