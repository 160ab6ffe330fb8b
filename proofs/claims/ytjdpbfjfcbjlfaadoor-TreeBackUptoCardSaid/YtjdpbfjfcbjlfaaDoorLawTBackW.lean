/- DERIVED. The walk of the law TreeBack. -/
import Derived.Test.YtjdpbfjfcbjlfaaDoorL10Awake
import Derived.Test.YtjdpbfjfcbjlfaaDoorTreeP
import Derived.Test.YtjdpbfjfcbjlfaaDoorBoxRead
set_option linter.unusedSimpArgs false
set_option linter.unusedVariables false
namespace Go.Proofs.YtjdpbfjfcbjlfaaDoor
open Go.RowKit

set_option maxHeartbeats 4000000 in
theorem treeBack_walk (t : Tr) (kv : Value) (w : World) (hl : Lies w t kv) (hs : t.blk ≤ 1048576) :
    Calls Tryd.prog 7 #[nodeV t kv] w fun e w' => e = .returned (.bool true) ∧ Below w.heap.size w w' := by
  have hsz := size_le_blk _ t (Nat.le_refl _)
  obtain ⟨xa, cap, rfl⟩ := hl.shape
  have S1 := fun w h => show2_any t (.slice xa t.kids.length cap) w (by omega) h
  by_cases hm : t.may = true
  · have hrs := read_show t hm
    have hv : showV t = .tuple #[.string ⟨t.showL.toArray⟩, .int .i64 0] := by unfold showV; rw [if_pos hm]
    rw [hv] at S1
    have S1 := Lib.hid S1
    have R1 := fun w => read_any ⟨t.showL.toArray⟩ w
    have hsl : (⟨t.showL.toArray⟩ : ByteArray).size = t.showL.length := by simp [ByteArray.size]
    rw [← hsl] at hrs
    have hbs := bare_same _ t (Nat.le_refl _) hm
    have HL := Lib.hid hl
    have D1 := Lib.hid fun w h => depth_any t.size t (.slice xa t.kids.length cap) w (Nat.le_refl _) (by omega) h
    clear hv hm hl hsl
    generalize (⟨t.showL.toArray⟩ : ByteArray) = s at *
    by_cases h1 : 16777216 < s.size
    · rw [if_pos h1] at hrs
      rw [hrs] at R1
      have R1 := Lib.hid R1
      have t1 : decide ((16777216 : Int) < s.size) = true := by simp; omega
      clear hrs hbs h1
      unfold nodeV
      go_enter Tryd.func7, Tryd.ntmps7
      go_wp2_with fail
      refine (awake_any _).mono ?_
      rintro e w1 ⟨rfl, hb1⟩
      have X1 := Lib.hid ((boxed_new w t (.slice xa t.kids.length cap) _ rfl).below hb1)
      have HB1 := Lib.hid (((Below.refl w.heap.size w).alloc (Nat.le_refl _) _).trans (hb1.mono (by simp)))
      have c0 := X1.out.c0; have c1 := X1.out.c1; have c2 := X1.out.c2; have c3 := X1.out.c3; have c4 := X1.out.c4; have c5 := X1.out.c5
      clear hb1
      go_wp2_with fail
      refine (S1.out _ (HL.out.keep HB1.out)).mono ?_
      rintro e w2 ⟨rfl, hb2⟩
      have HB2 := Lib.hid (Below.then HB1.out hb2)
      have hst := HB2.out.size
      clear hb2 c0 c1 c2 c3 c4 c5
      go_wp2_with fail
      refine (R1.out _).mono ?_
      intro e w3 hp
      obtain ⟨hb3, rfl, _⟩ := hp
      have HB3 := Lib.hid (Below.then HB2.out hb3)
      have hst3 := HB3.out.size
      clear hb3
      unfold nodeV
      simp only [zeroT, Tr.kind, Tr.form, Tr.text, Tr.line, Tr.col]
      go_wp2_with fail
      go_ret
      exact ⟨rfl, HB3.out.alloc hst3 _⟩
    · rw [if_neg h1] at hrs
      have t1 : decide ((16777216 : Int) < s.size) = false := by simp; omega
      clear h1
      by_cases h2 : 1000 < t.depth
      · rw [if_pos h2] at hrs
        rw [hrs] at R1
        have R1 := Lib.hid R1
        have t2 : decide ((1000 : Int) < t.depth) = true := by simp; omega
        clear hrs hbs h2
        unfold nodeV
        go_enter Tryd.func7, Tryd.ntmps7
        go_wp2_with fail
        refine (awake_any _).mono ?_
        rintro e w1 ⟨rfl, hb1⟩
        have X1 := Lib.hid ((boxed_new w t (.slice xa t.kids.length cap) _ rfl).below hb1)
        have HB1 := Lib.hid (((Below.refl w.heap.size w).alloc (Nat.le_refl _) _).trans (hb1.mono (by simp)))
        have c0 := X1.out.c0; have c1 := X1.out.c1; have c2 := X1.out.c2; have c3 := X1.out.c3; have c4 := X1.out.c4; have c5 := X1.out.c5
        clear hb1
        go_wp2_with fail
        refine (S1.out _ (HL.out.keep HB1.out)).mono ?_
        rintro e w2 ⟨rfl, hb2⟩
        have HB2 := Lib.hid (Below.then HB1.out hb2)
        have X2 := Lib.hid (X1.out.below hb2)
        have hst := HB2.out.size
        clear hb2 c0 c1 c2 c3 c4 c5
        go_wp2_with fail
        refine (R1.out _).mono ?_
        intro e w3 hp
        obtain ⟨hb3, rfl, _⟩ := hp
        have HB3 := Lib.hid (Below.then HB2.out hb3)
        have hst3 := HB3.out.size
        have X3 := Lib.hid (fun o => (X2.out.below hb3).alloc o)
        clear hb3
        have c0 := fun o => (X3.out o).c0; have c1 := fun o => (X3.out o).c1; have c2 := fun o => (X3.out o).c2; have c3 := fun o => (X3.out o).c3; have c4 := fun o => (X3.out o).c4; have c5 := fun o => (X3.out o).c5
        unfold nodeV
        simp only [zeroT, Tr.kind, Tr.form, Tr.text, Tr.line, Tr.col]
        simp only [Tr.kind, Tr.form, Tr.text, Tr.line, Tr.col] at c0 c1 c2 c3 c4
        go_wp2_with fail
        refine (D1.out _ (HL.out.keep (HB3.out.alloc hst3 _))).mono ?_
        rintro e w4 ⟨rfl, hb4⟩
        have HB4 := Lib.hid (Below.then (HB3.out.alloc hst3 _) hb4)
        clear hb4 c0 c1 c2 c3 c4 c5
        go_wp2_with fail
        go_ret
        exact ⟨rfl, HB4.out⟩
      · rw [if_neg h2] at hrs
        rw [hrs] at R1
        have R1 := Lib.hid R1
        have t2 : decide ((1000 : Int) < t.depth) = false := by simp; omega
        have E1 := fun kv jv w => same_any t.size t t.bare kv jv w (Nat.le_refl _)
        rw [hbs] at E1
        have E1 := Lib.hid E1
        clear hrs hbs h2
        generalize t.bare = u at *
        unfold nodeV
        go_enter Tryd.func7, Tryd.ntmps7
        go_wp2_with fail
        refine (awake_any _).mono ?_
        rintro e w1 ⟨rfl, hb1⟩
        have X1 := Lib.hid ((boxed_new w t (.slice xa t.kids.length cap) _ rfl).below hb1)
        have HB1 := Lib.hid (((Below.refl w.heap.size w).alloc (Nat.le_refl _) _).trans (hb1.mono (by simp)))
        have c0 := X1.out.c0; have c1 := X1.out.c1; have c2 := X1.out.c2; have c3 := X1.out.c3; have c4 := X1.out.c4; have c5 := X1.out.c5
        clear hb1
        go_wp2_with fail
        refine (S1.out _ (HL.out.keep HB1.out)).mono ?_
        rintro e w2 ⟨rfl, hb2⟩
        have HB2 := Lib.hid (Below.then HB1.out hb2)
        have X2 := Lib.hid (X1.out.below hb2)
        have hst := HB2.out.size
        clear hb2 c0 c1 c2 c3 c4 c5
        go_wp2_with fail
        refine (R1.out _).mono ?_
        intro e w3 hp
        obtain ⟨hb3, jv, rfl, hlu⟩ := hp
        obtain ⟨kx, kc, rfl⟩ := hlu.shape
        have HU3 := Lib.hid hlu.lies
        have HB3 := Lib.hid (Below.then HB2.out hb3)
        have hst3 := HB3.out.size
        have X3 := Lib.hid (fun o => (X2.out.below hb3).alloc o)
        clear hb3 hlu
        have c0 := fun o => (X3.out o).c0; have c1 := fun o => (X3.out o).c1; have c2 := fun o => (X3.out o).c2; have c3 := fun o => (X3.out o).c3; have c4 := fun o => (X3.out o).c4; have c5 := fun o => (X3.out o).c5
        unfold nodeV
        have Y3 := Lib.hid (boxed_new w3 u (.slice kx u.kids.length kc) _ rfl)
        go_wp2_with fail
        refine (D1.out _ (HL.out.keep (HB3.out.alloc hst3 _))).mono ?_
        rintro e w4 ⟨rfl, hb4⟩
        have HB4 := Lib.hid (Below.then (HB3.out.alloc hst3 _) hb4)
        have X4 := Lib.hid ((X3.out _).below hb4)
        have Y4 := Lib.hid (Y3.out.below hb4)
        have HU4 := Lib.hid ((HU3.out.keep ((Below.refl _ _).alloc (Nat.le_refl _) _)).keep hb4)
        clear hb4 c0 c1 c2 c3 c4 c5
        have c0 := X4.out.c0; have c1 := X4.out.c1; have c2 := X4.out.c2; have c3 := X4.out.c3; have c4 := X4.out.c4; have c5 := X4.out.c5
        have d0 := Y4.out.c0; have d1 := Y4.out.c1; have d2 := Y4.out.c2; have d3 := Y4.out.c3; have d4 := Y4.out.c4; have d5 := Y4.out.c5
        go_wp2_with fail
        refine (E1.out _ _ _ (HL.out.keep HB4.out) HU4.out).mono ?_
        rintro e w5 ⟨rfl, hb5⟩
        have HB5 := Lib.hid (Below.then HB4.out hb5)
        clear hb5 c0 c1 c2 c3 c4 c5 d0 d1 d2 d3 d4 d5
        go_wp2_with fail
        go_ret
        exact ⟨rfl, HB5.out⟩
  · have hv : showV t = .tuple #[.string ⟨#[]⟩, .int .i64 100] := by unfold showV; rw [if_neg hm]
    rw [hv] at S1
    have S1 := Lib.hid S1
    have HL := Lib.hid hl
    clear hv hm hl
    unfold nodeV
    go_enter Tryd.func7, Tryd.ntmps7
    go_wp2_with fail
    refine (awake_any _).mono ?_
    rintro e w1 ⟨rfl, hb1⟩
    have X1 := Lib.hid ((boxed_new w t (.slice xa t.kids.length cap) _ rfl).below hb1)
    have HB1 := Lib.hid (((Below.refl w.heap.size w).alloc (Nat.le_refl _) _).trans (hb1.mono (by simp)))
    have c0 := X1.out.c0; have c1 := X1.out.c1; have c2 := X1.out.c2; have c3 := X1.out.c3; have c4 := X1.out.c4; have c5 := X1.out.c5
    clear hb1
    go_wp2_with fail
    refine (S1.out _ (HL.out.keep HB1.out)).mono ?_
    rintro e w2 ⟨rfl, hb2⟩
    have HB2 := Lib.hid (Below.then HB1.out hb2)
    clear hb2 c0 c1 c2 c3 c4 c5
    go_wp2_with fail
    go_ret
    exact ⟨rfl, HB2.out⟩
end Go.Proofs.YtjdpbfjfcbjlfaaDoor
