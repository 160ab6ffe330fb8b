/- DERIVED. The walks of number's shortened and power, and of the document's Bare and Short. -/
import Derived.Test.YthcogfceighbpaaDoorNumQ
import Derived.Test.YthcogfceighbpaaDoorNumV
set_option linter.unusedSimpArgs false
set_option linter.unusedVariables false
namespace Go.Proofs.YthcogfceighbpaaDoor
open Go.RowKit

/-- Digits without noughts at both ends, and how many tens more. -/
def shortX (l : List UInt8) (n : Int) : List UInt8 × Int :=
  if Lib.trimLeftB l 48 = [] then ([48], 0) else (Lib.trimRightB (Lib.trimLeftB l 48) 48, n + (Lib.trimLeftB l 48).length - (Lib.trimRightB (Lib.trimLeftB l 48) 48).length)
theorem dropW_le (p : UInt8 → Bool) (l : List UInt8) : (l.dropWhile p).length ≤ l.length := by
  induction l with
  | nil => exact Nat.le_refl _
  | cons a t ih =>
    rw [List.dropWhile_cons]
    split
    · simp only [List.length_cons]; omega
    · exact Nat.le_refl _
theorem trimL_le (l : List UInt8) (c : UInt8) : (Lib.trimLeftB l c).length ≤ l.length := dropW_le _ l
theorem trimR_le (l : List UInt8) (c : UInt8) : (Lib.trimRightB l c).length ≤ l.length := by
  unfold Lib.trimRightB
  rw [List.length_reverse]
  have := dropW_le (· == c) l.reverse
  rw [List.length_reverse] at this; exact this
def shortV (p : List UInt8 × Int) : Value := .tuple #[.string ⟨p.1.toArray⟩, .int .i64 p.2]
set_option maxHeartbeats 1000000 in
theorem shortened_any (s : ByteArray) (n : Int) (w : World) (hs : s.size ≤ 1152921504606846976) (hn : -4611686018427387904 ≤ n) (hn2 : n ≤ 4611686018427387904) :
    Calls Tryd.prog 36 #[.string s, .int .i64 n] w fun e w' => e = .returned (shortV (shortX s.data.toList n)) ∧ w' = w := by
  have T1 := fun w => Tryd.strings_TrimLeft_one s 48 (by decide) w
  obtain ⟨R, hR⟩ : ∃ R, shortX s.data.toList n = R := ⟨_, rfl⟩
  rw [hR]
  unfold shortX at hR
  have hl := trimL_le s.data.toList 48
  rw [← Lib.size_eq] at hl
  generalize Lib.trimLeftB s.data.toList 48 = d at *
  have hds : (⟨d.toArray⟩ : ByteArray).size = d.length := by simp [ByteArray.size]
  have T2 := fun w => Tryd.strings_TrimRight_one ⟨d.toArray⟩ 48 (by decide) w (by omega)
  have hr := trimR_le d 48
  rw [show (⟨d.toArray⟩ : ByteArray).data.toList = d from rfl] at T2
  generalize Lib.trimRightB d 48 = m at *
  have hms : (⟨m.toArray⟩ : ByteArray).size = m.length := by simp [ByteArray.size]
  have T1 := Lib.hid T1
  have T2 := Lib.hid T2
  by_cases h0 : d = []
  · have HR := Lib.hid (show R = ([48], 0) from by rw [← hR, if_pos h0])
    subst h0
    have t0 : (⟨([] : List UInt8).toArray⟩ : ByteArray).toList = [] := by rw [Lib.toList_data]
    have t1 : ((⟨([] : List UInt8).toArray⟩ : ByteArray).toList == []) = true := by rw [t0]; rfl
    have t2 : (⟨([] : List UInt8).toArray⟩ : ByteArray).toList.isEmpty = true := by rw [t0]; rfl
    clear hR hds hms hr hl t0
    generalize (⟨([] : List UInt8).toArray⟩ : ByteArray) = z at *
    go_enter Tryd.func36, Tryd.ntmps36
    go_wp2_with fail
    refine (T1.out _).mono ?_
    rintro e w1 ⟨rfl, rfl⟩
    go_wp2_with fail
    go_ret2
    exact ⟨by rw [HR.out]; rfl, rfl⟩
  · have HR := Lib.hid (show R = (m, n + d.length - m.length) from by rw [← hR, if_neg h0])
    have HDS := Lib.hid hds
    have HMS := Lib.hid hms
    have t0 : (⟨d.toArray⟩ : ByteArray).toList ≠ [] := by rw [Lib.toList_data]; exact h0
    have t1 : ((⟨d.toArray⟩ : ByteArray).toList == []) = false := by simpa using t0
    have t2 : (⟨d.toArray⟩ : ByteArray).toList.isEmpty = false := by simpa using t0
    have hb1 : (⟨d.toArray⟩ : ByteArray).size ≤ 1152921504606846976 := by omega
    have hb2 : (⟨m.toArray⟩ : ByteArray).size ≤ (⟨d.toArray⟩ : ByteArray).size := by omega
    clear hR hds hms hr hl h0 t0
    generalize hdz : (⟨d.toArray⟩ : ByteArray) = z at *
    generalize hmy : (⟨m.toArray⟩ : ByteArray) = y at *
    have HY := Lib.hid hmy
    clear hdz hmy
    go_enter Tryd.func36, Tryd.ntmps36
    go_wp2_with fail
    refine (T1.out _).mono ?_
    rintro e w1 ⟨rfl, rfl⟩
    go_wp2_with fail
    refine (T2.out _).mono ?_
    rintro e w2 ⟨rfl, rfl⟩
    go_wp2_with fail
    go_ret2
    exact ⟨by rw [HR.out]; unfold shortV; simp only [HY.out, ← HDS.out, ← HMS.out]; first | rfl | go_num, rfl⟩

/-- What an exponent's sign and digits are worth; none: too much. -/
def powL : List UInt8 → Int → Int → Option Int
  | [], n, sg => some (sg * n)
  | c :: t, n, sg => if c = 43 then powL t n sg else if c = 45 then powL t n (-1) else if 1000000000 < n * 10 + ((c.toNat : Int) - 48) then none else powL t (n * 10 + ((c.toNat : Int) - 48)) sg
def powV : Option Int → Value
  | some n => .tuple #[.int .i64 n, .bool true]
  | none => .tuple #[.int .i64 0, .bool false]
def expByte (b : UInt8) : Prop := b = 43 ∨ b = 45 ∨ (48 ≤ b.toNat ∧ b.toNat ≤ 57)
set_option maxRecDepth 20000 in
set_option maxHeartbeats 4000000 in
theorem power_any (s : ByteArray) (w : World) (hs : s.size ≤ 1152921504606846976) (h0 : 0 < s.size) (hb : ∀ b ∈ s.data.toList.drop 1, expByte b) :
    Calls Tryd.prog 34 #[.string s] w fun e w' => e = .returned (powV (powL (s.data.toList.drop 1) 0 1)) ∧ Below w.heap.size w w' := by
  obtain ⟨V, hV⟩ : ∃ V, powL (s.data.toList.drop 1) 0 1 = V := ⟨_, rfl⟩
  rw [hV]
  rw [← cut_data s 1] at hV hb
  have HV := Lib.hid hV
  have HB := Lib.hid hb
  obtain ⟨t0, t1⟩ := full_l h0
  have hsz : (s.extract 1 s.size).size = s.size - 1 := cut_size s 1 h0
  have hcs : (s.extract 1 s.size).size ≤ 1152921504606846976 := by omega
  have HD := Lib.hid fun pos => decode_eq (s.extract 1 s.size) pos
  clear hV hb hsz
  go_enter Tryd.func34, Tryd.ntmps34
  go_wp2_with fail
  generalize hc : s.extract 1 s.size = c at *
  clear hc
  go_loopw [4, 5] (fun nv sv wr => ∃ (pos : Nat) (n sg : Int), nv = .int .i64 n ∧ sv = .int .i64 sg ∧ Iter w c pos wr ∧ pos ≤ c.size ∧ 0 ≤ n ∧ n ≤ 1000000000 ∧ (sg = 1 ∨ sg = -1) ∧ powL (c.data.toList.drop pos) n sg = V) (fun _ _ wr => c.size - wr.iterPos w.heap.size)
  case atStart => exact ⟨0, 0, 1, rfl, rfl, Iter.start _ _, Nat.zero_le _, by omega, by omega, .inl rfl, by simpa using HV.out⟩
  case round =>
    obtain ⟨pos, n, sg, rfl, rfl, hI, hpl0, hx0, hx1, hsg, hL⟩ := hrel
    have HP := Lib.hid (iterPos_at hI)
    have HL := Lib.hid hL
    clear hL
    by_cases hp : pos < c.size
    · have hpl : pos < c.data.toList.length := by rw [← Lib.size_eq]; exact hp
      have hnx : ∀ ty, (Instr.next (.pointer (some ⟨w.heap.size, 0, none⟩)) true ty).run Tryd.prog wr = _ := fun ty => Lib.run_next_any_at wr w.heap.size c pos ty hI.1 hp
      rw [HD.out] at hnx
      have hbb := HB.out _ (List.getElem_mem hpl)
      have hdrop := List.drop_eq_getElem_cons hpl
      generalize c.data.toList[pos] = b at hbb hdrop
      have hb128 : b.toNat < 128 := by rcases hbb with rfl | rfl | h <;> first | decide | omega
      have hdec : dec (c.data.toList.drop pos) = (b.toNat, 1) := by rw [hdrop]; have := dec_ascii (b :: c.data.toList.drop (pos + 1)) (by simpa using hb128); simpa using this
      rw [hdec] at hnx
      have hI2 := hI.next (pos + 1)
      have hL2 := HL.out
      rw [hdrop, powL] at hL2
      have hlt : pos + 1 ≤ c.size := hp
      obtain ⟨y43, n43⟩ := byteK b 43 43 rfl (by decide)
      obtain ⟨y45, n45⟩ := byteK b 45 45 rfl (by decide)
      clear hdec hdrop hpl
      by_cases h43 : b = 43
      · rw [if_pos h43] at hL2
        have q1 := (y43 h43).1
        have HL2 := Lib.hid hL2
        clear hL2 y43 n43 y45 n45 h43 hbb
        go_wp2_with fail
        go_roundw
        case rel => exact ⟨pos + 1, n, sg, rfl, rfl, hI2, hlt, hx0, hx1, hsg, HL2.out⟩
        case measure =>
          rw [HP.out, iterPos_at hI2]; omega
      · rw [if_neg h43] at hL2
        have q1 := (n43 h43).1
        by_cases h45 : b = 45
        · rw [if_pos h45] at hL2
          have q2 := (y45 h45).1
          have HL2 := Lib.hid hL2
          clear hL2 y43 n43 y45 n45 h43 h45 hbb
          go_wp2_with fail
          go_roundw
          case rel => exact ⟨pos + 1, n, -1, rfl, rfl, hI2, hlt, hx0, hx1, .inr rfl, HL2.out⟩
          case measure =>
            rw [HP.out, iterPos_at hI2]; omega
        · rw [if_neg h45] at hL2
          have q2 := (n45 h45).1
          have hdg : 48 ≤ b.toNat ∧ b.toNat ≤ 57 := (hbb.resolve_left h43).resolve_left h45
          have d0 : (48 : Int) ≤ b.toNat := by omega
          have d1 : (b.toNat : Int) ≤ 57 := by omega
          clear y43 n43 y45 n45 h43 h45 hbb
          by_cases ho : 1000000000 < n * 10 + ((b.toNat : Int) - 48)
          · rw [if_pos ho] at hL2
            have HR2 := Lib.hid hL2.symm
            clear hL2
            go_wp2_with fail
            go_ret2
            exact ⟨by rw [HR2.out]; rfl, hI2.2⟩
          · rw [if_neg ho] at hL2
            have HL2 := Lib.hid hL2
            have hm : n * 10 + ((b.toNat : Int) - 48) ≤ 1000000000 := by omega
            clear hL2
            go_wp2_with fail
            go_roundw
            case rel => exact ⟨pos + 1, n * 10 + ((b.toNat : Int) - 48), sg, by first | rfl | go_num, rfl, hI2, hlt, by omega, hm, hsg, HL2.out⟩
            case measure =>
              rw [HP.out, iterPos_at hI2]; omega
    · have hpl : c.data.toList.length ≤ pos := by rw [← Lib.size_eq]; omega
      have hnx : ∀ ty, (Instr.next (.pointer (some ⟨w.heap.size, 0, none⟩)) true ty).run Tryd.prog wr = _ := fun ty => Lib.run_next_end_at wr w.heap.size c pos ty hI.1 hp
      have HR2 := Lib.hid (show V = some (sg * n) from by
        have h := HL.out
        rw [List.drop_eq_nil_of_le hpl, powL] at h
        exact h.symm)
      rcases hsg with rfl | rfl
      all_goals
        go_wp2_with fail
        go_ret2
        exact ⟨by rw [HR2.out]; exact congrArg (fun z : Int => Ending.returned (.tuple #[.int .i64 z, .bool true])) (by omega), hI.2⟩
end Go.Proofs.YthcogfceighbpaaDoor
