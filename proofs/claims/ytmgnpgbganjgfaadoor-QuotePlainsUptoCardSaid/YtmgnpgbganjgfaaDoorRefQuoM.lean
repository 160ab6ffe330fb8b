/- DERIVED. The walk of the document's Read. DERIVED. The walks of the document's Scan and Runes. -/
import Derived.Test.YtmgnpgbganjgfaaDoorRefQuoL
import Derived.Test.YtmgnpgbganjgfaaDoorQuoteZ
import Derived.Test.YtmgnpgbganjgfaaDoorQuoV
set_option linter.unusedSimpArgs false
set_option linter.unusedVariables false
namespace Go.Proofs.YtmgnpgbganjgfaaDoor
open Go.RowKit

theorem results_tmp4 {fn : Func} {t u v x : Tmp} (h : fn.results = #[.tmp t, .tmp u, .tmp v, .tmp x]) (tmps : Array Value) (P : Program) (w : World) :
    (results fn tmps).run P w = .ok (.tuple #[tmps.getD t undef, tmps.getD u undef, tmps.getD v undef, tmps.getD x undef]) w := by
  simp [results, h]
theorem OwnsI.keep {w w' : World} {B : Nat} {v : Value} {l : List Int} (h : OwnsI w B v l) (hb : Below w.heap.size w w') : OwnsI w' B v l :=
  row_keep h fun g cur hg => hb.block g (Array.getElem?_eq_some_iff.1 hg).1
theorem OwnsI.shape {w : World} {B : Nat} {v : Value} {l : List Int} (h : OwnsI w B v l) : ∃ a c, v = .slice a l.length c := by
  obtain ⟨_, ⟨rfl, h0⟩ | ⟨g, cap, cur, rfl, _⟩⟩ := h
  · exact ⟨none, 0, by rw [h0]⟩
  · exact ⟨_, _, rfl⟩
theorem OwnsI.nil (w : World) (B : Nat) : OwnsI w B (.slice none 0 0) [] := World.ownsRow_nil _ _ _ _
/-- One number more to a row of the call's own. -/
theorem int_app {ops : Array Oper} {rest : List Oper} {o : Oper} {a : Act} {Q : Exit → Act → World → Prop} (hgd : o.guard = none) (sl x : Operand)
    (ho : o.op = .call { callee := .builtin .append, args := #[sl, x], argTypes := #[27, 27] })
    (B : Nat) (vo : Value) (out : List Int) (W0 w0 : World) (hown : OwnsI w0 B vo out) (hB : B ≤ w0.heap.size) (hb : Below B W0 w0)
    (hs : a.eval sl = vo) (c : Int) (hx : a.eval x = .slice (some ⟨w0.heap.size, 0, none⟩) 1 1) (hlen : out.length ≤ 33554432)
    (h : ∀ v' w', OwnsI w' B v' (out ++ [c]) → Below B W0 w' → wpList Tryd.prog ops Q rest (a.put o.dst v') w') :
    wpList Tryd.prog ops Q (o :: rest) a (w0.alloc (.cells #[.int .i64 c] 3)) := by
  obtain ⟨i0, hi0, hz0, hz1, hz2⟩ := int_info
  have hown2 : (w0.alloc (.cells #[.int .i64 c] 3)).ownsRow B 3 1 vo out.length (out.map intC) :=
    row_keep hown fun g cur hg => Below.heap_alloc w0 _ g (Array.getElem?_eq_some_iff.1 hg).1
  refine wpList_append_own _ hgd sl x 27 ho B 3 i0 (.int .i64 0) 1 8 Tryd.underlying27 hi0 hz0 hz1 hz2 rfl (by decide) vo out.length (out.map intC) hs hown2 ⟨w0.heap.size, 0, none⟩ 1 1 [intC c] hx rfl
    (World.news_of_block (heap_alloc_new w0 (.cells #[.int .i64 c] 3 (0, 0)))) (by intro u hu; simp at hu; subst hu; rfl) (by unfold maxLen; omega) (by omega) (by simp; omega) ?_
  intro v' w' h2 h3 _
  refine h v' w' ?_ ?_
  · unfold OwnsI
    rw [List.length_append, List.map_append]
    exact h2
  · exact (hb.alloc hB _).grown h3 (by simp; omega) (fun k hk => (World.ownsRow.lt hown2 k hk).1)
theorem oneP_val (text : Bool) (l : List UInt8) (c : Int) (n : Nat) (h : oneP text l = .ok (c, n)) : c = -2 ∨ 0 ≤ c := by
  cases l with
  | nil => cases h
  | cons b t =>
    rw [oneP_cons] at h
    unfold oneC at h
    split at h
    · split at h
      · simp only [Except.ok.injEq, Prod.mk.injEq] at h; omega
      · cases he : escP t with
        | none => rw [he] at h; cases h
        | some p =>
          obtain ⟨v, m⟩ := p
          have := escP_val _ _ _ he
          rw [he] at h
          simp only at h
          split at h
          · cases h
          · simp only [Except.ok.injEq, Prod.mk.injEq] at h
            omega
    · split at h
      · cases h
      · simp only [Except.ok.injEq, Prod.mk.injEq] at h
        omega
/-- What the document's Read gives back. -/
def ReadRef (w : World) (P : Nat × RT) (e : Ending) (w' : World) : Prop :=
  Below w.heap.size w w' ∧ ((P.2.e = 0 ∧ ∃ v, e = .returned (.tuple #[.int .i64 (P.1 : Int), v, .int .i64 (P.2.till : Int), .int .i64 0]) ∧ OwnsI w' w.heap.size v P.2.out) ∨
    (P.2.e ≠ 0 ∧ e = .returned (.tuple #[.int .i64 0, .slice none 0 0, .int .i64 (P.2.till : Int), .int .i64 P.2.e])))
set_option maxHeartbeats 4000000 in
theorem refRead_none (s : ByteArray) (i : Int) (w : World) (hs : s.size ≤ 16777216) (hn : ¬ (0 ≤ i ∧ i < s.data.toList.length ∧ s.data.toList[i.toNat]? = some 34)) (hn2 : ¬ (0 ≤ i ∧ i < s.data.toList.length ∧ s.data.toList[i.toNat]? = some 39)) :
    Calls Tryd.prog 21 #[.string s, .int .i64 i] w (ReadRef w (0, ⟨0, 0, [], []⟩)) := by
  rw [← Lib.size_eq] at hn hn2
  have hcase : i < 0 ∨ (0 ≤ i ∧ (s.size : Int) ≤ i) ∨ ∃ k : Nat, i = k ∧ ∃ h : k < s.size, s[k] ≠ 34 ∧ s[k] ≠ 39 := by
    by_cases h0 : i < 0
    · exact .inl h0
    · by_cases h1 : (s.size : Int) ≤ i
      · exact .inr (.inl ⟨by omega, h1⟩)
      · obtain ⟨k, rfl⟩ := Int.eq_ofNat_of_zero_le (show 0 ≤ i by omega)
        rw [Int.toNat_natCast] at hn hn2
        have hk : k < s.size := by omega
        rw [byte_get s k hk] at hn hn2
        exact .inr (.inr ⟨k, rfl, hk, fun e => hn ⟨by omega, by omega, by rw [e]⟩, fun e => hn2 ⟨by omega, by omega, by rw [e]⟩⟩)
  clear hn hn2
  rcases hcase with h0 | ⟨h0, h1⟩ | ⟨k, rfl, hk, h34, h39⟩
  · have t1 : decide (i < 0) = true := decide_eq_true h0
    go_enter Tryd.func21, Tryd.ntmps21
    go_wp2_with fail
    (try simp only [Exit.inBlock, Exit.then])
    refine bodyPost_ret (results_tmp4 rfl _ _ _) rfl ?_
    exact ⟨Below.refl _ _, .inl ⟨rfl, _, rfl, OwnsI.nil _ _⟩⟩
  · have t1 : decide (i < 0) = false := by simp; omega
    have t2 : decide ((s.size : Int) ≤ i) = true := decide_eq_true h1
    go_enter Tryd.func21, Tryd.ntmps21
    go_wp2_with fail
    (try simp only [Exit.inBlock, Exit.then])
    refine bodyPost_ret (results_tmp4 rfl _ _ _) rfl ?_
    exact ⟨Below.refl _ _, .inl ⟨rfl, _, rfl, OwnsI.nil _ _⟩⟩
  · have t1 : decide ((k : Int) < 0) = false := by simp
    have t2 : decide ((s.size : Int) ≤ k) = false := by simp; omega
    have t3 : decide (s.size ≤ k) = false := by simp; omega
    have q1 := (u8K s[k] 34 34 rfl (by decide)).2 h34
    have q2 := (u8K s[k] 39 39 rfl (by decide)).2 h39
    have q3 : ((s[k].toNat : Int) != 34) = true := by simpa using q1
    have q4 : ((s[k].toNat : Int) != 39) = true := by simpa using q2
    go_enter Tryd.func21, Tryd.ntmps21
    go_wp2_with fail
    (try simp only [Exit.inBlock, Exit.then])
    refine bodyPost_ret (results_tmp4 rfl _ _ _) rfl ?_
    exact ⟨Below.refl _ _, .inl ⟨rfl, _, rfl, OwnsI.nil _ _⟩⟩
set_option maxRecDepth 20000 in
set_option maxHeartbeats 8000000 in
theorem refRead_text (s : ByteArray) (i : Nat) (w : World) (hs : s.size ≤ 16777216) (hi : i < s.size) (hq : s[i] = 34) :
    Calls Tryd.prog 21 #[.string s, .int .i64 i] w (ReadRef w (14, readT s.data.toList (i + 1))) := by
  obtain ⟨T, hT⟩ : ∃ T, readT s.data.toList (i + 1) = T := ⟨_, rfl⟩
  rw [hT]
  have HT := Lib.hid hT
  clear hT
  have b1 : (0 : Int) ≤ (i : Int) := by omega
  have b2 : (i : Int) < s.size := by omega
  have b3 : (i : Int).toNat = i := by omega
  have t1 : decide ((i : Int) < 0) = false := by simp
  have t2 : decide ((s.size : Int) ≤ i) = false := by simp; omega
  have t2b : decide (s.size ≤ i) = false := by simp; omega
  have hx : (s[i].toNat : Int) = 34 := by rw [hq]; rfl
  have q1 : ((s[i].toNat : Int) == 34) = true := by rw [hx]; rfl
  have q2 : ((s[i].toNat : Int) != 34) = false := by rw [hx]; rfl
  have q3 : ((s[i].toNat : Int) == 39) = false := by rw [hx]; rfl
  have q4 : ((s[i].toNat : Int) != 39) = true := by rw [hx]; rfl
  have HX := Lib.hid hx
  have HI := Lib.hid hi
  clear hx hq
  go_enter Tryd.func21, Tryd.ntmps21
  go_wp2_with fail
  go_quiet (fail)
  rename_i nq
  have HB0 := Lib.hid (below_drewN (Below.refl w.heap.size w) nq)
  generalize (s[i].toNat : Int) = x at *
  go_wp2_with fail
  generalize w.drewN nq = w1 at *
  clear b1 b2 b3
  go_loopw [10, 11] (fun lv kv wr => ∃ (k : Nat) (out : List Int), kv = .int .i64 (k : Int) ∧ OwnsI wr w.heap.size lv out ∧ Below w.heap.size w wr ∧ i + 1 ≤ k ∧ k ≤ s.size ∧ out.length ≤ k ∧ T.e = (readT s.data.toList k).e ∧ T.till = (readT s.data.toList k).till ∧ T.out = out ++ (readT s.data.toList k).out) (fun _ kv _ => s.size - (intOf kv).toNat)
  case atStart => exact ⟨i + 1, [], by go_num, OwnsI.nil _ _, HB0.out, by omega, by have := HI.out; omega, by simp, by rw [HT.out], by rw [HT.out], by rw [HT.out]; rfl⟩
  case round =>
    obtain ⟨k, out, rfl, hown, hb, hik, hks, hol, h1, h2, h3⟩ := hrel
    obtain ⟨a, cp, rfl⟩ := hown.shape
    have HO := Lib.hid hown
    have HB := Lib.hid hb
    have H1 := Lib.hid h1
    have H2 := Lib.hid h2
    have H3 := Lib.hid h3
    have HKL := Lib.hid (show k < s.data.toList.length ↔ k < s.size by rw [← Lib.size_eq])
    have o1 := fun w => refOne_any s k true w hs hks
    clear hown hb h1 h2 h3
    by_cases h34 : s.data.toList[k]? = some 34
    · have hks2 : k < s.size := by rw [← HKL.out]; exact (List.getElem?_eq_some_iff.1 h34).1
      have t3 : decide ((k : Int) < s.size) = true := by simp; omega
      have t4 : decide (k < s.size) = true := by simp; omega
      have hk34 : s[k] = 34 := by rw [byte_get s k hks2] at h34; exact Option.some.inj h34
      have q5 : ((s[k].toNat : Int) == x) = true := by rw [hk34, HX.out]; rfl
      have e1 := H1.out; have e2 := H2.out; have e3 := H3.out
      rw [readT_quote _ _ h34] at e1 e2 e3
      have HE1 := Lib.hid e1; have HE2 := Lib.hid e2; have HE3 := Lib.hid e3
      clear e1 e2 e3 h34 hk34 o1
      go_wp2_with fail
      (try simp only [Exit.inBlock, Exit.then])
      refine bodyPost_ret (results_tmp4 rfl _ _ _) rfl ?_
      exact ⟨HB.out, .inl ⟨HE1.out, _, by rw [HE2.out]; rfl, by rw [HE3.out, List.append_nil]; exact HO.out⟩⟩
    · by_cases hk2 : k < s.size
      · have t3 : decide ((k : Int) < s.size) = true := by simp; omega
        have t4 : decide (k < s.size) = true := by simp; omega
        have hk34 : s[k] ≠ 34 := fun h => h34 (by rw [byte_get s k hk2, h])
        have q5 : ((s[k].toNat : Int) == x) = false := by rw [HX.out]; exact (u8K s[k] 34 34 rfl (by decide)).2 hk34
        cases hone : oneP true (s.data.toList.drop k) with
        | error e0 =>
          have he0 := oneP_error _ _ _ hone
          have q6 : (e0 != 0) = true := by rw [bne_iff_ne]; exact he0
          have q7 : (e0 == 0) = false := beq_eq_false_iff_ne.2 he0
          rw [hone] at o1
          unfold oneV at o1
          simp only at o1
          have O1 := Lib.hid o1
          have e1 := H1.out; have e2 := H2.out
          rw [readT_bad _ _ e0 (HKL.out.2 hk2) h34 hone] at e1 e2
          have HE1 := Lib.hid e1; have HE2 := Lib.hid e2
          have HE0 := Lib.hid he0
          clear e1 e2 h34 hk34 o1 hone he0
          go_wp2_with fail
          refine (O1.out _).mono ?_
          rintro e w2 ⟨rfl, hb2⟩
          have HB2 := Lib.hid (HB.out.trans (hb2.mono HB.out.size))
          have HO2 := Lib.hid (HO.out.keep hb2)
          clear hb2
          go_wp2_with fail
          (try simp only [Exit.inBlock, Exit.then])
          refine bodyPost_ret (results_tmp4 rfl _ _ _) rfl ?_
          exact ⟨HB2.out, .inr ⟨by rw [HE1.out]; exact HE0.out, by rw [HE2.out, HE1.out]; rfl⟩⟩
        | ok p =>
          obtain ⟨c, n⟩ := p
          have hval := oneP_val _ _ _ _ hone
          obtain ⟨hb1, hb2⟩ := oneP_bd _ _ _ _ hone
          rw [List.length_drop, ← Lib.size_eq] at hb2
          rw [hone] at o1
          unfold oneV at o1
          simp only at o1
          have O1 := Lib.hid o1
          have e1 := H1.out; have e2 := H2.out; have e3 := H3.out
          rw [readT_on _ _ c n (HKL.out.2 hk2) h34 hone] at e1 e2 e3
          unfold RT.more at e1 e2 e3
          simp only at e1 e2 e3
          have HE1 := Lib.hid e1; have HE2 := Lib.hid e2
          by_cases hc : c = -2
          · rw [if_pos hc] at e3
            have HE3 := Lib.hid e3
            have q8 : decide ((0 : Int) ≤ c) = false := by simp; omega
            clear e1 e2 e3 h34 hk34 o1 hone hval hc
            go_wp2_with fail
            refine (O1.out _).mono ?_
            rintro e w2 ⟨rfl, hb2⟩
            have HB2 := Lib.hid (HB.out.trans (hb2.mono HB.out.size))
            have HO2 := Lib.hid (HO.out.keep hb2)
            clear hb2
            go_wp2_with fail
            go_roundw
            case rel => exact ⟨k + n, out, by go_num, HO2.out, HB2.out, by omega, by omega, by omega, HE1.out, HE2.out, HE3.out⟩
            case measure => simp [intOf]; omega
          · rw [if_neg hc] at e3
            have HE3 := Lib.hid (show T.out = (out ++ [c]) ++ (readT s.data.toList (k + n)).out from by rw [e3]; simp)
            have q8 : decide ((0 : Int) ≤ c) = true := by simp; omega
            have HLEN := Lib.hid (show (out ++ [c]).length ≤ k + n from by rw [List.length_append]; simp; omega)
            clear e1 e2 e3 h34 hk34 o1 hone hval hc
            go_wp2_with fail
            refine (O1.out _).mono ?_
            rintro e w2 ⟨rfl, hb2⟩
            have HB2 := Lib.hid (HB.out.trans (hb2.mono HB.out.size))
            have HO2 := Lib.hid (HO.out.keep hb2)
            clear hb2
            go_wp2_with (at_builtin; refine int_app rfl _ _ rfl w.heap.size (.slice a out.length cp) out w w2 HO2.out HB2.out.size HB2.out ?hs1 c ?hx1 (by omega) ?_; (case hs1 => rfl); (case hx1 => rfl); intro v3 w3 ho3 hb3)
            have HB3 := Lib.hid hb3
            have HO3 := Lib.hid ho3
            clear hb3 ho3
            go_wp2_with fail
            go_roundw
            case rel => exact ⟨k + n, out ++ [c], by go_num, HO3.out, HB3.out, by omega, by omega, HLEN.out, HE1.out, HE2.out, HE3.out⟩
            case measure => simp [intOf]; omega
      · have t3 : decide ((k : Int) < s.size) = false := by simp; omega
        have t4 : decide (k < s.size) = false := by simp; omega
        have hnil : s.data.toList.drop k = [] := List.drop_of_length_le (by rw [← Lib.size_eq]; omega)
        rw [hnil, oneP_nil] at o1
        unfold oneV at o1
        simp only at o1
        have O1 := Lib.hid o1
        have e1 := H1.out; have e2 := H2.out
        rw [readT_end _ _ (by rw [← Lib.size_eq]; omega)] at e1 e2
        have HE1 := Lib.hid e1; have HE2 := Lib.hid e2
        clear e1 e2 h34 o1 hnil
        go_wp2_with fail
        refine (O1.out _).mono ?_
        rintro e w2 ⟨rfl, hb2⟩
        have HB2 := Lib.hid (HB.out.trans (hb2.mono HB.out.size))
        have HO2 := Lib.hid (HO.out.keep hb2)
        clear hb2
        go_wp2_with fail
        (try simp only [Exit.inBlock, Exit.then])
        refine bodyPost_ret (results_tmp4 rfl _ _ _) rfl ?_
        exact ⟨HB2.out, .inr ⟨by rw [HE1.out]; show (50 : Int) ≠ 0; decide, by rw [HE2.out, HE1.out]; rfl⟩⟩
set_option maxRecDepth 20000 in
set_option maxHeartbeats 8000000 in
theorem refRead_char (s : ByteArray) (i : Nat) (w : World) (hs : s.size ≤ 16777216) (hi : i < s.size) (hq : s[i] = 39) :
    Calls Tryd.prog 21 #[.string s, .int .i64 i] w (ReadRef w (13, readC s.data.toList (i + 1))) := by
  obtain ⟨T, hT⟩ : ∃ T, readC s.data.toList (i + 1) = T := ⟨_, rfl⟩
  rw [hT]
  unfold readC at hT
  have HT := Lib.hid hT
  clear hT
  have b1 : (0 : Int) ≤ (i : Int) := by omega
  have b2 : (i : Int) < s.size := by omega
  have b3 : (i : Int).toNat = i := by omega
  have t1 : decide ((i : Int) < 0) = false := by simp
  have t2 : decide ((s.size : Int) ≤ i) = false := by simp; omega
  have t2b : decide (s.size ≤ i) = false := by simp; omega
  have hx : (s[i].toNat : Int) = 39 := by rw [hq]; rfl
  have q1 : ((s[i].toNat : Int) == 34) = false := by rw [hx]; rfl
  have q2 : ((s[i].toNat : Int) != 34) = true := by rw [hx]; rfl
  have q3 : ((s[i].toNat : Int) == 39) = true := by rw [hx]; rfl
  have q4 : ((s[i].toNat : Int) != 39) = false := by rw [hx]; rfl
  have HX := Lib.hid hx
  have HI := Lib.hid hi
  clear hx hq
  go_enter Tryd.func21, Tryd.ntmps21
  go_wp2_with fail
  go_quiet (fail)
  rename_i nq
  have HB0 := Lib.hid (below_drewN (Below.refl w.heap.size w) nq)
  generalize (s[i].toNat : Int) = x at *
  go_wp2_with fail
  generalize w.drewN nq = w1 at *
  clear b1 b2 b3
  go_loopw [10, 11] (fun lv kv wr => ∃ (k : Nat) (out : List Int), kv = .int .i64 (k : Int) ∧ OwnsI wr w.heap.size lv out ∧ Below w.heap.size w wr ∧ k ≤ s.size ∧ ((k = i + 1 ∧ out = []) ∨ (i + 1 < k ∧ out.length = 1 ∧ T = if s.data.toList[k]? = some 39 then ⟨0, k + 1, out, []⟩ else ⟨50, k, [], []⟩))) (fun _ kv _ => s.size - (intOf kv).toNat)
  case atStart => exact ⟨i + 1, [], by go_num, OwnsI.nil _ _, HB0.out, by have := HI.out; omega, .inl ⟨rfl, rfl⟩⟩
  case round =>
    obtain ⟨k, out, rfl, hown, hb, hks, hcase⟩ := hrel
    obtain ⟨a, cp, rfl⟩ := hown.shape
    have HO := Lib.hid hown
    have HB := Lib.hid hb
    have HKL := Lib.hid (show k < s.data.toList.length ↔ k < s.size by rw [← Lib.size_eq])
    have o1 := fun w => refOne_any s k false w hs hks
    clear hown hb
    rcases hcase with ⟨hk, rfl⟩ | ⟨hk, hl1, hTe⟩
    · have ht := HT.out
      rw [← hk] at ht
      have HK := Lib.hid hk
      clear hk
      simp only [List.length_nil] at HO ⊢
      by_cases h39 : s.data.toList[k]? = some 39
      · have hks2 : k < s.size := by rw [← HKL.out]; exact (List.getElem?_eq_some_iff.1 h39).1
        have t3 : decide ((k : Int) < s.size) = true := by simp; omega
        have t4 : decide (k < s.size) = true := by simp; omega
        have hk39 : s[k] = 39 := by rw [byte_get s k hks2] at h39; exact Option.some.inj h39
        have q5 : ((s[k].toNat : Int) == x) = true := by rw [hk39, HX.out]; rfl
        have q6 : ((s[k].toNat : Int) == 39) = true := by rw [hk39]; rfl
        rw [if_pos h39] at ht
        subst ht
        clear h39 hk39 o1
        go_wp2_with fail
        (try simp only [Exit.inBlock, Exit.then])
        refine bodyPost_ret (results_tmp4 rfl _ _ _) rfl ?_
        exact ⟨HB.out,   .inr ⟨by show (50 : Int) ≠ 0; decide, rfl⟩⟩
      · rw [if_neg h39] at ht
        by_cases hk2 : k < s.size
        · have t3 : decide ((k : Int) < s.size) = true := by simp; omega
          have t4 : decide (k < s.size) = true := by simp; omega
          have hk39 : s[k] ≠ 39 := fun h => h39 (by rw [byte_get s k hk2, h])
          have q5 : ((s[k].toNat : Int) == x) = false := by rw [HX.out]; exact (u8K s[k] 39 39 rfl (by decide)).2 hk39
          have q6 : ((s[k].toNat : Int) == 39) = false := (u8K s[k] 39 39 rfl (by decide)).2 hk39
          cases hone : oneP false (s.data.toList.drop k) with
          | error e0 =>
            have he0 := oneP_error _ _ _ hone
            have q7 : (e0 != 0) = true := by rw [bne_iff_ne]; exact he0
            have q8 : (e0 == 0) = false := beq_eq_false_iff_ne.2 he0
            rw [hone] at o1 ht
            unfold oneV at o1
            simp only at o1 ht
            subst ht
            have O1 := Lib.hid o1
            have HE0 := Lib.hid he0
            clear h39 hk39 o1 hone he0
            go_wp2_with fail
            refine (O1.out _).mono ?_
            rintro e w2 ⟨rfl, hb2⟩
            have HB2 := Lib.hid (HB.out.trans (hb2.mono HB.out.size))
            have HO2 := Lib.hid (HO.out.keep hb2)
            clear hb2
            go_wp2_with fail
            (try simp only [Exit.inBlock, Exit.then])
            refine bodyPost_ret (results_tmp4 rfl _ _ _) rfl ?_
            exact ⟨HB2.out, .inr ⟨HE0.out, rfl⟩⟩
          | ok p =>
            obtain ⟨c, n⟩ := p
            have hval := oneP_val _ _ _ _ hone
            have hc := oneP_false _ _ _ hone
            obtain ⟨hb1, hb2⟩ := oneP_bd _ _ _ _ hone
            rw [List.length_drop, ← Lib.size_eq] at hb2
            rw [hone] at o1 ht
            unfold oneV at o1
            simp only at o1 ht
            have O1 := Lib.hid o1
            have HTT := Lib.hid ht.symm
            have q8 : decide ((0 : Int) ≤ c) = true := by simp; omega
            clear h39 hk39 o1 hone hval hc ht
            go_wp2_with fail
            refine (O1.out _).mono ?_
            rintro e w2 ⟨rfl, hb2⟩
            have HB2 := Lib.hid (HB.out.trans (hb2.mono HB.out.size))
            have HO2 := Lib.hid (HO.out.keep hb2)
            clear hb2
            go_wp2_with (at_builtin; refine int_app rfl _ _ rfl w.heap.size (.slice a 0 cp) [] w w2 HO2.out HB2.out.size HB2.out ?hs2 c ?hx2 (by simp) ?_; (case hs2 => rfl); (case hx2 => rfl); intro v3 w3 ho3 hb3)
            have HB3 := Lib.hid hb3
            have HO3 := Lib.hid ho3
            clear hb3 ho3
            go_wp2_with fail
            go_roundw
            case rel => exact ⟨k + n, [c], by go_num, HO3.out, HB3.out, by omega, .inr ⟨by have := HK.out; omega, rfl, HTT.out⟩⟩
            case measure => simp [intOf]; omega
        · have t3 : decide ((k : Int) < s.size) = false := by simp; omega
          have t4 : decide (k < s.size) = false := by simp; omega
          have hnil : s.data.toList.drop k = [] := List.drop_of_length_le (by rw [← Lib.size_eq]; omega)
          rw [hnil, oneP_nil] at o1 ht
          unfold oneV at o1
          simp only at o1 ht
          subst ht
          have O1 := Lib.hid o1
          clear h39 o1 hnil
          go_wp2_with fail
          refine (O1.out _).mono ?_
          rintro e w2 ⟨rfl, hb2⟩
          have HB2 := Lib.hid (HB.out.trans (hb2.mono HB.out.size))
          have HO2 := Lib.hid (HO.out.keep hb2)
          clear hb2
          go_wp2_with fail
          (try simp only [Exit.inBlock, Exit.then])
          refine bodyPost_ret (results_tmp4 rfl _ _ _) rfl ?_
          exact ⟨HB2.out,   .inr ⟨by show (50 : Int) ≠ 0; decide, rfl⟩⟩
    · rw [hl1] at HO ⊢
      by_cases h39 : s.data.toList[k]? = some 39
      · have hks2 : k < s.size := by rw [← HKL.out]; exact (List.getElem?_eq_some_iff.1 h39).1
        have t3 : decide ((k : Int) < s.size) = true := by simp; omega
        have t4 : decide (k < s.size) = true := by simp; omega
        have hk39 : s[k] = 39 := by rw [byte_get s k hks2] at h39; exact Option.some.inj h39
        have q5 : ((s[k].toNat : Int) == x) = true := by rw [hk39, HX.out]; rfl
        have q6 : ((s[k].toNat : Int) == 39) = true := by rw [hk39]; rfl
        rw [if_pos h39] at hTe
        have HTE := Lib.hid hTe
        clear h39 hk39 o1 hTe
        go_wp2_with fail
        (try simp only [Exit.inBlock, Exit.then])
        refine bodyPost_ret (results_tmp4 rfl _ _ _) rfl ?_
        refine ⟨HB.out, .inl ?_⟩
        rw [HTE.out]
        exact ⟨rfl, _, rfl, HO.out⟩
      · rw [if_neg h39] at hTe
        subst hTe
        by_cases hk2 : k < s.size
        · have t3 : decide ((k : Int) < s.size) = true := by simp; omega
          have t4 : decide (k < s.size) = true := by simp; omega
          have hk39 : s[k] ≠ 39 := fun h => h39 (by rw [byte_get s k hk2, h])
          have q5 : ((s[k].toNat : Int) == x) = false := by rw [HX.out]; exact (u8K s[k] 39 39 rfl (by decide)).2 hk39
          have q6 : ((s[k].toNat : Int) == 39) = false := (u8K s[k] 39 39 rfl (by decide)).2 hk39
          clear h39 hk39 o1
          go_wp2_with fail
          (try simp only [Exit.inBlock, Exit.then])
          refine bodyPost_ret (results_tmp4 rfl _ _ _) rfl ?_
          exact ⟨HB.out,   .inr ⟨by show (50 : Int) ≠ 0; decide, rfl⟩⟩
        · have t3 : decide ((k : Int) < s.size) = false := by simp; omega
          have t4 : decide (k < s.size) = false := by simp; omega
          clear h39 o1
          go_wp2_with fail
          (try simp only [Exit.inBlock, Exit.then])
          refine bodyPost_ret (results_tmp4 rfl _ _ _) rfl ?_
          exact ⟨HB.out,   .inr ⟨by show (50 : Int) ≠ 0; decide, rfl⟩⟩
theorem refRead_any (s : ByteArray) (i : Int) (w : World) (hs : s.size ≤ 16777216) :
    Calls Tryd.prog 21 #[.string s, .int .i64 i] w (ReadRef w (readP s.data.toList i)) := by
  by_cases h1 : 0 ≤ i ∧ i < s.data.toList.length ∧ s.data.toList[i.toNat]? = some 34
  · obtain ⟨k, rfl⟩ := Int.eq_ofNat_of_zero_le h1.1
    rw [Int.toNat_natCast] at h1
    have hk : k < s.size := by rw [Lib.size_eq]; omega
    have hq : s[k] = 34 := by have := h1.2.2; rw [byte_get s k hk] at this; simpa using this
    rw [readP_some _ k (by omega) h1.2.2]
    exact refRead_text s k w hs hk hq
  · by_cases h2 : 0 ≤ i ∧ i < s.data.toList.length ∧ s.data.toList[i.toNat]? = some 39
    · obtain ⟨k, rfl⟩ := Int.eq_ofNat_of_zero_le h2.1
      rw [Int.toNat_natCast] at h2
      have hk : k < s.size := by rw [Lib.size_eq]; omega
      have hq : s[k] = 39 := by have := h2.2.2; rw [byte_get s k hk] at this; simpa using this
      rw [readP_char _ k (by omega) h2.2.2]
      exact refRead_char s k w hs hk hq
    · have hr : readP s.data.toList i = (0, ⟨0, 0, [], []⟩) := by unfold readP; rw [if_neg h1, if_neg h2]
      rw [hr]
      exact refRead_none s i w hs h1 h2
end Go.Proofs.YtmgnpgbganjgfaaDoor

namespace Go.Proofs.YtmgnpgbganjgfaaDoor
open Go.RowKit

set_option maxHeartbeats 2000000 in
theorem refScan_any (s : ByteArray) (i : Int) (w : World) (hs : s.size ≤ 16777216) :
    Calls Tryd.prog 11 #[.string s, .int .i64 i] w fun e w' => e = .returned (scanV5 (readP s.data.toList i)) ∧ Below w.heap.size w w' := by
  have r1 := refRead_any s i w hs
  unfold ReadRef at r1
  unfold scanV5
  generalize readP s.data.toList i = P at *
  obtain ⟨kd, pe, pt, out, gaps⟩ := P
  simp only at r1 ⊢
  by_cases h0 : pe = 0
  · rw [if_pos h0]
    have R1 := Lib.hid r1
    have H0 := Lib.hid h0
    clear r1 h0
    go_enter Tryd.func11, Tryd.ntmps11
    go_wp2_with fail
    refine R1.out.mono ?_
    rintro e w2 ⟨hb, ⟨_, v, rfl, _⟩ | ⟨h0, _⟩⟩
    · have HB := Lib.hid hb
      clear hb
      go_wp2_with fail
      go_ret3
      exact ⟨by rw [H0.out]; rfl, HB.out⟩
    · exact absurd H0.out h0
  · rw [if_neg h0]
    have R1 := Lib.hid r1
    have H0 := Lib.hid h0
    clear r1 h0
    go_enter Tryd.func11, Tryd.ntmps11
    go_wp2_with fail
    refine R1.out.mono ?_
    rintro e w2 ⟨hb, ⟨h0, _⟩ | ⟨_, rfl⟩⟩
    · exact absurd h0 H0.out
    · have HB := Lib.hid hb
      clear hb
      go_wp2_with fail
      go_ret3
      exact ⟨rfl, HB.out⟩
set_option maxHeartbeats 2000000 in
theorem refRunes_any (s : ByteArray) (w : World) (hs : s.size ≤ 16777216) :
    Calls Tryd.prog 14 #[.string s] w (RunesPost w s.data.toList) := by
  have r1 := refRead_any s 0 w hs
  obtain ⟨E, hE⟩ : ∃ E, wholeE s.data.toList = E := ⟨_, rfl⟩
  unfold ReadRef at r1
  unfold RunesPost
  rw [hE]
  have hsz := Lib.size_eq s
  unfold wholeE at hE
  rw [← hsz] at hE
  clear hsz
  generalize readP s.data.toList 0 = P at *
  obtain ⟨kd, pe, pt, out, gaps⟩ := P
  simp only at r1 hE ⊢
  have R1 := Lib.hid r1
  clear r1
  by_cases h0 : pe = 0
  · subst h0
    rw [if_neg (by simp)] at hE
    by_cases hk : kd = 0
    · have q1 : ((kd : Int) == 0) = true := beq_iff_eq.2 (by omega)
      rw [if_pos (.inl hk)] at hE
      subst hE
      clear hk
      go_enter Tryd.func14, Tryd.ntmps14
      go_wp2_with fail
      refine R1.out.mono ?_
      rintro e w2 ⟨hb, ⟨_, v, rfl, ho⟩ | ⟨h0, _⟩⟩
      · have HB := Lib.hid hb
        clear hb ho
        go_wp2_with fail
        go_ret2
        exact ⟨HB.out, .inr ⟨by first | decide | simp, rfl⟩⟩
      · exact absurd rfl h0
    · have q1 : ((kd : Int) == 0) = false := beq_eq_false_iff_ne.2 (by omega)
      by_cases hl : pt = s.size
      · have q2 : ((pt : Int) != (s.size : Int)) = false := by rw [bne_eq_false_iff_eq]; omega
        have q3 : ((pt : Int) == (s.size : Int)) = true := beq_iff_eq.2 (by omega)
        rw [if_neg (fun h => by rcases h with h | h; exact hk h; exact h hl)] at hE
        subst hE
        clear hk hl
        go_enter Tryd.func14, Tryd.ntmps14
        go_wp2_with fail
        refine R1.out.mono ?_
        rintro e w2 ⟨hb, ⟨_, v, rfl, ho⟩ | ⟨h0, _⟩⟩
        · have HB := Lib.hid hb
          have HO := Lib.hid ho
          clear hb ho
          go_wp2_with fail
          go_ret2
          exact ⟨HB.out, .inl ⟨by first | trivial | rfl, _, rfl, HO.out⟩⟩
        · exact absurd rfl h0
      · have q2 : ((pt : Int) != (s.size : Int)) = true := by rw [bne_iff_ne]; omega
        have q3 : ((pt : Int) == (s.size : Int)) = false := beq_eq_false_iff_ne.2 (by omega)
        rw [if_pos (.inr hl)] at hE
        subst hE
        clear hk hl
        go_enter Tryd.func14, Tryd.ntmps14
        go_wp2_with fail
        refine R1.out.mono ?_
        rintro e w2 ⟨hb, ⟨_, v, rfl, ho⟩ | ⟨h0, _⟩⟩
        · have HB := Lib.hid hb
          clear hb ho
          go_wp2_with fail
          go_ret2
          exact ⟨HB.out, .inr ⟨by first | decide | simp, rfl⟩⟩
        · exact absurd rfl h0
  · rw [if_pos h0] at hE
    subst hE
    have q1 : (pe != 0) = true := by rw [bne_iff_ne]; exact h0
    have q2 : (pe == 0) = false := beq_eq_false_iff_ne.2 h0
    have H0 := Lib.hid h0
    clear h0
    go_enter Tryd.func14, Tryd.ntmps14
    go_wp2_with fail
    refine R1.out.mono ?_
    rintro e w2 ⟨hb, ⟨h0, _⟩ | ⟨_, rfl⟩⟩
    · exact absurd h0 H0.out
    · have HB := Lib.hid hb
      clear hb
      go_wp2_with fail
      go_ret2
      exact ⟨HB.out, .inr ⟨H0.out, rfl⟩⟩
end Go.Proofs.YtmgnpgbganjgfaaDoor

