/- DERIVED. The walk of read. -/
import Derived.Test.YtmgnpgbganjgfaaDoorQuoteO
set_option linter.unusedSimpArgs false
set_option linter.unusedVariables false
namespace Go.Proofs.YtmgnpgbganjgfaaDoor
open Go.RowKit

/-- What read gives back. -/
def ReadPost (W : World) (s : ByteArray) (P : Nat × RT) (e : Ending) (w' : World) : Prop :=
  e = .returned (.tuple #[.pointer (some ⟨W.heap.size + 3, 0, none⟩), .int .i64 (if P.2.e = 0 then (P.1 : Int) else 0), .int .i64 P.2.e]) ∧
    ∃ text out gaps vo vg, Rd W (W.heap.size + 3) s P.2.till text out gaps vo vg w' ∧ (P.2.e = 0 → out = P.2.out ∧ gaps = P.2.gaps)
/-- The world behind read's own allocations. -/
def mkR (w : World) (s : ByteArray) (i : Int) : World :=
  (((w.alloc (.cells #[.pointer (some ⟨w.heap.size + 1 + 1 + 1, 0, none⟩)] 36)).alloc (.cells #[.int .i64 0] 3)).alloc (.cells #[.int .i64 0] 22)).alloc (.cells #[.string s, .int .i64 i, .bool false, .slice none 0 0, .slice none 0 0] 41)
theorem mkR_rd (w : World) (s : ByteArray) (i : Int) : Rd w (w.heap.size + 3) s i false [] [] (.slice none 0 0) (.slice none 0 0) (mkR w s i) := by
  refine ⟨?_, by omega, ?_, ⟨rfl, .inl ⟨rfl, rfl⟩⟩, ⟨rfl, .inl ⟨rfl, rfl⟩⟩⟩
  · unfold mkR
    have := heap_alloc_new (((w.alloc (.cells #[.pointer (some ⟨w.heap.size + 1 + 1 + 1, 0, none⟩)] 36)).alloc (.cells #[.int .i64 0] 3)).alloc (.cells #[.int .i64 0] 22)) (.cells #[.string s, .int .i64 i, .bool false, .slice none 0 0, .slice none 0 0] 41 (0, 0))
    simp only [World.size_alloc] at this
    exact this
  · unfold mkR
    exact ((((Below.refl _ _).alloc (Nat.le_refl _) _).alloc (by simp) _).alloc (by simp; omega) _).alloc (by simp; omega) _
set_option maxRecDepth 20000 in
set_option maxHeartbeats 4000000 in
theorem read_none (s : ByteArray) (i : Int) (w : World) (hs : s.size ≤ 16777216) (hn : ¬ (0 ≤ i ∧ i < s.data.toList.length ∧ s.data.toList[i.toNat]? = some 34)) (hn2 : ¬ (0 ≤ i ∧ i < s.data.toList.length ∧ s.data.toList[i.toNat]? = some 39)) :
    Calls Tryd.prog 20 #[.string s, .int .i64 i] w (ReadPost w s (0, ⟨0, 0, [], []⟩)) := by
  rw [← Lib.size_eq] at hn hn2
  have hcase : i < 0 ∨ (0 ≤ i ∧ (s.size : Int) ≤ i) ∨ ∃ k : Nat, i = k ∧ ∃ h : k < s.size, s[k] ≠ 34 ∧ s[k] ≠ 39 := by
    by_cases h0 : i < 0
    · exact .inl h0
    · by_cases h1 : (s.size : Int) ≤ i
      · exact .inr (.inl ⟨by omega, h1⟩)
      · obtain ⟨k, rfl⟩ := Int.eq_ofNat_of_zero_le (show 0 ≤ i by omega)
        rw [Int.toNat_natCast] at hn hn2
        have hk : k < s.size := by omega
        rw [byte_get s k hk] at hn hn2
        exact .inr (.inr ⟨k, rfl, hk, fun e => hn ⟨by omega, by omega, by rw [e]⟩, fun e => hn2 ⟨by omega, by omega, by rw [e]⟩⟩)
  clear hn hn2
  rcases hcase with h0 | ⟨h0, h1⟩ | ⟨k, rfl, hk, h34, h39⟩
  · have t1 : decide (i < 0) = true := decide_eq_true h0
    go_enter_defers Tryd.func20, Tryd.ntmps20
    go_wp2_with fail
    have key := mkR_rd w s 0
    unfold mkR at key
    refine ⟨.tuple #[.pointer (some ⟨w.heap.size + 3, 0, none⟩), .int .i64 0, .int .i64 0], ?_, rfl, _, _, _, _, _, key, fun _ => ⟨rfl, rfl⟩⟩
    simp [results, Tryd.results20, go_sem]
  · have t1 : decide (i < 0) = false := by simp; omega
    have t2 : decide ((s.size : Int) ≤ i) = true := decide_eq_true h1
    go_enter_defers Tryd.func20, Tryd.ntmps20
    go_wp2_with fail
    have key := mkR_rd w s 0
    unfold mkR at key
    refine ⟨.tuple #[.pointer (some ⟨w.heap.size + 3, 0, none⟩), .int .i64 0, .int .i64 0], ?_, rfl, _, _, _, _, _, key, fun _ => ⟨rfl, rfl⟩⟩
    simp [results, Tryd.results20, go_sem]
  · have t1 : decide ((k : Int) < 0) = false := by simp
    have t2 : decide ((s.size : Int) ≤ k) = false := by simp; omega
    have t3 : decide (s.size ≤ k) = false := by simp; omega
    have q1 := (u8K s[k] 34 34 rfl (by decide)).2 h34
    have q2 := (u8K s[k] 39 39 rfl (by decide)).2 h39
    have q3 : ((s[k].toNat : Int) != 34) = true := by simpa using q1
    have q4 : ((s[k].toNat : Int) != 39) = true := by simpa using q2
    go_enter_defers Tryd.func20, Tryd.ntmps20
    go_wp2_with fail
    have key := mkR_rd w s 0
    unfold mkR at key
    refine ⟨.tuple #[.pointer (some ⟨w.heap.size + 3, 0, none⟩), .int .i64 0, .int .i64 0], ?_, rfl, _, _, _, _, _, key, fun _ => ⟨rfl, rfl⟩⟩
    simp [results, Tryd.results20, go_sem]
def mk3 (w : World) : World :=
  ((w.alloc (.cells #[.pointer (some ⟨w.heap.size + 1 + 1 + 1, 0, none⟩)] 36)).alloc (.cells #[.int .i64 0] 3)).alloc (.cells #[.int .i64 0] 22)
theorem mk3_size (w : World) : (mk3 w).heap.size = w.heap.size + 3 := by unfold mk3; simp
theorem mk3_below (w : World) : Below w.heap.size w (mk3 w) := by
  unfold mk3
  exact (((Below.refl _ _).alloc (Nat.le_refl _) _).alloc (by simp) _).alloc (by simp; omega) _
theorem mk3_rd (w : World) (s : ByteArray) (i : Int) : Rd (mk3 w) (w.heap.size + 3) s i false [] [] (.slice none 0 0) (.slice none 0 0) (mkR w s i) := by
  have h := mkR_rd w s i
  refine ⟨h.1, by rw [mk3_size]; omega, ?_, ⟨rfl, .inl ⟨rfl, rfl⟩⟩, ⟨rfl, .inl ⟨rfl, rfl⟩⟩⟩
  exact (Below.refl _ (mk3 w)).alloc (Nat.le_refl _) _
/-- The three variables of read. -/
def Vars3 (p : Nat) (w : World) : Prop :=
  w.heap[p]? = some (.cells #[.pointer (some ⟨p + 3, 0, none⟩)] 36 (0, 0)) ∧ w.heap[p + 1]? = some (.cells #[.int .i64 0] 3 (0, 0)) ∧ w.heap[p + 2]? = some (.cells #[.int .i64 0] 22 (0, 0))
theorem mk3_vars (w : World) : Vars3 w.heap.size (mk3 w) := by
  have h0 := heap_alloc_new w (.cells #[.pointer (some ⟨w.heap.size + 1 + 1 + 1, 0, none⟩)] 36 (0, 0))
  have h1 := heap_alloc_new (w.alloc (.cells #[.pointer (some ⟨w.heap.size + 1 + 1 + 1, 0, none⟩)] 36 (0, 0))) (.cells #[.int .i64 0] 3 (0, 0))
  have h2 := heap_alloc_new ((w.alloc (.cells #[.pointer (some ⟨w.heap.size + 1 + 1 + 1, 0, none⟩)] 36 (0, 0))).alloc (.cells #[.int .i64 0] 3 (0, 0))) (.cells #[.int .i64 0] 22 (0, 0))
  simp only [World.size_alloc] at h1 h2
  unfold mk3 Vars3
  refine ⟨?_, ?_, ?_⟩
  · rw [Below.heap_alloc _ _ _ (by simp; omega), Below.heap_alloc _ _ _ (by simp)]; exact h0
  · rw [Below.heap_alloc _ _ _ (by simp)]; exact h1
  · exact h2
theorem Vars3.keep {p : Nat} {W0 w : World} (h : Vars3 p W0) (hs : W0.heap.size = p + 3) (hb : Below W0.heap.size W0 w) : Vars3 p w :=
  ⟨(hb.block p (by omega)).trans h.1, (hb.block (p + 1) (by omega)).trans h.2.1, (hb.block (p + 2) (by omega)).trans h.2.2⟩
end Go.Proofs.YtmgnpgbganjgfaaDoor
