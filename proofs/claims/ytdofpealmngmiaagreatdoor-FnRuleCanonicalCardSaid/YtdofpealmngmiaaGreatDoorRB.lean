/- Walks: valid spans, guards and rules. Conditions: none. -/
import Derived.Test.YtdofpealmngmiaaGreatDoorRA
import Derived.Test.YtdofpealmngmiaaGreatDoorWA
namespace Go.Proofs.YtdofpealmngmiaaGreatDoor
open Go.RowKit

/-- A span, a guard, a rule as values; v is the slice of the counts. -/
def spV (a b : Int) : Value := .agg #[.int .i64 a, .int .i64 b]
def gdV (r : Rl) (v : Value) : Value := .agg #[.int .i64 r.lo, .int .i64 r.hi, v, .int .i64 r.coupon]
def ruV (r : Rl) (v : Value) : Value := .agg #[.int .i64 r.num, .int .i64 r.lvl, .int .i64 r.rank, .int .i64 r.group, .int .i64 r.kind, .int .i64 r.value, .int .i64 r.cap, .int .i64 r.lo, .int .i64 r.hi, v, .int .i64 r.coupon]

theorem okCn_bad {c : List (Int × Int)} {k : Nat} (hk : k < c.length) (h : okSp (pA c k) (pB c k) = false) : okCn c = false := by
  unfold okCn
  rw [Bool.and_eq_false_iff]
  left
  rw [List.all_eq_false]
  exact ⟨k, List.mem_range.2 hk, by simp [h]⟩
theorem okCn_len {c : List (Int × Int)} (h : ¬ (c.length : Int) = 3) : okCn c = false := by
  unfold okCn
  rw [Bool.and_eq_false_iff]
  right
  rw [decide_eq_false_iff_not]; omega
theorem okCn_end {c : List (Int × Int)} (h : ∀ j, j < c.length → okSp (pA c j) (pB c j) = true) : okCn c = decide ((c.length : Int) = 3) := by
  unfold okCn
  have : (List.range c.length).all (fun k => okSp (pA c k) (pB c k)) = true := by
    rw [List.all_eq_true]; exact fun j hj => h j (List.mem_range.1 hj)
  rw [this, Bool.true_and]
  exact decide_eq_decide.2 (by omega)
theorem okCn_pr {c : List (Int × Int)} (h : okCn c = true) : (∀ j, j < c.length → okSp (pA c j) (pB c j) = true) ∧ c.length = 3 := by
  unfold okCn at h
  rw [Bool.and_eq_true, List.all_eq_true, decide_eq_true_eq] at h
  exact ⟨fun j hj => h.1 j (List.mem_range.2 hj), h.2⟩

set_option maxHeartbeats 400000 in
theorem money_any (n : Int) (w : World) :
    Calls Tryz.prog 32 #[.int .i64 n] w fun e w' => e = .returned (.bool (wi n 0 1000000)) ∧ w' = w := by
  go_enter Tryz.func32, Tryz.ntmps32
  go_wp2_with (go_at_call 19; refine (within_any _ _ _ _).mono ?_; rintro e w2 ⟨rfl, hw2⟩; subst hw2)
  go_ret
  exact ⟨rfl, rfl⟩

set_option maxHeartbeats 1000000 in
theorem specSpan_any (a b : Int) (w : World) :
    Calls Tryz.prog 59 #[.agg #[.int .i64 a, .int .i64 b]] w fun e w' => e = .returned (.bool (okSp a b)) ∧ Below w.heap.size w w' := by
  cases h1 : wi a 0 1000000
  · go_enter Tryz.func59, Tryz.ntmps59
    go_wp2_with (go_at_call 25; refine (inRange_any _ _ _ _).mono ?_; rintro e w1 ⟨rfl, rfl⟩)
    go_ret
    exact ⟨by simp [okSp, h1], (Below.refl _ w).alloc (Nat.le_refl _) _⟩
  · go_enter Tryz.func59, Tryz.ntmps59
    go_wp2_with (go_at_call 25; refine (inRange_any _ _ _ _).mono ?_; rintro e w1 ⟨rfl, rfl⟩)
    go_ret
    exact ⟨by simp [okSp, h1], (Below.refl _ w).alloc (Nat.le_refl _) _⟩

set_option maxHeartbeats 1000000 in
theorem implSpan_any (a b : Int) (w : World) :
    Calls Tryz.prog 51 #[.agg #[.int .i64 a, .int .i64 b]] w fun e w' => e = .returned (.bool (okSp a b)) ∧ Below w.heap.size w w' := by
  cases h1 : wi a 0 1000000
  · go_enter Tryz.func51, Tryz.ntmps51
    go_wp2_with (first | (go_at_call 32; refine (money_any _ _).mono ?_; rintro e w1 ⟨rfl, rfl⟩) | (go_at_call 19; refine (within_any _ _ _ _).mono ?_; rintro e w1 ⟨rfl, rfl⟩))
    go_ret
    exact ⟨by simp [okSp, h1], (Below.refl _ w).alloc (Nat.le_refl _) _⟩
  · go_enter Tryz.func51, Tryz.ntmps51
    go_wp2_with (first | (go_at_call 32; refine (money_any _ _).mono ?_; rintro e w1 ⟨rfl, rfl⟩) | (go_at_call 19; refine (within_any _ _ _ _).mono ?_; rintro e w1 ⟨rfl, rfl⟩))
    go_ret
    exact ⟨by simp [okSp, h1], (Below.refl _ w).alloc (Nat.le_refl _) _⟩

set_option maxHeartbeats 1000000 in
theorem full_any (a b : Int) (w : World) :
    Calls Tryz.prog 45 #[.agg #[.int .i64 a, .int .i64 b]] w fun e w' => e = .returned (.bool (allSp a b)) ∧ Below w.heap.size w w' := by
  by_cases h1 : a = 0
  · go_enter Tryz.func45, Tryz.ntmps45
    go_wp2
    go_ret
    exact ⟨by by_cases h2 : b = 1000000 <;> simp [allSp, h1, h2], (Below.refl _ w).alloc (Nat.le_refl _) _⟩
  · go_enter Tryz.func45, Tryz.ntmps45
    go_wp2
    go_ret
    exact ⟨by by_cases h2 : b = 1000000 <;> simp [allSp, h1, h2], (Below.refl _ w).alloc (Nat.le_refl _) _⟩

theorem box4 (w : World) (a b c d : Value) (t : TypeId) : (w.alloc (.cells #[a, b, c, d] t)).cell? ⟨w.heap.size, 0, none⟩ = some a ∧ (w.alloc (.cells #[a, b, c, d] t)).cell? ⟨w.heap.size, 1, none⟩ = some b ∧
    (w.alloc (.cells #[a, b, c, d] t)).cell? ⟨w.heap.size, 2, none⟩ = some c ∧ (w.alloc (.cells #[a, b, c, d] t)).cell? ⟨w.heap.size, 3, none⟩ = some d :=
  ⟨cell_of_row _ _ 0 _ _ _ (heap_alloc_new w _), cell_of_row _ _ 1 _ _ _ (heap_alloc_new w _), cell_of_row _ _ 2 _ _ _ (heap_alloc_new w _), cell_of_row _ _ 3 _ _ _ (heap_alloc_new w _)⟩

set_option maxHeartbeats 2000000 in
theorem specGuard_any (r : Rl) (v : Value) (w : World) (hv : Rd w 2 v r.counts.length (pr r.counts)) :
    Calls Tryz.prog 43 #[gdV r v] w fun e w' => e = .returned (.bool (okGd r)) ∧ Below w.heap.size w w' := by
  unfold gdV okGd
  have hm := hv.len
  unfold maxLen at hm
  obtain ⟨ao, cap, rfl, hl, hc, hr⟩ := hv.pairs
  have HR := Lib.hid hr
  clear hr hv hl hc
  generalize r.counts = c at *
  by_cases hn : (c.length : Int) = 3
  rotate_left
  · have fin := Lib.hid (okCn_len hn)
    go_enter Tryz.func43, Tryz.ntmps43
    go_wp2
    go_ret
    exact ⟨by rw [fin.out]; simp, (Below.refl _ w).alloc (Nat.le_refl _) _⟩
  cases h1 : okSp r.lo r.hi
  · go_enter Tryz.func43, Tryz.ntmps43
    go_wp2_with (go_at_call 59; refine (specSpan_any _ _ _).mono ?_; rintro e w1 ⟨rfl, b1⟩)
    go_ret
    exact ⟨by simp, ((Below.refl _ w).alloc (Nat.le_refl _) _).trans (b1.mono (by rw [World.size_alloc]; exact Nat.le_succ _))⟩
  cases h2 : wi r.coupon 0 9
  · go_enter Tryz.func43, Tryz.ntmps43
    go_wp2_with (first | (go_at_call 25; refine (inRange_any _ _ _ _).mono ?_; rintro e w2 ⟨rfl, rfl⟩) | (go_at_call 59; refine (specSpan_any _ _ _).mono ?_; rintro e w1 ⟨rfl, b1⟩; have c3 := (b1.cell (p := ⟨w.heap.size, 3, none⟩) (by rw [World.size_alloc]; exact Nat.lt_succ_self _)).trans (cell_of_row _ _ 3 _ _ _ (heap_alloc_new w _))))
    go_ret
    exact ⟨by simp, ((Below.refl _ w).alloc (Nat.le_refl _) _).trans (b1.mono (by rw [World.size_alloc]; exact Nat.le_succ _))⟩
  have e2 := cell_of_row _ _ 2 _ _ _ (heap_alloc_new w (.cells #[.int .i64 r.lo, .int .i64 r.hi, .slice ao c.length cap, .int .i64 r.coupon] 28))
  have E2 := Lib.hid e2
  clear e2
  have e3 : (w.alloc (.cells #[.int .i64 r.lo, .int .i64 r.hi, .slice ao c.length cap, .int .i64 r.coupon] 28)).heap.size = w.heap.size + 1 := World.size_alloc _ _
  go_enter Tryz.func43, Tryz.ntmps43
  go_wp2_with (first | (go_at_call 25; refine (inRange_any _ _ _ _).mono ?_; rintro e w2 ⟨rfl, rfl⟩) | (go_at_call 59; refine (specSpan_any _ _ _).mono ?_; rintro e w1 ⟨rfl, b1⟩; have c3 := (b1.cell (p := ⟨w.heap.size, 3, none⟩) (by rw [World.size_alloc]; exact Nat.lt_succ_self _)).trans (cell_of_row _ _ 3 _ _ _ (heap_alloc_new w _))))
  go_loopw [3] (fun i wr => ∃ k : Nat, k ≤ c.length ∧ i = .int .i64 k ∧ Below (w.alloc (.cells #[.int .i64 r.lo, .int .i64 r.hi, .slice ao c.length cap, .int .i64 r.coupon] 28)).heap.size (w.alloc (.cells #[.int .i64 r.lo, .int .i64 r.hi, .slice ao c.length cap, .int .i64 r.coupon] 28)) wr ∧ Hid (∀ j, j < k → okSp (pA c j) (pB c j) = true)) (fun i _ => c.length - (intOf i).toNat)
  case atStart => exact ⟨0, Nat.zero_le _, rfl, b1, fun j hj => absurd hj (Nat.not_lt_zero _)⟩
  case round =>
    clear b1 c3
    obtain ⟨k, hk, rfl, hbl, hall⟩ := hrel
    have g2 := (hbl.cell (p := ⟨w.heap.size, 2, none⟩) (by rw [e3]; exact Nat.lt_succ_self _)).trans E2.out
    by_cases hlt : k < c.length
    · obtain ⟨b, off, rfl, hb, hcell⟩ := HR.out (by omega)
      have hcell := hcell k hlt
      have g0 := ((hbl.cell (p := ⟨b, off + k*2, none⟩) (by rw [e3]; show b < _; omega)).trans (World.cell?_alloc_lt w _ _ hb)).trans hcell.1
      have g1 := ((hbl.cell (p := ⟨b, off + k*2+1, none⟩) (by rw [e3]; show b < _; omega)).trans (World.cell?_alloc_lt w _ _ hb)).trans hcell.2
      have hbw : b < wr.heap.size := Nat.lt_of_lt_of_le hb (Nat.le_trans (by rw [e3]; exact Nat.le_succ _) hbl.size)
      clear hcell
      have hk0 : (0 : Int) ≤ (k : Int) := by omega
      have hk1 : (k : Int) < (c.length : Int) := by omega
      cases hA : okSp (pA c k) (pB c k)
      · have fin := Lib.hid (okCn_bad hlt hA)
        go_wp2_with (go_at_call 59; refine (specSpan_any _ _ _).mono ?_; rintro e w3 ⟨rfl, b3⟩)
        go_ret
        exact ⟨by rw [fin.out]; rfl, ((Below.refl _ w).alloc (Nat.le_refl _) _).trans ((hbl.trans (b3.mono hbl.size)).mono (by rw [e3]; exact Nat.le_succ _))⟩
      · go_wp2_with (go_at_call 59; refine (specSpan_any _ _ _).mono ?_; rintro e w3 ⟨rfl, b3⟩)
        go_roundw
        case rel => exact ⟨k+1, by omega, by go_num, hbl.trans (b3.mono hbl.size), all_snoc hall.out hA⟩
        case measure => simp [intOf]; omega
    · obtain rfl : k = c.length := by omega
      have fin := Lib.hid (okCn_end hall.out)
      go_wp2
      go_ret
      exact ⟨by rw [fin.out, hn]; rfl, ((Below.refl _ w).alloc (Nat.le_refl _) _).trans (hbl.mono (by rw [e3]; exact Nat.le_succ _))⟩

set_option maxHeartbeats 2000000 in
theorem implGuard_any (r : Rl) (v : Value) (w : World) (hv : Rd w 2 v r.counts.length (pr r.counts)) :
    Calls Tryz.prog 33 #[gdV r v] w fun e w' => e = .returned (.bool (okGd r)) ∧ Below w.heap.size w w' := by
  unfold gdV okGd
  have hm := hv.len
  unfold maxLen at hm
  obtain ⟨ao, cap, rfl, hl, hc, hr⟩ := hv.pairs
  have HR := Lib.hid hr
  clear hr hv hl hc
  generalize r.counts = c at *
  obtain ⟨e0, e1, e2, e4⟩ := box4 w (.int .i64 r.lo) (.int .i64 r.hi) (.slice ao c.length cap) (.int .i64 r.coupon) 28
  have E0 := Lib.hid e0
  have E1 := Lib.hid e1
  have E2 := Lib.hid e2
  have E3 := Lib.hid e4
  clear e0 e1 e2 e4
  have e3 : (w.alloc (.cells #[.int .i64 r.lo, .int .i64 r.hi, .slice ao c.length cap, .int .i64 r.coupon] 28)).heap.size = w.heap.size + 1 := World.size_alloc _ _
  go_enter Tryz.func33, Tryz.ntmps33
  go_wp2
  go_loopw [8] (fun i wr => ∃ k : Nat, k ≤ c.length ∧ i = .int .i64 k ∧ Below (w.alloc (.cells #[.int .i64 r.lo, .int .i64 r.hi, .slice ao c.length cap, .int .i64 r.coupon] 28)).heap.size (w.alloc (.cells #[.int .i64 r.lo, .int .i64 r.hi, .slice ao c.length cap, .int .i64 r.coupon] 28)) wr ∧ Hid (∀ j, j < k → okSp (pA c j) (pB c j) = true)) (fun i _ => c.length - (intOf i).toNat)
  case atStart => exact ⟨0, Nat.zero_le _, rfl, Below.refl _ _, fun j hj => absurd hj (Nat.not_lt_zero _)⟩
  case round =>
    obtain ⟨k, hk, rfl, hbl, hall⟩ := hrel
    have f0 := (hbl.cell (p := ⟨w.heap.size, 0, none⟩) (by rw [e3]; exact Nat.lt_succ_self _)).trans E0.out
    have f1 := (hbl.cell (p := ⟨w.heap.size, 1, none⟩) (by rw [e3]; exact Nat.lt_succ_self _)).trans E1.out
    have f2 := (hbl.cell (p := ⟨w.heap.size, 2, none⟩) (by rw [e3]; exact Nat.lt_succ_self _)).trans E2.out
    have f3 := (hbl.cell (p := ⟨w.heap.size, 3, none⟩) (by rw [e3]; exact Nat.lt_succ_self _)).trans E3.out
    have fz : w.heap.size < wr.heap.size := Nat.lt_of_lt_of_le (by rw [e3]; exact Nat.lt_succ_self _) hbl.size
    by_cases hlt : k < c.length
    · clear f0 f1 f2 f3
      obtain ⟨b, off, rfl, hb, hcell⟩ := HR.out (by omega)
      have hcell := hcell k hlt
      have g0 := ((hbl.cell (p := ⟨b, off + k*2, none⟩) (by rw [e3]; show b < _; omega)).trans (World.cell?_alloc_lt w _ _ hb)).trans hcell.1
      have g1 := ((hbl.cell (p := ⟨b, off + k*2+1, none⟩) (by rw [e3]; show b < _; omega)).trans (World.cell?_alloc_lt w _ _ hb)).trans hcell.2
      have hbw : b < wr.heap.size := Nat.lt_of_lt_of_le hb (Nat.le_trans (by rw [e3]; exact Nat.le_succ _) hbl.size)
      clear hcell
      have hk0 : (0 : Int) ≤ (k : Int) := by omega
      have hk1 : (k : Int) < (c.length : Int) := by omega
      cases hA : okSp (pA c k) (pB c k)
      · have fin := Lib.hid (okCn_bad hlt hA)
        go_wp2_with (go_at_call 51; refine (implSpan_any _ _ _).mono ?_; rintro e w3 ⟨rfl, b3⟩)
        go_ret
        exact ⟨by rw [fin.out]; simp, ((Below.refl _ w).alloc (Nat.le_refl _) _).trans (((hbl.alloc hbl.size _).trans (b3.mono (Nat.le_trans hbl.size (by rw [World.size_alloc]; exact Nat.le_succ _)))).mono (by rw [e3]; exact Nat.le_succ _))⟩
      · go_wp2_with (go_at_call 51; refine (implSpan_any _ _ _).mono ?_; rintro e w3 ⟨rfl, b3⟩)
        go_roundw
        case rel => exact ⟨k+1, by omega, by go_num, (hbl.alloc hbl.size _).trans (b3.mono (Nat.le_trans hbl.size (by rw [World.size_alloc]; exact Nat.le_succ _))), all_snoc hall.out hA⟩
        case measure => simp [intOf]; omega
    · obtain rfl : k = c.length := by omega
      have fin := Lib.hid (okCn_end hall.out)
      have hbw : Below w.heap.size w wr := ((Below.refl _ w).alloc (Nat.le_refl _) _).trans (hbl.mono (by rw [e3]; exact Nat.le_succ _))
      cases h1 : okSp r.lo r.hi
      · go_wp2_with (go_at_call 51; refine (implSpan_any _ _ _).mono ?_; rintro e w3 ⟨rfl, b3⟩)
        go_ret
        exact ⟨by simp [h1], hbw.trans (b3.mono hbw.size)⟩
      · by_cases hn : (c.length : Int) = 3
        · cases h2 : wi r.coupon 0 9
          all_goals
            go_wp2_with (first | (go_at_call 19; refine (within_any _ _ _ _).mono ?_; rintro e w2 ⟨rfl, rfl⟩) | (go_at_call 51; refine (implSpan_any _ _ _).mono ?_; rintro e w3 ⟨rfl, b3⟩; have f4 := (b3.cell (p := ⟨w.heap.size, 2, none⟩) fz).trans f2; have f5 := (b3.cell (p := ⟨w.heap.size, 3, none⟩) fz).trans f3))
            go_ret
            exact ⟨by rw [fin.out, hn]; simp [h1, h2], hbw.trans (b3.mono hbw.size)⟩
        · go_wp2_with (first | (go_at_call 51; refine (implSpan_any _ _ _).mono ?_; rintro e w3 ⟨rfl, b3⟩; have f4 := (b3.cell (p := ⟨w.heap.size, 2, none⟩) fz).trans f2))
          go_ret
          exact ⟨by rw [fin.out]; simp [hn], hbw.trans (b3.mono hbw.size)⟩

end Go.Proofs.YtdofpealmngmiaaGreatDoor
