/- Walks: comparisons of a guard and of a rule with itself. Conditions: none. -/
import Derived.Test.YtdofpealmngmiaaDoorRT
namespace Go.Proofs.YtdofpealmngmiaaDoor
open Go.RowKit

theorem two_blocks (w : World) (a b : Obj) : (((w.alloc a).alloc b).heap[w.heap.size]? = some a) ∧ (((w.alloc a).alloc b).heap[w.heap.size + 1]? = some b) ∧ ((w.alloc a).alloc b).heap.size = w.heap.size + 2 ∧ Below w.heap.size w ((w.alloc a).alloc b) := by
  refine ⟨?_, ?_, by simp, ((Below.refl _ _).alloc (Nat.le_refl _) _).alloc (by simp) _⟩
  · rw [Below.heap_alloc _ _ _ (by simp)]; exact heap_alloc_new w _
  · have h := heap_alloc_new (w.alloc a) b; rw [World.size_alloc] at h; exact h

set_option maxHeartbeats 1000000 in
theorem eqGuard_any (r : Rl) (u v : Value) (w : World) (hu : Rd w 2 u r.counts.length (pr r.counts)) (hv : Rd w 2 v r.counts.length (pr r.counts)) :
    Calls Tryd.prog 34 #[gdV r u, gdV r v] w fun e w' => e = .returned (.bool true) ∧ Below w.heap.size w w' := by
  have HU := Lib.hid hu
  have HV := Lib.hid hv
  obtain ⟨ao, cap, rfl, _⟩ := hu.pairs
  obtain ⟨bo, cap2, rfl, _⟩ := hv.pairs
  clear hu hv
  have hp : ∀ x : Int, (x != x) = false := by intro x; simp
  obtain ⟨e0, e1, z2, b2⟩ := two_blocks w (.cells #[.int .i64 r.lo, .int .i64 r.hi, .slice ao r.counts.length cap, .int .i64 r.coupon] 27) (.cells #[.int .i64 r.lo, .int .i64 r.hi, .slice bo r.counts.length cap2, .int .i64 r.coupon] 27)
  have H0 := Lib.hid e0
  have H1 := Lib.hid e1
  have HB := Lib.hid b2
  clear e0 e1 b2
  have n_coupon := hp r.coupon
  clear hp
  have hd1 : eqP r.lo r.hi r.lo r.hi = true := by simp [eqP]
  unfold gdV
  go_enter Tryd.func34, Tryd.ntmps34
  go_wp2_with fail
  refine (eqSpan_any _ _ _ _ _).mono ?_
  rintro e w1 ⟨rfl, hb1⟩
  rw [hd1]
  have k0 := (hb1.block w.heap.size (by omega)).trans H0.out
  have k1 := (hb1.block (w.heap.size + 1) (by omega)).trans H1.out
  have B1 := HB.out.trans (hb1.mono (by omega))
  have z1 : w.heap.size + 2 ≤ w1.heap.size := by rw [← z2]; exact hb1.size
  obtain ⟨⟨c0, c1, c2, c3⟩, _⟩ := row4 k0
  obtain ⟨⟨d0, d1, d2, d3⟩, _⟩ := row4 k1
  clear hb1
  go_wp2_with fail
  refine (eqSpanS_any r.counts r.counts _ _ _ (HU.out.below B1 (Nat.le_refl _)) (HV.out.below B1 (Nat.le_refl _))).mono ?_
  rintro e w2 ⟨rfl, hb2⟩
  rw [show decide (r.counts = r.counts) = true from decide_eq_true rfl]
  have m0 := (hb2.block w.heap.size (by omega)).trans k0
  have m1 := (hb2.block (w.heap.size + 1) (by omega)).trans k1
  clear k0 k1 c0 c1 c2 c3 d0 d1 d2 d3
  obtain ⟨⟨c0, c1, c2, c3⟩, _⟩ := row4 m0
  obtain ⟨⟨d0, d1, d2, d3⟩, _⟩ := row4 m1
  go_wp2
  go_ret
  exact ⟨rfl, B1.trans (hb2.mono (by omega))⟩

set_option maxRecDepth 10000 in
set_option maxHeartbeats 2000000 in
theorem eqRule_any (r : Rl) (u v : Value) (w : World) (hu : Rd w 2 u r.counts.length (pr r.counts)) (hv : Rd w 2 v r.counts.length (pr r.counts)) :
    Calls Tryd.prog 15 #[ruV r u, ruV r v] w fun e w' => e = .returned (.bool true) ∧ Below w.heap.size w w' := by
  have HU := Lib.hid hu
  have HV := Lib.hid hv
  obtain ⟨ao, cap, rfl, _⟩ := hu.pairs
  obtain ⟨bo, cap2, rfl, _⟩ := hv.pairs
  clear hu hv
  have hp : ∀ x : Int, (x != x) = false := by intro x; simp
  obtain ⟨e0, e1, z2, b2⟩ := two_blocks w (.cells #[.int .i64 r.num, .int .i64 r.lvl, .int .i64 r.rank, .int .i64 r.group, .int .i64 r.kind, .int .i64 r.value, .int .i64 r.cap, .int .i64 r.lo, .int .i64 r.hi, .slice ao r.counts.length cap, .int .i64 r.coupon] 29) (.cells #[.int .i64 r.num, .int .i64 r.lvl, .int .i64 r.rank, .int .i64 r.group, .int .i64 r.kind, .int .i64 r.value, .int .i64 r.cap, .int .i64 r.lo, .int .i64 r.hi, .slice bo r.counts.length cap2, .int .i64 r.coupon] 29)
  have H0 := Lib.hid e0
  have H1 := Lib.hid e1
  have HB := Lib.hid b2
  clear e0 e1 b2
  have n_num := hp r.num
  have n_lvl := hp r.lvl
  have n_rank := hp r.rank
  have n_group := hp r.group
  have n_kind := hp r.kind
  have n_value := hp r.value
  have n_cap := hp r.cap
  clear hp
  obtain ⟨⟨c0, c1, c2, c3, c4, c5, c6, c7, c8, c9, c10⟩, _⟩ := row11 H0.out
  obtain ⟨⟨d0, d1, d2, d3, d4, d5, d6, d7, d8, d9, d10⟩, _⟩ := row11 H1.out
  clear H0 H1
  unfold ruV
  go_enter Tryd.func15, Tryd.ntmps15
  go_wp2_with fail
  refine (eqGuard_any r _ _ _ (HU.out.below HB.out (Nat.le_refl _)) (HV.out.below HB.out (Nat.le_refl _))).mono ?_
  rintro e w1 ⟨rfl, hb1⟩
  go_wp2
  go_ret
  exact ⟨rfl, HB.out.trans (hb1.mono (by omega))⟩

end Go.Proofs.YtdofpealmngmiaaDoor
