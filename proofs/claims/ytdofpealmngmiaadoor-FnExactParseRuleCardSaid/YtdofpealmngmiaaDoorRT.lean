/- Walks: the copies, sizes and comparisons of the exact laws on a guard and a rule. Conditions: none. -/
import Derived.Test.YtdofpealmngmiaaDoorRS
import Derived.Test.YtdofpealmngmiaaDoorRD
import Derived.Test.YtdofpealmngmiaaDoorRow
import Derived.Laws.Rows
import Derived.Lib.SmallJoins
namespace Go.Proofs.YtdofpealmngmiaaDoor
open Go.RowKit

theorem owns_baseB {w : World} {base base' e sz n : Nat} {v : Value} {xs : List Value} (h : w.ownsRow base e sz v n xs) (hb : base' ≤ base) : w.ownsRow base' e sz v n xs := by
  refine ⟨h.1, ?_⟩
  rcases h.2 with hn | ⟨g, cap, cur, rfl, hg, rest⟩
  · exact .inl hn
  · exact .inr ⟨g, cap, cur, rfl, by omega, rest⟩


set_option maxHeartbeats 1000000 in
theorem szGuard_any (r : Rl) (ao : Option Addr) (n cap : Nat) (left : Int) (w : World) (hn : n ≤ 9223372036854775807) (h0 : 0 ≤ left) (h1 : left ≤ 1048576) :
    Calls Tryd.prog 32 #[.agg #[.int .i64 r.lo, .int .i64 r.hi, .slice ao n cap, .int .i64 r.coupon], .int .i64 left] w fun e w' => e = .returned (.int .i64 (szL left n)) ∧ Below w.heap.size w w' := by
  by_cases h : left - (n : Int) < 0
  · have hsz : Hid (szL left n = -1) := by rw [Hid, szL, if_pos (by omega)]
    go_enter Tryd.func32, Tryd.ntmps32
    go_wp2_with (go_at_call 65; refine (szSpanS_any _ _ _ _ _ hn h0 h1).mono ?_; rintro e w0 ⟨rfl, b0⟩; rw [hsz.out])
    go_ret
    exact ⟨by rw [hsz.out] <;> rfl, (by subst b0; exact (Below.refl _ w).alloc (Nat.le_refl _) _)⟩
  · have hsz : Hid (szL left n = left - n) := by rw [Hid, szL, if_neg (by omega)]
    have h' : 0 ≤ left - (n : Int) := by omega
    have h2 : decide (left - (n : Int) < 0) = false := by rw [decide_eq_false_iff_not]; exact h
    go_enter Tryd.func32, Tryd.ntmps32
    go_wp2_with (go_at_call 65; refine (szSpanS_any _ _ _ _ _ hn h0 h1).mono ?_; rintro e w0 ⟨rfl, b0⟩; rw [hsz.out])
    go_ret
    exact ⟨by rw [hsz.out] <;> rfl, (by subst b0; exact (Below.refl _ w).alloc (Nat.le_refl _) _)⟩


set_option maxHeartbeats 1000000 in
theorem szRule_any (r : Rl) (ao : Option Addr) (n cap : Nat) (left : Int) (w : World) (hn : n ≤ 9223372036854775807) (h0 : 0 ≤ left) (h1 : left ≤ 1048576) :
    Calls Tryd.prog 13 #[.agg #[.int .i64 r.num, .int .i64 r.lvl, .int .i64 r.rank, .int .i64 r.group, .int .i64 r.kind, .int .i64 r.value, .int .i64 r.cap, .int .i64 r.lo, .int .i64 r.hi, .slice ao n cap, .int .i64 r.coupon], .int .i64 left] w fun e w' => e = .returned (.int .i64 (szL left n)) ∧ Below w.heap.size w w' := by
  by_cases h : left - (n : Int) < 0
  · have hsz : Hid (szL left n = -1) := by rw [Hid, szL, if_pos (by omega)]
    go_enter Tryd.func13, Tryd.ntmps13
    go_wp2_with (go_at_call 32; refine (szGuard_any r _ _ _ _ _ hn h0 h1).mono ?_; rintro e w0 ⟨rfl, b0⟩; rw [hsz.out])
    go_ret
    exact ⟨by rw [hsz.out] <;> rfl, (((Below.refl _ w).alloc (Nat.le_refl _) _).trans (b0.mono (by rw [World.size_alloc]; exact Nat.le_succ _)))⟩
  · have hsz : Hid (szL left n = left - n) := by rw [Hid, szL, if_neg (by omega)]
    have h' : 0 ≤ left - (n : Int) := by omega
    have h2 : decide (left - (n : Int) < 0) = false := by rw [decide_eq_false_iff_not]; exact h
    go_enter Tryd.func13, Tryd.ntmps13
    go_wp2_with (go_at_call 32; refine (szGuard_any r _ _ _ _ _ hn h0 h1).mono ?_; rintro e w0 ⟨rfl, b0⟩; rw [hsz.out])
    go_ret
    exact ⟨by rw [hsz.out] <;> rfl, (((Below.refl _ w).alloc (Nat.le_refl _) _).trans (b0.mono (by rw [World.size_alloc]; exact Nat.le_succ _)))⟩


/-- the three blocks of toGuard -/
theorem three_blocks (w : World) (a b c : Obj) : ((((w.alloc a).alloc b).alloc c).heap[w.heap.size]? = some a) ∧ ((((w.alloc a).alloc b).alloc c).heap[w.heap.size + 1]? = some b) ∧ ((((w.alloc a).alloc b).alloc c).heap[w.heap.size + 2]? = some c) ∧
    (((w.alloc a).alloc b).alloc c).heap.size = w.heap.size + 3 ∧ Below w.heap.size w (((w.alloc a).alloc b).alloc c) := by
  refine ⟨?_, ?_, ?_, by simp, (((Below.refl _ _).alloc (Nat.le_refl _) _).alloc (by simp) _).alloc (by simp; omega) _⟩
  · rw [Below.heap_alloc _ _ _ (by simp; omega), Below.heap_alloc _ _ _ (by simp)]; exact heap_alloc_new w _
  · rw [Below.heap_alloc _ _ _ (by simp)]; have h := heap_alloc_new (w.alloc a) b; rw [World.size_alloc] at h; exact h
  · have h := heap_alloc_new ((w.alloc a).alloc b) c; rw [World.size_alloc, World.size_alloc] at h; exact h

theorem row4 {w : World} {g : Nat} {a b c d : Value} {t : TypeId} (h : w.heap[g]? = some (.cells #[a, b, c, d] t)) :
    (w.cell? ⟨g, 0, none⟩ = some a ∧ w.cell? ⟨g, 1, none⟩ = some b ∧ w.cell? ⟨g, 2, none⟩ = some c ∧ w.cell? ⟨g, 3, none⟩ = some d) ∧ w.frozen? ⟨g, 0, none⟩ = false ∧ w.frozen? ⟨g, 1, none⟩ = false ∧ w.frozen? ⟨g, 2, none⟩ = false ∧ w.frozen? ⟨g, 3, none⟩ = false :=
  ⟨⟨cell_of_row w _ 0 _ _ _ h, cell_of_row w _ 1 _ _ _ h, cell_of_row w _ 2 _ _ _ h, cell_of_row w _ 3 _ _ _ h⟩, frozen_of_row w _ 0 _ _ h, frozen_of_row w _ 1 _ _ h, frozen_of_row w _ 2 _ _ h, frozen_of_row w _ 3 _ _ h⟩

set_option maxHeartbeats 2000000 in
theorem toGuard_any (r : Rl) (v : Value) (w : World) (hv : Rd w 2 v r.counts.length (pr r.counts)) (hl : r.counts.length ≤ 1048576) :
    Calls Tryd.prog 33 #[gdV r v] w fun e w' => ∃ o, e = .returned (gdV r o) ∧ w'.ownsRow w.heap.size 24 2 o r.counts.length (pr r.counts) ∧ Below w.heap.size w w' := by
  have HV := Lib.hid hv
  obtain ⟨bo, cap, rfl, _⟩ := hv.pairs
  clear hv
  unfold gdV
  obtain ⟨e0, e1, e2, z3, b3⟩ := three_blocks w (.cells #[.int .i64 r.lo, .int .i64 r.hi, .slice bo r.counts.length cap, .int .i64 r.coupon] 37) (.cells #[.int .i64 0, .int .i64 0, .slice none 0 0, .int .i64 0] 27) (.cells #[.int .i64 0, .int .i64 0, .slice none 0 0, .int .i64 0] 27)
  have H0 := Lib.hid e0
  have H1 := Lib.hid e1
  have H2 := Lib.hid e2
  have HB := Lib.hid b3
  clear e0 e1 e2 b3
  go_enter Tryd.func33, Tryd.ntmps33
  go_upto_region 3 with (go_at_call 66; (with_reducible refine (toSpan_any _ _ _).mono ?_); rintro e w1 ⟨rfl, hb⟩; have k0 := (hb.block w.heap.size (by omega)).trans H0.out; have k1 := (hb.block (w.heap.size + 1) (by omega)).trans H1.out; have k2 := (hb.block (w.heap.size + 2) (by omega)).trans H2.out; obtain ⟨⟨c0, c1, c2, c3⟩, _⟩ := row4 k0; obtain ⟨⟨d0, d1, d2, d3⟩, p0, p1, p2, p3⟩ := row4 k1; have m2 : w1.heap[w.heap.size + 1 + 1]? = _ := k2; obtain ⟨⟨f0, f1, f2, f3⟩, q0, q1, q2, q3⟩ := row4 m2)
  obtain ⟨Wa, hWa⟩ : ∃ Wa, Wa = (w1.setCell ⟨w.heap.size + 1 + 1, 0, none⟩ (.int .i64 r.lo)).setCell ⟨w.heap.size + 1 + 1, 1, none⟩ (.int .i64 r.hi) := ⟨_, rfl⟩
  rw [← hWa]
  have K0 : Wa.heap[w.heap.size]? = some (.cells #[.int .i64 r.lo, .int .i64 r.hi, .slice bo r.counts.length cap, .int .i64 r.coupon] 37) := by rw [hWa]; exact (Below.heap_setCell _ _ _ _ (by simp <;> omega)).trans ((Below.heap_setCell _ _ _ _ (by simp <;> omega)).trans k0)
  have K1 : Wa.heap[w.heap.size + 1]? = some (.cells #[.int .i64 0, .int .i64 0, .slice none 0 0, .int .i64 0] 27) := by rw [hWa]; exact (Below.heap_setCell _ _ _ _ (by simp)).trans ((Below.heap_setCell _ _ _ _ (by simp)).trans k1)
  have K2 : Wa.heap[w.heap.size + 1 + 1]? = some (.cells #[.int .i64 r.lo, .int .i64 r.hi, .slice none 0 0, .int .i64 0] 27) := by rw [hWa]; exact Joins.block_setCell (Joins.block_setCell m2 _) _
  have BA : Below w.heap.size w Wa := by rw [hWa]; exact ((HB.out.trans (hb.mono (by omega))).setCell (by simp <;> omega) _).setCell (by simp <;> omega) _
  have ZA : w.heap.size + 3 ≤ Wa.heap.size := by rw [hWa, World.size_setCell, World.size_setCell, ← z3]; exact hb.size
  clear hWa k0 k1 k2 m2 c0 c1 c2 c3 d0 d1 d2 d3 p0 p1 p2 p3 f0 f1 f2 f3 q0 q1 q2 q3 hb H0 H1 H2 HB z3
  obtain ⟨⟨c0, c1, c2, c3⟩, _⟩ := row4 K0
  go_upto_region 4 with (go_at_call 67; (with_reducible refine (toSpanS_any r.counts _ _ (HV.out.below BA (Nat.le_refl _)) hl).mono ?_); rintro e w2 ⟨o, rfl, ho, hb⟩; obtain ⟨oo, ocap, rfl, _⟩ := (Rd.of_owns ho).pairs; have k0 := (hb.block w.heap.size (by omega)).trans K0; have k1 := (hb.block (w.heap.size + 1) (by omega)).trans K1; have k2 := (hb.block (w.heap.size + 1 + 1) (by omega)).trans K2; obtain ⟨⟨f0, f1, f2, f3⟩, q0, q1, q2, q3⟩ := row4 k2)
  obtain ⟨Wb, hWb⟩ : ∃ Wb, Wb = w2.setCell ⟨w.heap.size + 1 + 1, 2, none⟩ (.slice oo r.counts.length ocap) := ⟨_, rfl⟩
  rw [← hWb]
  have L0 : Wb.heap[w.heap.size]? = some (.cells #[.int .i64 r.lo, .int .i64 r.hi, .slice bo r.counts.length cap, .int .i64 r.coupon] 37) := by rw [hWb]; exact (Below.heap_setCell _ _ _ _ (by simp <;> omega)).trans k0
  have L1 : Wb.heap[w.heap.size + 1]? = some (.cells #[.int .i64 0, .int .i64 0, .slice none 0 0, .int .i64 0] 27) := by rw [hWb]; exact (Below.heap_setCell _ _ _ _ (by simp)).trans k1
  have L2 : Wb.heap[w.heap.size + 1 + 1]? = some (.cells #[.int .i64 r.lo, .int .i64 r.hi, .slice oo r.counts.length ocap, .int .i64 0] 27) := by rw [hWb]; exact Joins.block_setCell k2 _
  have BB : Below w.heap.size w Wb := by rw [hWb]; exact (BA.trans (hb.mono (by omega))).setCell (by simp <;> omega) _
  have OB : Wb.ownsRow Wa.heap.size 24 2 (.slice oo r.counts.length ocap) r.counts.length (pr r.counts) := by rw [hWb]; exact ownsRow_setCell_below ho (by simp <;> omega) _
  clear hWb k0 k1 k2 f0 f1 f2 f3 q0 q1 q2 q3 c0 c1 c2 c3 K0 K1 K2 ho
  have H1 := Lib.hid L1
  have HO := Lib.hid OB
  obtain ⟨⟨c0, c1, c2, c3⟩, _⟩ := row4 L0
  obtain ⟨⟨d0, d1, d2, d3⟩, p0, p1, p2, p3⟩ := row4 L1
  obtain ⟨⟨f0, f1, f2, f3⟩, q0, q1, q2, q3⟩ := row4 L2
  clear OB L0 L1 L2
  go_wp2
  obtain ⟨⟨r0, r1, r2, r3⟩, _⟩ := row4 (Joins.block_setCell (Joins.block_setCell (Joins.block_setCell (Joins.block_setCell ((Below.heap_setCell Wb ⟨w.heap.size + 1 + 1, 3, none⟩ (.int .i64 r.coupon) _ (by simp)).trans H1.out) (.int .i64 r.lo) (i := 0)) (.int .i64 r.hi) (i := 1)) (.slice oo r.counts.length ocap) (i := 2)) (.int .i64 r.coupon) (i := 3))
  refine bodyPost_ret (by simp [results, Tryd.results33, go_sem, r0, r1, r2, r3]; try rfl) rfl ?_
  refine ⟨_, rfl, owns_baseB (ownsRow_setCell_below (ownsRow_setCell_below (ownsRow_setCell_below (ownsRow_setCell_below (ownsRow_setCell_below HO.out (by simp <;> omega) _) (by simp <;> omega) _) (by simp <;> omega) _) (by simp <;> omega) _) (by simp <;> omega) _) (by omega), ?_⟩
  exact ((((BB.setCell (by simp <;> omega) _).setCell (by simp <;> omega) _).setCell (by simp <;> omega) _).setCell (by simp <;> omega) _).setCell (by simp <;> omega) _

theorem row11 {w : World} {g : Nat} {x0 x1 x2 x3 x4 x5 x6 x7 x8 x9 x10 : Value} {t : TypeId} (h : w.heap[g]? = some (.cells #[x0, x1, x2, x3, x4, x5, x6, x7, x8, x9, x10] t)) :
    (w.cell? ⟨g, 0, none⟩ = some x0 ∧ w.cell? ⟨g, 1, none⟩ = some x1 ∧ w.cell? ⟨g, 2, none⟩ = some x2 ∧ w.cell? ⟨g, 3, none⟩ = some x3 ∧ w.cell? ⟨g, 4, none⟩ = some x4 ∧ w.cell? ⟨g, 5, none⟩ = some x5 ∧ w.cell? ⟨g, 6, none⟩ = some x6 ∧ w.cell? ⟨g, 7, none⟩ = some x7 ∧ w.cell? ⟨g, 8, none⟩ = some x8 ∧ w.cell? ⟨g, 9, none⟩ = some x9 ∧ w.cell? ⟨g, 10, none⟩ = some x10) ∧ w.frozen? ⟨g, 0, none⟩ = false ∧ w.frozen? ⟨g, 1, none⟩ = false ∧ w.frozen? ⟨g, 2, none⟩ = false ∧ w.frozen? ⟨g, 3, none⟩ = false ∧ w.frozen? ⟨g, 4, none⟩ = false ∧ w.frozen? ⟨g, 5, none⟩ = false ∧ w.frozen? ⟨g, 6, none⟩ = false ∧ w.frozen? ⟨g, 7, none⟩ = false ∧ w.frozen? ⟨g, 8, none⟩ = false ∧ w.frozen? ⟨g, 9, none⟩ = false ∧ w.frozen? ⟨g, 10, none⟩ = false :=
  ⟨⟨cell_of_row w _ 0 _ _ _ h, cell_of_row w _ 1 _ _ _ h, cell_of_row w _ 2 _ _ _ h, cell_of_row w _ 3 _ _ _ h, cell_of_row w _ 4 _ _ _ h, cell_of_row w _ 5 _ _ _ h, cell_of_row w _ 6 _ _ _ h, cell_of_row w _ 7 _ _ _ h, cell_of_row w _ 8 _ _ _ h, cell_of_row w _ 9 _ _ _ h, cell_of_row w _ 10 _ _ _ h⟩, frozen_of_row w _ 0 _ _ h, frozen_of_row w _ 1 _ _ h, frozen_of_row w _ 2 _ _ h, frozen_of_row w _ 3 _ _ h, frozen_of_row w _ 4 _ _ h, frozen_of_row w _ 5 _ _ h, frozen_of_row w _ 6 _ _ h, frozen_of_row w _ 7 _ _ h, frozen_of_row w _ 8 _ _ h, frozen_of_row w _ 9 _ _ h, frozen_of_row w _ 10 _ _ h⟩


end Go.Proofs.YtdofpealmngmiaaDoor
