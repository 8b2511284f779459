/- Walks: a rule copied. Conditions: none. -/
import Derived.Test.YtdofpealmngmiaaDoorRT
import Derived.Test.YtdofpealmngmiaaDoorRV
namespace Go.Proofs.YtdofpealmngmiaaDoor
open Go.RowKit

set_option maxRecDepth 10000 in
set_option maxHeartbeats 4000000 in
theorem toRule_any (r : Rl) (v : Value) (w : World) (hv : Rd w 2 v r.counts.length (pr r.counts)) (hl : r.counts.length ≤ 1048576) :
    Calls Tryd.prog 14 #[ruV r v] w fun e w' => ∃ o, e = .returned (ruV r o) ∧ w'.ownsRow w.heap.size 24 2 o r.counts.length (pr r.counts) ∧ Below w.heap.size w w' := by
  have HV := Lib.hid hv
  obtain ⟨bo, cap, rfl, _⟩ := hv.pairs
  clear hv
  unfold ruV
  obtain ⟨e0, e1, e2, z3, b3⟩ := three_blocks w (.cells #[.int .i64 r.num, .int .i64 r.lvl, .int .i64 r.rank, .int .i64 r.group, .int .i64 r.kind, .int .i64 r.value, .int .i64 r.cap, .int .i64 r.lo, .int .i64 r.hi, .slice bo r.counts.length cap, .int .i64 r.coupon] 39) (.cells #[.int .i64 0, .int .i64 0, .int .i64 0, .int .i64 0, .int .i64 0, .int .i64 0, .int .i64 0, .int .i64 0, .int .i64 0, .slice none 0 0, .int .i64 0] 29) (.cells #[.int .i64 r.num, .int .i64 r.lvl, .int .i64 r.rank, .int .i64 r.group, .int .i64 r.kind, .int .i64 r.value, .int .i64 r.cap, .int .i64 0, .int .i64 0, .slice none 0 0, .int .i64 0] 29)
  have H0 := Lib.hid e0
  have H1 := Lib.hid e1
  have H2 := Lib.hid e2
  have HB := Lib.hid b3
  clear e0 e1 e2 b3
  go_enter Tryd.func14, Tryd.ntmps14
  go_upto_region 10 with (go_at_call 33; (refine (toGuard_any r _ _ (HV.out.below HB.out (Nat.le_refl _)) hl).mono ?_); rintro e w2 ⟨o, rfl, ho, hb⟩; obtain ⟨oo, ocap, rfl, _⟩ := (Rd.of_owns ho).pairs; unfold gdV; have k0 := (hb.block w.heap.size (by omega)).trans H0.out; have k1 := (hb.block (w.heap.size + 1) (by omega)).trans H1.out; have k2 : w2.heap[w.heap.size + 1 + 1]? = _ := (hb.block (w.heap.size + 2) (by omega)).trans H2.out; obtain ⟨⟨d0, d1, d2, d3, d4, d5, d6, d7, d8, d9, d10⟩, p0, p1, p2, p3, p4, p5, p6, p7, p8, p9, p10⟩ := row11 k1; obtain ⟨⟨f0, f1, f2, f3, f4, f5, f6, f7, f8, f9, f10⟩, q0, q1, q2, q3, q4, q5, q6, q7, q8, q9, q10⟩ := row11 k2)
  have BC := HB.out.trans (hb.mono (by omega))
  have ZC : w.heap.size + 3 ≤ w2.heap.size := by rw [← z3]; exact hb.size
  obtain ⟨Wb, hWb⟩ : ∃ Wb, Wb = ((((w2.setCell ⟨w.heap.size + 1 + 1, 7, none⟩ (.int .i64 r.lo)).setCell ⟨w.heap.size + 1 + 1, 8, none⟩ (.int .i64 r.hi)).setCell ⟨w.heap.size + 1 + 1, 9, none⟩ (.slice oo r.counts.length ocap)).setCell ⟨w.heap.size + 1 + 1, 10, none⟩ (.int .i64 r.coupon)) := ⟨_, rfl⟩
  rw [← hWb]
  have L1 : Wb.heap[w.heap.size + 1]? = some (.cells #[.int .i64 0, .int .i64 0, .int .i64 0, .int .i64 0, .int .i64 0, .int .i64 0, .int .i64 0, .int .i64 0, .int .i64 0, .slice none 0 0, .int .i64 0] 29) := by rw [hWb]; exact (Below.heap_setCell _ _ _ _ (by simp <;> omega)).trans ((Below.heap_setCell _ _ _ _ (by simp <;> omega)).trans ((Below.heap_setCell _ _ _ _ (by simp <;> omega)).trans ((Below.heap_setCell _ _ _ _ (by simp <;> omega)).trans (k1))))
  have L2 : Wb.heap[w.heap.size + 1 + 1]? = some (.cells #[.int .i64 r.num, .int .i64 r.lvl, .int .i64 r.rank, .int .i64 r.group, .int .i64 r.kind, .int .i64 r.value, .int .i64 r.cap, .int .i64 r.lo, .int .i64 r.hi, .slice oo r.counts.length ocap, .int .i64 r.coupon] 29) := by rw [hWb]; exact Joins.block_setCell (Joins.block_setCell (Joins.block_setCell (Joins.block_setCell k2 _) _) _) _
  have BB : Below w.heap.size w Wb := by rw [hWb]; exact (((BC.setCell (by simp <;> omega) _).setCell (by simp <;> omega) _).setCell (by simp <;> omega) _).setCell (by simp <;> omega) _
  rw [z3] at ho
  have OB : Wb.ownsRow (w.heap.size + 3) 24 2 (.slice oo r.counts.length ocap) r.counts.length (pr r.counts) := by rw [hWb]; exact ownsRow_setCell_below (ownsRow_setCell_below (ownsRow_setCell_below (ownsRow_setCell_below ho (by simp <;> omega) _) (by simp <;> omega) _) (by simp <;> omega) _) (by simp <;> omega) _
  clear hWb k0 k1 k2 d0 d1 d2 d3 d4 d5 d6 d7 d8 d9 d10 p0 p1 p2 p3 p4 p5 p6 p7 p8 p9 p10 f0 f1 f2 f3 f4 f5 f6 f7 f8 f9 f10 q0 q1 q2 q3 q4 q5 q6 q7 q8 q9 q10 ho H0 H1 H2 HB z3
  refine wp_copy (t := 29) (pd := 2) (ps := 3) (ty := 29) rfl rfl rfl rfl rfl (w.heap.size + 1 + 1) (w.heap.size + 1) _ _ 29 29 11 row29 rfl rfl rfl L2 rfl L1 rfl (by simp [Value.oneCell']) ?_
  go_wp2
  refine bodyPost_ret (results_row (p := 2) (ty := 29) rfl row29 _ _ (w.heap.size + 1) 29 _ rfl rfl (setRow_heap _ _ _ _ _ _ L1)) rfl ?_
  exact ⟨_, rfl, owns_baseB (owns_setRow OB (by omega) _) (by omega), setRow_below BB (by omega) BB.size _⟩

end Go.Proofs.YtdofpealmngmiaaDoor
