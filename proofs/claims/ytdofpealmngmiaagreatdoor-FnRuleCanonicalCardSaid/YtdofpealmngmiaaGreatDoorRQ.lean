/- Walks: the generator of rules that may be invalid; the draws of the laws. Conditions: none. -/
import Derived.Test.YtdofpealmngmiaaGreatDoorRP
import Derived.Test.YtdofpealmngmiaaGreatDoorRO
namespace Go.Proofs.YtdofpealmngmiaaGreatDoor
open Go.RowKit

set_option maxHeartbeats 4000000 in
set_option maxRecDepth 100000 in
theorem anyRule_any (R u : Nat) (w : World) (h : Rdr w R u) (hu : u ≤ 999999995000) :
    Calls Tryz.prog 12 #[.pointer (some ⟨R, 0, none⟩)] w (RuPost 40 w R u) := by
  have hR := h.lt
  have S0 := (RdrStep.refl h).alloc (.cells #[.int .i64 0, .int .i64 0, .int .i64 0, .int .i64 0, .int .i64 0, .int .i64 0, .int .i64 0, .int .i64 0, .int .i64 0, .slice none 0 0, .int .i64 0] 30)
  have k0 := heap_alloc_new w (.cells #[.int .i64 0, .int .i64 0, .int .i64 0, .int .i64 0, .int .i64 0, .int .i64 0, .int .i64 0, .int .i64 0, .int .i64 0, .slice none 0 0, .int .i64 0] 30)
  have K0 := Lib.hid k0
  clear k0
  go_enter Tryz.func12, Tryz.ntmps12
  go_wp2_with fail
  refine (pick_any R _ _ _ S0.1 (by omega)).mono ?_
  rintro e w1 ⟨m0, rfl, h0, j0, s1⟩
  have i0 := j0 (by omega)
  have k1 := s1.row K0.out (by omega)
  have z1 : w.heap.size < w1.heap.size := (Array.getElem?_eq_some_iff.1 k1).1
  have S1 := S0.trans s1
  clear j0 s1 S0 K0
  go_wp2_with fail
  refine (someRule_any R _ _ _ S1.1 (by omega)).mono ?_
  rintro e w2 ⟨r, v, rfl, O2, l2, s2⟩
  unfold ruV
  have HL := Lib.hid l2
  have k2 := s2.row k1 (by omega)
  have S2 := S1.trans s2
  have LV := Lib.hid (O2.lt)
  have O2 := owns_base O2 (Nat.succ_le_of_lt z1)
  obtain ⟨ao, cap, rfl, _⟩ := owns_shape O2
  have nG : w2.heap.size ≠ R := Nat.ne_of_gt S2.1.lt
  have nK : w.heap.size ≠ R := by omega
  have z2 : w.heap.size < w2.heap.size := (Array.getElem?_eq_some_iff.1 k2).1
  have nKG : w.heap.size ≠ w2.heap.size := by omega
  have NV := Lib.hid (fun k hk => Nat.ne_of_lt (LV.out k hk).2)
  have NW := Lib.hid (fun k hk => Nat.ne_of_gt (Nat.lt_of_lt_of_le z1 (LV.out k hk).1))
  have hR1 : R < w.heap.size + 1 := by omega
  go_wp2_with fail
  refine (pick_any R _ _ _ (S2.alloc (.cells #[.int .i64 r.num, .int .i64 r.lvl, .int .i64 r.rank, .int .i64 r.group, .int .i64 r.kind, .int .i64 r.value, .int .i64 r.cap, .int .i64 r.lo, .int .i64 r.hi, .slice ao r.counts.length cap, .int .i64 r.coupon] 30)).1 (by omega)).mono ?_
  rintro e w6 ⟨m, rfl, hm0, hm1, s6⟩
  have hm2 := hm1 (by omega)
  have K6 := Lib.hid (s6.row (heap_keep k2) nK)
  have G6 := Lib.hid (s6.row (heap_alloc_new w2 (.cells #[.int .i64 r.num, .int .i64 r.lvl, .int .i64 r.rank, .int .i64 r.group, .int .i64 r.kind, .int .i64 r.value, .int .i64 r.cap, .int .i64 r.lo, .int .i64 r.hi, .slice ao r.counts.length cap, .int .i64 r.coupon] 30)) nG)
  have O6 := Lib.hid (owns_step (O2.alloc (.cells #[.int .i64 r.num, .int .i64 r.lvl, .int .i64 r.rank, .int .i64 r.group, .int .i64 r.kind, .int .i64 r.value, .int .i64 r.cap, .int .i64 r.lo, .int .i64 r.hi, .slice ao r.counts.length cap, .int .i64 r.coupon] 30)) s6 hR1)
  have S6 := (S2.alloc (.cells #[.int .i64 r.num, .int .i64 r.lvl, .int .i64 r.rank, .int .i64 r.group, .int .i64 r.kind, .int .i64 r.value, .int .i64 r.cap, .int .i64 r.lo, .int .i64 r.hi, .slice ao r.counts.length cap, .int .i64 r.coupon] 30)).trans s6
  clear hm1 s6 S2 S1 k1 k2 O2 s2 LV l2
  rcases (by omega : m = 0 ∨ m = 1 ∨ m = 2 ∨ m = 3 ∨ m = 4 ∨ m = 5 ∨ m = 6 ∨ 7 ≤ m) with rfl | rfl | rfl | rfl | rfl | rfl | rfl | hm
  · go_wp2_with fail
    refine (one_lit R _ [0, 99, 100] w6 3 S6.1 (by omega) (by simp) (by simp)).mono ?_
    rintro e w7 ⟨a, _, rfl, s7⟩
    have K7 := Lib.hid (s7.row K6.out nK)
    have G7 := Lib.hid (s7.row G6.out nG)
    have O7 := Lib.hid (owns_step O6.out s7 hR1)
    have S7 := S6.trans s7
    clear K6 G6 O6 S6 s7
    have cg := cell_of_row w7 _ 0 _ _ _ G7.out
    have pg := frozen_of_row w7 _ 0 _ _ G7.out
    go_upto_region 17 with fail
    obtain ⟨w8, hW⟩ : ∃ W, W = w7.setCell ⟨w2.heap.size, 0, none⟩ (.int .i64 a) := ⟨_, rfl⟩
    rw [← hW]
    have K8 : Hid (w8.heap[w.heap.size]? = some (.cells #[.int .i64 0, .int .i64 0, .int .i64 0, .int .i64 0, .int .i64 0, .int .i64 0, .int .i64 0, .int .i64 0, .int .i64 0, .slice none 0 0, .int .i64 0] 30 (0, 0))) := by rw [hW]; exact heap_set K7.out nKG
    have G8 : Hid (w8.heap[w2.heap.size]? = some (.cells #[.int .i64 a, .int .i64 r.lvl, .int .i64 r.rank, .int .i64 r.group, .int .i64 r.kind, .int .i64 r.value, .int .i64 r.cap, .int .i64 r.lo, .int .i64 r.hi, .slice ao r.counts.length cap, .int .i64 r.coupon] 30 (0, 0))) := by rw [hW]; exact Joins.block_setCell G7.out _
    have O8 : Hid (w8.ownsRow (w.heap.size + 1) 25 2 (.slice ao r.counts.length cap) r.counts.length (pr r.counts)) := by rw [hW]; exact owns_away O7.out NV.out _
    have S8 : RdrStep w R (u + 34) w8 := by rw [hW]; exact RdrStep.mono (S7.set hR (Nat.le_of_lt z2) _) (by omega)
    clear hW K7 G7 O7 S7 cg pg
    refine wp_copy (t := 52) (pd := 2) (ps := 3) (ty := 30) rfl rfl rfl rfl rfl w2.heap.size w.heap.size #[.int .i64 a, .int .i64 r.lvl, .int .i64 r.rank, .int .i64 r.group, .int .i64 r.kind, .int .i64 r.value, .int .i64 r.cap, .int .i64 r.lo, .int .i64 r.hi, .slice ao r.counts.length cap, .int .i64 r.coupon] #[.int .i64 0, .int .i64 0, .int .i64 0, .int .i64 0, .int .i64 0, .int .i64 0, .int .i64 0, .int .i64 0, .int .i64 0, .slice none 0 0, .int .i64 0] 30 30 11 row30 rfl rfl rfl G8.out rfl K8.out rfl (by simp [Value.oneCell']) ?_
    go_wp2
    refine bodyPost_ret (results_row (p := 2) (ty := 30) rfl row30 _ _ w.heap.size 30 #[.int .i64 a, .int .i64 r.lvl, .int .i64 r.rank, .int .i64 r.group, .int .i64 r.kind, .int .i64 r.value, .int .i64 r.cap, .int .i64 r.lo, .int .i64 r.hi, .slice ao r.counts.length cap, .int .i64 r.coupon] rfl rfl (setRow_heap _ _ _ _ _ _ K8.out)) rfl ?_
    exact ⟨{ r with num := a }, _, rfl, owns_base (owns_row0 O8.out NW.out _) (Nat.le_succ _), HL.out, (S8.setRow hR (Nat.le_refl _) _).mono (by omega)⟩
  · go_wp2_with fail
    refine (one_lit R _ [-1, 3, 4] w6 3 S6.1 (by omega) (by simp) (by simp)).mono ?_
    rintro e w7 ⟨a, _, rfl, s7⟩
    have K7 := Lib.hid (s7.row K6.out nK)
    have G7 := Lib.hid (s7.row G6.out nG)
    have O7 := Lib.hid (owns_step O6.out s7 hR1)
    have S7 := S6.trans s7
    clear K6 G6 O6 S6 s7
    have cg := cell_of_row w7 _ 1 _ _ _ G7.out
    have pg := frozen_of_row w7 _ 1 _ _ G7.out
    go_upto_region 17 with fail
    obtain ⟨w8, hW⟩ : ∃ W, W = w7.setCell ⟨w2.heap.size, 1, none⟩ (.int .i64 a) := ⟨_, rfl⟩
    rw [← hW]
    have K8 : Hid (w8.heap[w.heap.size]? = some (.cells #[.int .i64 0, .int .i64 0, .int .i64 0, .int .i64 0, .int .i64 0, .int .i64 0, .int .i64 0, .int .i64 0, .int .i64 0, .slice none 0 0, .int .i64 0] 30 (0, 0))) := by rw [hW]; exact heap_set K7.out nKG
    have G8 : Hid (w8.heap[w2.heap.size]? = some (.cells #[.int .i64 r.num, .int .i64 a, .int .i64 r.rank, .int .i64 r.group, .int .i64 r.kind, .int .i64 r.value, .int .i64 r.cap, .int .i64 r.lo, .int .i64 r.hi, .slice ao r.counts.length cap, .int .i64 r.coupon] 30 (0, 0))) := by rw [hW]; exact Joins.block_setCell G7.out _
    have O8 : Hid (w8.ownsRow (w.heap.size + 1) 25 2 (.slice ao r.counts.length cap) r.counts.length (pr r.counts)) := by rw [hW]; exact owns_away O7.out NV.out _
    have S8 : RdrStep w R (u + 34) w8 := by rw [hW]; exact RdrStep.mono (S7.set hR (Nat.le_of_lt z2) _) (by omega)
    clear hW K7 G7 O7 S7 cg pg
    refine wp_copy (t := 52) (pd := 2) (ps := 3) (ty := 30) rfl rfl rfl rfl rfl w2.heap.size w.heap.size #[.int .i64 r.num, .int .i64 a, .int .i64 r.rank, .int .i64 r.group, .int .i64 r.kind, .int .i64 r.value, .int .i64 r.cap, .int .i64 r.lo, .int .i64 r.hi, .slice ao r.counts.length cap, .int .i64 r.coupon] #[.int .i64 0, .int .i64 0, .int .i64 0, .int .i64 0, .int .i64 0, .int .i64 0, .int .i64 0, .int .i64 0, .int .i64 0, .slice none 0 0, .int .i64 0] 30 30 11 row30 rfl rfl rfl G8.out rfl K8.out rfl (by simp [Value.oneCell']) ?_
    go_wp2
    refine bodyPost_ret (results_row (p := 2) (ty := 30) rfl row30 _ _ w.heap.size 30 #[.int .i64 r.num, .int .i64 a, .int .i64 r.rank, .int .i64 r.group, .int .i64 r.kind, .int .i64 r.value, .int .i64 r.cap, .int .i64 r.lo, .int .i64 r.hi, .slice ao r.counts.length cap, .int .i64 r.coupon] rfl rfl (setRow_heap _ _ _ _ _ _ K8.out)) rfl ?_
    exact ⟨{ r with lvl := a }, _, rfl, owns_base (owns_row0 O8.out NW.out _) (Nat.le_succ _), HL.out, (S8.setRow hR (Nat.le_refl _) _).mono (by omega)⟩
  · go_wp2_with fail
    refine (one_lit R _ [0, 4, 1] w6 3 S6.1 (by omega) (by simp) (by simp)).mono ?_
    rintro e w7 ⟨a, _, rfl, s7⟩
    have K7 := Lib.hid (s7.row K6.out nK)
    have G7 := Lib.hid (s7.row G6.out nG)
    have O7 := Lib.hid (owns_step O6.out s7 hR1)
    have S7 := S6.trans s7
    clear K6 G6 O6 S6 s7
    have cg := cell_of_row w7 _ 4 _ _ _ G7.out
    have pg := frozen_of_row w7 _ 4 _ _ G7.out
    go_upto_region 17 with fail
    obtain ⟨w8, hW⟩ : ∃ W, W = w7.setCell ⟨w2.heap.size, 4, none⟩ (.int .i64 a) := ⟨_, rfl⟩
    rw [← hW]
    have K8 : Hid (w8.heap[w.heap.size]? = some (.cells #[.int .i64 0, .int .i64 0, .int .i64 0, .int .i64 0, .int .i64 0, .int .i64 0, .int .i64 0, .int .i64 0, .int .i64 0, .slice none 0 0, .int .i64 0] 30 (0, 0))) := by rw [hW]; exact heap_set K7.out nKG
    have G8 : Hid (w8.heap[w2.heap.size]? = some (.cells #[.int .i64 r.num, .int .i64 r.lvl, .int .i64 r.rank, .int .i64 r.group, .int .i64 a, .int .i64 r.value, .int .i64 r.cap, .int .i64 r.lo, .int .i64 r.hi, .slice ao r.counts.length cap, .int .i64 r.coupon] 30 (0, 0))) := by rw [hW]; exact Joins.block_setCell G7.out _
    have O8 : Hid (w8.ownsRow (w.heap.size + 1) 25 2 (.slice ao r.counts.length cap) r.counts.length (pr r.counts)) := by rw [hW]; exact owns_away O7.out NV.out _
    have S8 : RdrStep w R (u + 34) w8 := by rw [hW]; exact RdrStep.mono (S7.set hR (Nat.le_of_lt z2) _) (by omega)
    clear hW K7 G7 O7 S7 cg pg
    refine wp_copy (t := 52) (pd := 2) (ps := 3) (ty := 30) rfl rfl rfl rfl rfl w2.heap.size w.heap.size #[.int .i64 r.num, .int .i64 r.lvl, .int .i64 r.rank, .int .i64 r.group, .int .i64 a, .int .i64 r.value, .int .i64 r.cap, .int .i64 r.lo, .int .i64 r.hi, .slice ao r.counts.length cap, .int .i64 r.coupon] #[.int .i64 0, .int .i64 0, .int .i64 0, .int .i64 0, .int .i64 0, .int .i64 0, .int .i64 0, .int .i64 0, .int .i64 0, .slice none 0 0, .int .i64 0] 30 30 11 row30 rfl rfl rfl G8.out rfl K8.out rfl (by simp [Value.oneCell']) ?_
    go_wp2
    refine bodyPost_ret (results_row (p := 2) (ty := 30) rfl row30 _ _ w.heap.size 30 #[.int .i64 r.num, .int .i64 r.lvl, .int .i64 r.rank, .int .i64 r.group, .int .i64 a, .int .i64 r.value, .int .i64 r.cap, .int .i64 r.lo, .int .i64 r.hi, .slice ao r.counts.length cap, .int .i64 r.coupon] rfl rfl (setRow_heap _ _ _ _ _ _ K8.out)) rfl ?_
    exact ⟨{ r with kind := a }, _, rfl, owns_base (owns_row0 O8.out NW.out _) (Nat.le_succ _), HL.out, (S8.setRow hR (Nat.le_refl _) _).mono (by omega)⟩
  · go_wp2_with fail
    refine (one_lit R _ [0, 1001, 1] w6 3 S6.1 (by omega) (by simp) (by simp)).mono ?_
    rintro e w7 ⟨a, _, rfl, s7⟩
    have K7 := Lib.hid (s7.row K6.out nK)
    have G7 := Lib.hid (s7.row G6.out nG)
    have O7 := Lib.hid (owns_step O6.out s7 hR1)
    have S7 := S6.trans s7
    clear K6 G6 O6 S6 s7
    have cg := cell_of_row w7 _ 5 _ _ _ G7.out
    have pg := frozen_of_row w7 _ 5 _ _ G7.out
    go_upto_region 17 with fail
    obtain ⟨w8, hW⟩ : ∃ W, W = w7.setCell ⟨w2.heap.size, 5, none⟩ (.int .i64 a) := ⟨_, rfl⟩
    rw [← hW]
    have K8 : Hid (w8.heap[w.heap.size]? = some (.cells #[.int .i64 0, .int .i64 0, .int .i64 0, .int .i64 0, .int .i64 0, .int .i64 0, .int .i64 0, .int .i64 0, .int .i64 0, .slice none 0 0, .int .i64 0] 30 (0, 0))) := by rw [hW]; exact heap_set K7.out nKG
    have G8 : Hid (w8.heap[w2.heap.size]? = some (.cells #[.int .i64 r.num, .int .i64 r.lvl, .int .i64 r.rank, .int .i64 r.group, .int .i64 r.kind, .int .i64 a, .int .i64 r.cap, .int .i64 r.lo, .int .i64 r.hi, .slice ao r.counts.length cap, .int .i64 r.coupon] 30 (0, 0))) := by rw [hW]; exact Joins.block_setCell G7.out _
    have O8 : Hid (w8.ownsRow (w.heap.size + 1) 25 2 (.slice ao r.counts.length cap) r.counts.length (pr r.counts)) := by rw [hW]; exact owns_away O7.out NV.out _
    have S8 : RdrStep w R (u + 34) w8 := by rw [hW]; exact RdrStep.mono (S7.set hR (Nat.le_of_lt z2) _) (by omega)
    clear hW K7 G7 O7 S7 cg pg
    refine wp_copy (t := 52) (pd := 2) (ps := 3) (ty := 30) rfl rfl rfl rfl rfl w2.heap.size w.heap.size #[.int .i64 r.num, .int .i64 r.lvl, .int .i64 r.rank, .int .i64 r.group, .int .i64 r.kind, .int .i64 a, .int .i64 r.cap, .int .i64 r.lo, .int .i64 r.hi, .slice ao r.counts.length cap, .int .i64 r.coupon] #[.int .i64 0, .int .i64 0, .int .i64 0, .int .i64 0, .int .i64 0, .int .i64 0, .int .i64 0, .int .i64 0, .int .i64 0, .slice none 0 0, .int .i64 0] 30 30 11 row30 rfl rfl rfl G8.out rfl K8.out rfl (by simp [Value.oneCell']) ?_
    go_wp2
    refine bodyPost_ret (results_row (p := 2) (ty := 30) rfl row30 _ _ w.heap.size 30 #[.int .i64 r.num, .int .i64 r.lvl, .int .i64 r.rank, .int .i64 r.group, .int .i64 r.kind, .int .i64 a, .int .i64 r.cap, .int .i64 r.lo, .int .i64 r.hi, .slice ao r.counts.length cap, .int .i64 r.coupon] rfl rfl (setRow_heap _ _ _ _ _ _ K8.out)) rfl ?_
    exact ⟨{ r with value := a }, _, rfl, owns_base (owns_row0 O8.out NW.out _) (Nat.le_succ _), HL.out, (S8.setRow hR (Nat.le_refl _) _).mono (by omega)⟩
  · go_wp2_with fail
    refine (anyGuard_any R _ _ S6.1 (by omega)).mono ?_
    rintro e w7 ⟨lo, hi, cp, c, v, rfl, Oc, lc, s7⟩
    have NV2 := Lib.hid (fun k hk => Nat.ne_of_gt (Nat.lt_of_lt_of_le (Array.getElem?_eq_some_iff.1 G6.out).1 (Oc.lt k hk).1))
    have NW2 := Lib.hid (fun k hk => Nat.ne_of_gt (Nat.lt_of_lt_of_le (Array.getElem?_eq_some_iff.1 K6.out).1 (Oc.lt k hk).1))
    have Oc := owns_base (base' := w.heap.size + 1) Oc (Nat.succ_le_of_lt (Array.getElem?_eq_some_iff.1 K6.out).1)
    have HC := Lib.hid lc
    obtain ⟨co, cap2, rfl, _⟩ := owns_shape Oc
    have HO := Lib.hid Oc
    clear Oc lc
    have K7 := Lib.hid (s7.row K6.out nK)
    have G7 := Lib.hid (s7.row G6.out nG)
    have O7 := Lib.hid (owns_step O6.out s7 hR1)
    have S7 := S6.trans s7
    clear K6 G6 O6 S6 s7
    obtain ⟨⟨c0, c1, c2, c3, c4, c5, c6, c7, c8, c9, c10⟩, p0, p1, p2, p3, p4, p5, p6, p7, p8, p9, p10⟩ := row11 G7.out
    go_upto_region 17 with fail
    obtain ⟨w8, hW⟩ : ∃ W, W = (((w7.setCell ⟨w2.heap.size, 7, none⟩ (.int .i64 lo)).setCell ⟨w2.heap.size, 8, none⟩ (.int .i64 hi)).setCell ⟨w2.heap.size, 9, none⟩ (.slice co c.length cap2)).setCell ⟨w2.heap.size, 10, none⟩ (.int .i64 cp) := ⟨_, rfl⟩
    rw [← hW]
    have K8 : Hid (w8.heap[w.heap.size]? = some (.cells #[.int .i64 0, .int .i64 0, .int .i64 0, .int .i64 0, .int .i64 0, .int .i64 0, .int .i64 0, .int .i64 0, .int .i64 0, .slice none 0 0, .int .i64 0] 30 (0, 0))) := by rw [hW]; exact heap_set (heap_set (heap_set (heap_set K7.out nKG) nKG) nKG) nKG
    have G8 : Hid (w8.heap[w2.heap.size]? = some (.cells #[.int .i64 r.num, .int .i64 r.lvl, .int .i64 r.rank, .int .i64 r.group, .int .i64 r.kind, .int .i64 r.value, .int .i64 r.cap, .int .i64 lo, .int .i64 hi, .slice co c.length cap2, .int .i64 cp] 30 (0, 0))) := by rw [hW]; exact Joins.block_setCell (Joins.block_setCell (Joins.block_setCell (Joins.block_setCell G7.out _) _) _) _
    have O8 : Hid (w8.ownsRow (w.heap.size + 1) 25 2 (.slice co c.length cap2) c.length (pr c)) := by rw [hW]; exact owns_away (owns_away (owns_away (owns_away HO.out NV2.out _) NV2.out _) NV2.out _) NV2.out _
    have S8 : RdrStep w R (u + 34) w8 := by rw [hW]; exact RdrStep.mono ((((S7.set hR (Nat.le_of_lt z2) _).set hR (Nat.le_of_lt z2) _).set hR (Nat.le_of_lt z2) _).set hR (Nat.le_of_lt z2) _) (by omega)
    clear hW K7 G7 O7 S7 c0 c1 c2 c3 c4 c5 c6 c7 c8 c9 c10 p0 p1 p2 p3 p4 p5 p6 p7 p8 p9 p10
    refine wp_copy (t := 52) (pd := 2) (ps := 3) (ty := 30) rfl rfl rfl rfl rfl w2.heap.size w.heap.size #[.int .i64 r.num, .int .i64 r.lvl, .int .i64 r.rank, .int .i64 r.group, .int .i64 r.kind, .int .i64 r.value, .int .i64 r.cap, .int .i64 lo, .int .i64 hi, .slice co c.length cap2, .int .i64 cp] #[.int .i64 0, .int .i64 0, .int .i64 0, .int .i64 0, .int .i64 0, .int .i64 0, .int .i64 0, .int .i64 0, .int .i64 0, .slice none 0 0, .int .i64 0] 30 30 11 row30 rfl rfl rfl G8.out rfl K8.out rfl (by simp [Value.oneCell']) ?_
    go_wp2
    refine bodyPost_ret (results_row (p := 2) (ty := 30) rfl row30 _ _ w.heap.size 30 #[.int .i64 r.num, .int .i64 r.lvl, .int .i64 r.rank, .int .i64 r.group, .int .i64 r.kind, .int .i64 r.value, .int .i64 r.cap, .int .i64 lo, .int .i64 hi, .slice co c.length cap2, .int .i64 cp] rfl rfl (setRow_heap _ _ _ _ _ _ K8.out)) rfl ?_
    exact ⟨{ r with lo := lo, hi := hi, counts := c, coupon := cp }, _, rfl, owns_base (owns_row0 O8.out NW2.out _) (Nat.le_succ _), HC.out, (S8.setRow hR (Nat.le_refl _) _).mono (by omega)⟩
  · go_wp2_with fail
    refine (one_lit R _ [-1, 1000001] w6 3 S6.1 (by omega) (by simp) (by simp)).mono ?_
    rintro e w7 ⟨a, _, rfl, s7⟩
    have K7 := Lib.hid (s7.row K6.out nK)
    have G7 := Lib.hid (s7.row G6.out nG)
    have O7 := Lib.hid (owns_step O6.out s7 hR1)
    have S7 := S6.trans s7
    clear K6 G6 O6 S6 s7
    have cg := cell_of_row w7 _ 6 _ _ _ G7.out
    have pg := frozen_of_row w7 _ 6 _ _ G7.out
    go_upto_region 17 with fail
    obtain ⟨w8, hW⟩ : ∃ W, W = w7.setCell ⟨w2.heap.size, 6, none⟩ (.int .i64 a) := ⟨_, rfl⟩
    rw [← hW]
    have K8 : Hid (w8.heap[w.heap.size]? = some (.cells #[.int .i64 0, .int .i64 0, .int .i64 0, .int .i64 0, .int .i64 0, .int .i64 0, .int .i64 0, .int .i64 0, .int .i64 0, .slice none 0 0, .int .i64 0] 30 (0, 0))) := by rw [hW]; exact heap_set K7.out nKG
    have G8 : Hid (w8.heap[w2.heap.size]? = some (.cells #[.int .i64 r.num, .int .i64 r.lvl, .int .i64 r.rank, .int .i64 r.group, .int .i64 r.kind, .int .i64 r.value, .int .i64 a, .int .i64 r.lo, .int .i64 r.hi, .slice ao r.counts.length cap, .int .i64 r.coupon] 30 (0, 0))) := by rw [hW]; exact Joins.block_setCell G7.out _
    have O8 : Hid (w8.ownsRow (w.heap.size + 1) 25 2 (.slice ao r.counts.length cap) r.counts.length (pr r.counts)) := by rw [hW]; exact owns_away O7.out NV.out _
    have S8 : RdrStep w R (u + 34) w8 := by rw [hW]; exact RdrStep.mono (S7.set hR (Nat.le_of_lt z2) _) (by omega)
    clear hW K7 G7 O7 S7 cg pg
    refine wp_copy (t := 52) (pd := 2) (ps := 3) (ty := 30) rfl rfl rfl rfl rfl w2.heap.size w.heap.size #[.int .i64 r.num, .int .i64 r.lvl, .int .i64 r.rank, .int .i64 r.group, .int .i64 r.kind, .int .i64 r.value, .int .i64 a, .int .i64 r.lo, .int .i64 r.hi, .slice ao r.counts.length cap, .int .i64 r.coupon] #[.int .i64 0, .int .i64 0, .int .i64 0, .int .i64 0, .int .i64 0, .int .i64 0, .int .i64 0, .int .i64 0, .int .i64 0, .slice none 0 0, .int .i64 0] 30 30 11 row30 rfl rfl rfl G8.out rfl K8.out rfl (by simp [Value.oneCell']) ?_
    go_wp2
    refine bodyPost_ret (results_row (p := 2) (ty := 30) rfl row30 _ _ w.heap.size 30 #[.int .i64 r.num, .int .i64 r.lvl, .int .i64 r.rank, .int .i64 r.group, .int .i64 r.kind, .int .i64 r.value, .int .i64 a, .int .i64 r.lo, .int .i64 r.hi, .slice ao r.counts.length cap, .int .i64 r.coupon] rfl rfl (setRow_heap _ _ _ _ _ _ K8.out)) rfl ?_
    exact ⟨{ r with cap := a }, _, rfl, owns_base (owns_row0 O8.out NW.out _) (Nat.le_succ _), HL.out, (S8.setRow hR (Nat.le_refl _) _).mono (by omega)⟩
  · go_wp2_with fail
    refine (one_lit R _ [-2, 3] w6 3 S6.1 (by omega) (by simp) (by simp)).mono ?_
    rintro e w7 ⟨a, _, rfl, s7⟩
    have K7 := Lib.hid (s7.row K6.out nK)
    have G7 := Lib.hid (s7.row G6.out nG)
    have O7 := Lib.hid (owns_step O6.out s7 hR1)
    have S7 := S6.trans s7
    clear K6 G6 O6 S6 s7
    have cg := cell_of_row w7 _ 3 _ _ _ G7.out
    have pg := frozen_of_row w7 _ 3 _ _ G7.out
    go_upto_region 17 with fail
    obtain ⟨w8, hW⟩ : ∃ W, W = w7.setCell ⟨w2.heap.size, 3, none⟩ (.int .i64 a) := ⟨_, rfl⟩
    rw [← hW]
    have K8 : Hid (w8.heap[w.heap.size]? = some (.cells #[.int .i64 0, .int .i64 0, .int .i64 0, .int .i64 0, .int .i64 0, .int .i64 0, .int .i64 0, .int .i64 0, .int .i64 0, .slice none 0 0, .int .i64 0] 30 (0, 0))) := by rw [hW]; exact heap_set K7.out nKG
    have G8 : Hid (w8.heap[w2.heap.size]? = some (.cells #[.int .i64 r.num, .int .i64 r.lvl, .int .i64 r.rank, .int .i64 a, .int .i64 r.kind, .int .i64 r.value, .int .i64 r.cap, .int .i64 r.lo, .int .i64 r.hi, .slice ao r.counts.length cap, .int .i64 r.coupon] 30 (0, 0))) := by rw [hW]; exact Joins.block_setCell G7.out _
    have O8 : Hid (w8.ownsRow (w.heap.size + 1) 25 2 (.slice ao r.counts.length cap) r.counts.length (pr r.counts)) := by rw [hW]; exact owns_away O7.out NV.out _
    have S8 : RdrStep w R (u + 34) w8 := by rw [hW]; exact RdrStep.mono (S7.set hR (Nat.le_of_lt z2) _) (by omega)
    clear hW K7 G7 O7 S7 cg pg
    refine wp_copy (t := 52) (pd := 2) (ps := 3) (ty := 30) rfl rfl rfl rfl rfl w2.heap.size w.heap.size #[.int .i64 r.num, .int .i64 r.lvl, .int .i64 r.rank, .int .i64 a, .int .i64 r.kind, .int .i64 r.value, .int .i64 r.cap, .int .i64 r.lo, .int .i64 r.hi, .slice ao r.counts.length cap, .int .i64 r.coupon] #[.int .i64 0, .int .i64 0, .int .i64 0, .int .i64 0, .int .i64 0, .int .i64 0, .int .i64 0, .int .i64 0, .int .i64 0, .slice none 0 0, .int .i64 0] 30 30 11 row30 rfl rfl rfl G8.out rfl K8.out rfl (by simp [Value.oneCell']) ?_
    go_wp2
    refine bodyPost_ret (results_row (p := 2) (ty := 30) rfl row30 _ _ w.heap.size 30 #[.int .i64 r.num, .int .i64 r.lvl, .int .i64 r.rank, .int .i64 a, .int .i64 r.kind, .int .i64 r.value, .int .i64 r.cap, .int .i64 r.lo, .int .i64 r.hi, .slice ao r.counts.length cap, .int .i64 r.coupon] rfl rfl (setRow_heap _ _ _ _ _ _ K8.out)) rfl ?_
    exact ⟨{ r with group := a }, _, rfl, owns_base (owns_row0 O8.out NW.out _) (Nat.le_succ _), HL.out, (S8.setRow hR (Nat.le_refl _) _).mono (by omega)⟩
  · have n0 : (m == 0) = false := by simp; omega
    have n1 : (m == 1) = false := by simp; omega
    have n2 : (m == 2) = false := by simp; omega
    have n3 : (m == 3) = false := by simp; omega
    have n4 : (m == 4) = false := by simp; omega
    have n5 : (m == 5) = false := by simp; omega
    have n6 : (m == 6) = false := by simp; omega
    go_upto_region 17 with fail
    refine wp_copy (t := 52) (pd := 2) (ps := 3) (ty := 30) rfl rfl rfl rfl rfl w2.heap.size w.heap.size #[.int .i64 r.num, .int .i64 r.lvl, .int .i64 r.rank, .int .i64 r.group, .int .i64 r.kind, .int .i64 r.value, .int .i64 r.cap, .int .i64 r.lo, .int .i64 r.hi, .slice ao r.counts.length cap, .int .i64 r.coupon] #[.int .i64 0, .int .i64 0, .int .i64 0, .int .i64 0, .int .i64 0, .int .i64 0, .int .i64 0, .int .i64 0, .int .i64 0, .slice none 0 0, .int .i64 0] 30 30 11 row30 rfl rfl rfl G6.out rfl K6.out rfl (by simp [Value.oneCell']) ?_
    go_wp2
    refine bodyPost_ret (results_row (p := 2) (ty := 30) rfl row30 _ _ w.heap.size 30 #[.int .i64 r.num, .int .i64 r.lvl, .int .i64 r.rank, .int .i64 r.group, .int .i64 r.kind, .int .i64 r.value, .int .i64 r.cap, .int .i64 r.lo, .int .i64 r.hi, .slice ao r.counts.length cap, .int .i64 r.coupon] rfl rfl (setRow_heap _ _ _ _ _ _ K6.out)) rfl ?_
    exact ⟨r, _, rfl, owns_base (owns_row0 O6.out NW.out _) (Nat.le_succ _), HL.out, (S6.setRow hR (Nat.le_refl _) _).mono (by omega)⟩

end Go.Proofs.YtdofpealmngmiaaGreatDoor
