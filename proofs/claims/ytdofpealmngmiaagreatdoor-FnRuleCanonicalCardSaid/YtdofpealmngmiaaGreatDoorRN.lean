/- Walks: the generator of guards. Conditions: none. -/
import Derived.Test.YtdofpealmngmiaaGreatDoorRM
import Derived.Test.YtdofpealmngmiaaGreatDoorRU
import Derived.Deep.RegionWith
import Derived.Deep.RegionHeld3
namespace Go.Proofs.YtdofpealmngmiaaGreatDoor
open Go.RowKit

/-- What a drawn guard is: three spans in a row of its own. -/
def GdPost (n : Nat) (w : World) (R u : Nat) (e : Ending) (w' : World) : Prop :=
  ∃ (lo hi cp : Int) (g : Nat) (a0 b0 a1 b1 a2 b2 : Int), e = .returned (.agg #[.int .i64 lo, .int .i64 hi, .slice (some ⟨g, 0, none⟩) 3 3, .int .i64 cp]) ∧ w.heap.size ≤ g ∧
    w'.heap[g]? = some (.cells #[.int .i64 a0, .int .i64 b0, .int .i64 a1, .int .i64 b1, .int .i64 a2, .int .i64 b2] 25 (0, 0)) ∧ RdrStep w R (u + n) w'

set_option maxHeartbeats 4000000 in
set_option maxRecDepth 100000 in
theorem someGuard_any (R u : Nat) (w : World) (h : Rdr w R u) (hu : u ≤ 999999998000) :
    Calls Tryz.prog 52 #[.pointer (some ⟨R, 0, none⟩)] w (GdPost 6 w R u) := by
  have hR := h.lt
  have S0 := (RdrStep.refl h).alloc (.cells #[.int .i64 0, .int .i64 0, .slice none 0 0, .int .i64 0] 28)
  have k0 := heap_alloc_new w (.cells #[.int .i64 0, .int .i64 0, .slice none 0 0, .int .i64 0] 28)
  have K0 := Lib.hid k0
  clear k0
  go_enter Tryz.func52, Tryz.ntmps52
  go_wp2_with fail
  refine (all_any _).mono ?_
  rintro e W1 ⟨rfl, hb⟩
  have k1 := (hb.block w.heap.size (by simp)).trans K0.out
  have S1 := S0.below hb (by simp; omega) (by simp)
  clear hb S0
  go_wp2_with fail
  refine (all_any _).mono ?_
  rintro e W2 ⟨rfl, hb⟩
  have k2 := (hb.block w.heap.size (Array.getElem?_eq_some_iff.1 k1).1).trans k1
  have S2 := S1.below hb S1.1.lt (S1.size)
  clear hb S1
  go_wp2_with fail
  refine (all_any _).mono ?_
  rintro e W3 ⟨rfl, hb⟩
  have k3 := (hb.block w.heap.size (Array.getElem?_eq_some_iff.1 k2).1).trans k2
  have S3 := S2.below hb S2.1.lt (S2.size)
  clear hb S2
  go_wp2_with fail
  refine (all_any _).mono ?_
  rintro e W4 ⟨rfl, hb⟩
  have k4 := (hb.block w.heap.size (Array.getElem?_eq_some_iff.1 k3).1).trans k3
  have S4 := S3.below hb S3.1.lt (S3.size)
  clear hb S3
  have Z4 : w.heap.size < W4.heap.size := (Array.getElem?_eq_some_iff.1 k4).1
  obtain ⟨e0, e1, z6, b6⟩ := two_blocks W4 (.cells #[.int .i64 0, .int .i64 1000000, .int .i64 0, .int .i64 1000000, .int .i64 0, .int .i64 1000000] 25) (.cells #[.int .i64 0, .int .i64 1000000, .slice (some ⟨W4.heap.size, 0, none⟩) 3 3, .int .i64 0] 28)
  have k5 := (b6.block w.heap.size Z4).trans k4
  have S5 := S4.below b6 S4.1.lt (Nat.le_of_lt Z4)
  have nG : W4.heap.size + 1 ≠ R := by omega
  have nF : W4.heap.size ≠ R := by omega
  have nK : w.heap.size ≠ R := by omega
  go_wp2_with fail
  refine (pick_any R _ _ _ S5.1 (by omega)).mono ?_
  rintro e w6 ⟨m, rfl, hm0, hm1, s6⟩
  have hm2 := hm1 (by omega)
  have K6 := Lib.hid (s6.row k5 nK)
  have F6 := Lib.hid (s6.row e0 nF)
  have G6 := Lib.hid (s6.row e1 nG)
  have S6 := S5.trans s6
  have Y6 : W4.heap.size + 1 < w6.heap.size := (Array.getElem?_eq_some_iff.1 G6.out).1
  clear s6 S5 S4 k5 k4 k3 k2 k1 e0 e1 b6 hm1 K0
  rcases (by omega : m = 0 ∨ m = 1 ∨ m = 2 ∨ m = 3 ∨ m = 4) with rfl | rfl | rfl | rfl | rfl
  · go_wp2_with fail
    refine (one_lit R _ [100, 1000, 2000, 0] w6 3 S6.1 (by omega) (by simp) (by simp)).mono ?_
    rintro e w7 ⟨a, _, rfl, s7⟩
    have K7 := Lib.hid (s7.row K6.out nK)
    have F7 := Lib.hid (s7.row F6.out nF)
    have G7 := Lib.hid (s7.row G6.out nG)
    have S7 := S6.trans s7
    have Y7 := Nat.lt_of_lt_of_le Y6 s7.size
    clear K6 F6 G6 S6 s7 Y6
    obtain ⟨⟨c0, c1, c2, c3⟩, p0, p1, p2, p3⟩ := row4 G7.out
    go_upto_region 12 with fail
    obtain ⟨w8, hW⟩ : ∃ W, W = (w7.setCell ⟨W4.heap.size + 1, 0, none⟩ (.int .i64 a)).setCell ⟨W4.heap.size + 1, 1, none⟩ (.int .i64 1000000) := ⟨_, rfl⟩
    rw [← hW]
    have K8 : Hid (w8.heap[w.heap.size]? = some (.cells #[.int .i64 0, .int .i64 0, .slice none 0 0, .int .i64 0] 28 (0, 0))) := by rw [hW]; exact heap_set (heap_set (K7.out) (by omega)) (by omega)
    have F8 : Hid (w8.heap[W4.heap.size]? = some (.cells #[.int .i64 0, .int .i64 1000000, .int .i64 0, .int .i64 1000000, .int .i64 0, .int .i64 1000000] 25 (0, 0))) := by rw [hW]; exact heap_set (heap_set (F7.out) (Nat.ne_of_lt (Nat.lt_succ_self _))) (Nat.ne_of_lt (Nat.lt_succ_self _))
    have G8 : Hid (w8.heap[W4.heap.size + 1]? = some (.cells #[.int .i64 a, .int .i64 1000000, .slice (some ⟨W4.heap.size, 0, none⟩) 3 3, .int .i64 0] 28 (0, 0))) := by rw [hW]; exact Joins.block_setCell (Joins.block_setCell (G7.out) _) _
    have S8 : RdrStep w R (u + 2) w8 := by rw [hW]; exact RdrStep.set (RdrStep.set (S7) hR (by omega) _) hR (by omega) _
    have Y8 : W4.heap.size + 1 < w8.heap.size := (Array.getElem?_eq_some_iff.1 G8.out).1
    clear hW K7 F7 G7 S7 Y7 c0 c1 c2 c3 p0 p1 p2 p3
    refine wp_copy (t := 49) (pd := 2) (ps := 3) (ty := 28) rfl rfl rfl rfl rfl (W4.heap.size + 1) w.heap.size #[.int .i64 a, .int .i64 1000000, .slice (some ⟨W4.heap.size, 0, none⟩) 3 3, .int .i64 0] #[.int .i64 0, .int .i64 0, .slice none 0 0, .int .i64 0] 28 28 4 row28 rfl rfl rfl G8.out rfl K8.out rfl (by simp [Value.oneCell']) ?_
    go_wp2
    refine bodyPost_ret (results_row (p := 2) (ty := 28) rfl row28 _ _ w.heap.size 28 #[.int .i64 a, .int .i64 1000000, .slice (some ⟨W4.heap.size, 0, none⟩) 3 3, .int .i64 0] rfl rfl (setRow_heap _ _ _ _ _ _ K8.out)) rfl ?_
    exact ⟨a, 1000000, 0, W4.heap.size, 0, 1000000, 0, 1000000, 0, 1000000, rfl, Nat.le_of_lt Z4, (setRow_other _ _ _ _ (Nat.ne_of_gt Z4)).trans F8.out, (S8.setRow hR (Nat.le_refl _) _).mono (by omega)⟩
  · have S6d := S6.drew
    have h2a : (it [1, 2, 3]).toArray = #[.int .i64 1, .int .i64 2, .int .i64 3] := rfl
    obtain ⟨⟨c0, c1, c2, c3⟩, _⟩ := row4 G6.out
    go_upto_region 6 with fail
    go_region_held3 (fun W' => W'.cell? ⟨W4.heap.size + 1, 2, none⟩ = some (.slice (some ⟨W4.heap.size, 0, none⟩) 3 3)) (first | exact h2 | exact f2 | exact d2 | exact c2 | (go_keep; done))
     ((first
      | (go_at_call 13; (with_reducible refine (pick_any R (u + 1) _ _ (by first | exact S6d.rdr | exact (S6.alloc _).drew.rdr | exact ((S6.alloc _).alloc _).drew.rdr) (by omega)).mono ?_); rintro e w7 ⟨k0, rfl, hk0, hk1, s7⟩
         have hk2 := hk1 (by omega)
         obtain ⟨k, rfl⟩ := Int.eq_ofNat_of_zero_le hk0
         have hk : k < 3 := (by omega)
         have K7 := Lib.hid (show w7.heap[w.heap.size]? = _ from (by first | exact s7.row K6.out nK | exact s7.row (heap_keep K6.out) nK | exact s7.row (heap_keep (heap_keep K6.out)) nK))
         have F7 := Lib.hid (show w7.heap[W4.heap.size]? = _ from (by first | exact s7.row F6.out nF | exact s7.row (heap_keep F6.out) nF | exact s7.row (heap_keep (heap_keep F6.out)) nF))
         have G7 := Lib.hid (show w7.heap[W4.heap.size + 1]? = _ from (by first | exact s7.row G6.out nG | exact s7.row (heap_keep G6.out) nG | exact s7.row (heap_keep (heap_keep G6.out)) nG))
         have S7 : RdrStep w R (u + 2) w7 := (by first | exact S6d.trans s7 | exact (S6.alloc _).drew.trans s7 | exact ((S6.alloc _).alloc _).drew.trans s7)
         try have l1 := s7.row (g := w6.heap.size) (by first | exact heap_alloc_new _ _ | exact heap_keep (heap_alloc_new _ _)) (by omega)
         try have l2 := s7.row (g := w6.heap.size + 1) (two_blocks w6 _ _).2.1 (by omega)
         obtain ⟨⟨d0, d1, d2, d3⟩, _⟩ := row4 G7.out
         have Y7 := (Array.getElem?_eq_some_iff.1 G7.out).1)
      | (go_at_call 35; (refine (one_at R (u + 2) _ 3 [1, 2, 3] _ (by first | exact S7.rdr | exact (S7.alloc _).rdr | exact ((S7.alloc _).alloc _).rdr) (by omega) (by omega) (by simp) (by simp) (by first | exact l1 | exact l2 | exact heap_keep l1 | exact heap_keep l2 | exact heap_alloc_new _ _ | exact heap_keep (heap_alloc_new _ _) | exact (two_blocks _ _ _).2.1)).mono ?_); rintro e w8 ⟨p, _, rfl, s8⟩
         have K8 := Lib.hid (show w8.heap[w.heap.size]? = _ from (by first | exact s8.row K7.out nK | exact s8.row (heap_keep K7.out) nK | exact s8.row (heap_keep (heap_keep K7.out)) nK))
         have F8 := Lib.hid (show w8.heap[W4.heap.size]? = _ from (by first | exact s8.row F7.out nF | exact s8.row (heap_keep F7.out) nF | exact s8.row (heap_keep (heap_keep F7.out)) nF))
         have G8 := Lib.hid (show w8.heap[W4.heap.size + 1]? = _ from (by first | exact s8.row G7.out nG | exact s8.row (heap_keep G7.out) nG | exact s8.row (heap_keep (heap_keep G7.out)) nG))
         have S8 : RdrStep w R (u + 3) w8 := (by first | exact S7.trans s8 | exact (S7.alloc _).trans s8 | exact ((S7.alloc _).alloc _).trans s8)
         try have m1 := s8.row (by first | exact l1 | exact heap_keep l1 | exact heap_keep (heap_keep l1)) (by omega)
         try have m2 := s8.row (by first | exact l2 | exact heap_keep l2 | exact heap_keep (heap_keep l2)) (by omega)
         try have n1 := s8.row (g := w7.heap.size) (by first | exact heap_alloc_new _ _ | exact heap_keep (heap_alloc_new _ _)) (by omega)
         try have n2 := s8.row (g := w7.heap.size + 1) (two_blocks w7 _ _).2.1 (by omega)
         obtain ⟨⟨f0, f1, f2, f3⟩, _⟩ := row4 G8.out
         have Y8 := (Array.getElem?_eq_some_iff.1 G8.out).1)
      | (go_at_call 35; (refine (one_at R (u + 3) _ 3 [5, 10, 1000000] _ (by first | exact S8.rdr | exact (S8.alloc _).rdr) (by omega) (by omega) (by simp) (by simp) (by first | exact m1 | exact m2 | exact n1 | exact n2 | exact heap_keep m1 | exact heap_keep n1 | exact heap_alloc_new _ _)).mono ?_); rintro e w9 ⟨q, _, rfl, s9⟩
         have K9 := Lib.hid (show w9.heap[w.heap.size]? = _ from (by first | exact s9.row K8.out nK | exact s9.row (heap_keep K8.out) nK))
         have F9 := Lib.hid (show w9.heap[W4.heap.size]? = _ from (by first | exact s9.row F8.out nF | exact s9.row (heap_keep F8.out) nF))
         have G9 := Lib.hid (show w9.heap[W4.heap.size + 1]? = _ from (by first | exact s9.row G8.out nG | exact s9.row (heap_keep G8.out) nG))
         have S9 : RdrStep w R (u + 4) w9 := (by first | exact S8.trans s9 | exact (S8.alloc _).trans s9)
         obtain ⟨⟨h0, h1, h2, h3⟩, _⟩ := row4 G9.out
         obtain ⟨_, _, i0, i1, j0, j1⟩ := six_at F9.out hk
         have Y9 := (Array.getElem?_eq_some_iff.1 G9.out).1)))
    all_goals
      obtain ⟨a0, b0, a1, b1, a2, b2, F10⟩ := six_set F9.out hk p q
      have K10 := Lib.hid (heap_set (i := k * 2 + 1) (v := .int .i64 q) (heap_set (i := k * 2) (v := .int .i64 p) K9.out (Nat.ne_of_lt Z4)) (Nat.ne_of_lt Z4))
      have G10 := Lib.hid (heap_set (i := k * 2 + 1) (v := .int .i64 q) (heap_set (i := k * 2) (v := .int .i64 p) G9.out (Nat.ne_of_gt (Nat.lt_succ_self _))) (Nat.ne_of_gt (Nat.lt_succ_self _)))
      have S10 := (S9.set (i := k * 2) hR (Nat.le_of_lt Z4) (.int .i64 p)).set (i := k * 2 + 1) hR (Nat.le_of_lt Z4) (.int .i64 q)
      have F10 := Lib.hid F10
      generalize (w9.setCell ⟨W4.heap.size, k * 2, none⟩ (.int .i64 p)).setCell ⟨W4.heap.size, k * 2 + 1, none⟩ (.int .i64 q) = W10 at *
      clear F9 K9 G9 S9
      go_upto_region 12 with fail
      refine wp_copy (t := 49) (pd := 2) (ps := 3) (ty := 28) rfl rfl rfl rfl rfl (W4.heap.size + 1) w.heap.size #[.int .i64 0, .int .i64 1000000, .slice (some ⟨W4.heap.size, 0, none⟩) 3 3, .int .i64 0] #[.int .i64 0, .int .i64 0, .slice none 0 0, .int .i64 0] 28 28 4 row28 rfl rfl rfl G10.out rfl K10.out rfl (by simp [Value.oneCell']) ?_
      go_wp2
      refine bodyPost_ret (results_row (p := 2) (ty := 28) rfl row28 _ _ w.heap.size 28 #[.int .i64 0, .int .i64 1000000, .slice (some ⟨W4.heap.size, 0, none⟩) 3 3, .int .i64 0] rfl rfl (setRow_heap _ _ _ _ _ _ K10.out)) rfl ?_
      exact ⟨0, 1000000, 0, W4.heap.size, a0, b0, a1, b1, a2, b2, rfl, Nat.le_of_lt Z4, (setRow_other _ _ _ _ (Nat.ne_of_gt Z4)).trans F10.out, (S10.setRow hR (Nat.le_refl _) _).mono (by omega)⟩
  · go_wp2_with fail
    refine (pick_any R _ _ _ S6.1 (by omega)).mono ?_
    rintro e w7 ⟨a, rfl, ha0, ha1, s7⟩
    have ha2 := ha1 (by omega)
    clear ha1
    have K7 := Lib.hid (s7.row K6.out nK)
    have F7 := Lib.hid (s7.row F6.out nF)
    have G7 := Lib.hid (s7.row G6.out nG)
    have S7 := S6.trans s7
    have Y7 := Nat.lt_of_lt_of_le Y6 s7.size
    clear K6 F6 G6 S6 s7 Y6
    obtain ⟨⟨c0, c1, c2, c3⟩, p0, p1, p2, p3⟩ := row4 G7.out
    have hw : IntKind.i64.wrap (1 + a) = 1 + a := IntWalk.i64_in _ (by omega)
    go_upto_region 12 with fail
    obtain ⟨w8, hW⟩ : ∃ W, W = w7.setCell ⟨W4.heap.size + 1, 3, none⟩ (.int .i64 (1 + a)) := ⟨_, rfl⟩
    rw [← hW]
    have K8 : Hid (w8.heap[w.heap.size]? = some (.cells #[.int .i64 0, .int .i64 0, .slice none 0 0, .int .i64 0] 28 (0, 0))) := by rw [hW]; exact heap_set (K7.out) (by omega)
    have F8 : Hid (w8.heap[W4.heap.size]? = some (.cells #[.int .i64 0, .int .i64 1000000, .int .i64 0, .int .i64 1000000, .int .i64 0, .int .i64 1000000] 25 (0, 0))) := by rw [hW]; exact heap_set (F7.out) (Nat.ne_of_lt (Nat.lt_succ_self _))
    have G8 : Hid (w8.heap[W4.heap.size + 1]? = some (.cells #[.int .i64 0, .int .i64 1000000, .slice (some ⟨W4.heap.size, 0, none⟩) 3 3, .int .i64 (1 + a)] 28 (0, 0))) := by rw [hW]; exact Joins.block_setCell (G7.out) _
    have S8 : RdrStep w R (u + 2) w8 := by rw [hW]; exact RdrStep.set (S7) hR (by omega) _
    have Y8 : W4.heap.size + 1 < w8.heap.size := (Array.getElem?_eq_some_iff.1 G8.out).1
    clear hW K7 F7 G7 S7 Y7 c0 c1 c2 c3 p0 p1 p2 p3
    refine wp_copy (t := 49) (pd := 2) (ps := 3) (ty := 28) rfl rfl rfl rfl rfl (W4.heap.size + 1) w.heap.size #[.int .i64 0, .int .i64 1000000, .slice (some ⟨W4.heap.size, 0, none⟩) 3 3, .int .i64 (1 + a)] #[.int .i64 0, .int .i64 0, .slice none 0 0, .int .i64 0] 28 28 4 row28 rfl rfl rfl G8.out rfl K8.out rfl (by simp [Value.oneCell']) ?_
    go_wp2
    refine bodyPost_ret (results_row (p := 2) (ty := 28) rfl row28 _ _ w.heap.size 28 #[.int .i64 0, .int .i64 1000000, .slice (some ⟨W4.heap.size, 0, none⟩) 3 3, .int .i64 (1 + a)] rfl rfl (setRow_heap _ _ _ _ _ _ K8.out)) rfl ?_
    exact ⟨0, 1000000, (1 + a), W4.heap.size, 0, 1000000, 0, 1000000, 0, 1000000, rfl, Nat.le_of_lt Z4, (setRow_other _ _ _ _ (Nat.ne_of_gt Z4)).trans F8.out, (S8.setRow hR (Nat.le_refl _) _).mono (by omega)⟩
  · go_wp2_with fail
    refine (someSpan_any R _ _ S6.1 (by omega)).mono ?_
    rintro e w7 ⟨a, b, rfl, s7⟩
    have K7 := Lib.hid (s7.row K6.out nK)
    have F7 := Lib.hid (s7.row F6.out nF)
    have G7 := Lib.hid (s7.row G6.out nG)
    have S7 := S6.trans s7
    have Y7 := Nat.lt_of_lt_of_le Y6 s7.size
    clear K6 F6 G6 S6 s7 Y6
    obtain ⟨⟨c0, c1, c2, c3⟩, p0, p1, p2, p3⟩ := row4 G7.out
    go_upto_region 11 with fail
    obtain ⟨w8, hW⟩ : ∃ W, W = (w7.setCell ⟨W4.heap.size + 1, 0, none⟩ (.int .i64 a)).setCell ⟨W4.heap.size + 1, 1, none⟩ (.int .i64 b) := ⟨_, rfl⟩
    rw [← hW]
    have K8 : Hid (w8.heap[w.heap.size]? = some (.cells #[.int .i64 0, .int .i64 0, .slice none 0 0, .int .i64 0] 28 (0, 0))) := by rw [hW]; exact heap_set (heap_set (K7.out) (by omega)) (by omega)
    have F8 : Hid (w8.heap[W4.heap.size]? = some (.cells #[.int .i64 0, .int .i64 1000000, .int .i64 0, .int .i64 1000000, .int .i64 0, .int .i64 1000000] 25 (0, 0))) := by rw [hW]; exact heap_set (heap_set (F7.out) (Nat.ne_of_lt (Nat.lt_succ_self _))) (Nat.ne_of_lt (Nat.lt_succ_self _))
    have G8 : Hid (w8.heap[W4.heap.size + 1]? = some (.cells #[.int .i64 a, .int .i64 b, .slice (some ⟨W4.heap.size, 0, none⟩) 3 3, .int .i64 0] 28 (0, 0))) := by rw [hW]; exact Joins.block_setCell (Joins.block_setCell (G7.out) _) _
    have S8 : RdrStep w R (u + 3) w8 := by rw [hW]; exact RdrStep.set (RdrStep.set (S7) hR (by omega) _) hR (by omega) _
    have Y8 : W4.heap.size + 1 < w8.heap.size := (Array.getElem?_eq_some_iff.1 G8.out).1
    clear hW K7 F7 G7 S7 Y7 c0 c1 c2 c3 p0 p1 p2 p3
    obtain ⟨⟨c0, c1, c2, c3⟩, _⟩ := row4 G8.out
    go_region_with (go_at_call 64; (refine (someSpan_any R _ w8.drew S8.drew.1 (by omega)).mono ?_); rintro e w9 ⟨p, q, rfl, s9⟩; have g9 := s9.row G8.out nG; obtain ⟨⟨d0, d1, d2, d3⟩, _⟩ := row4 g9; have f9 := s9.row F8.out nF; obtain ⟨⟨i0, i1, i2, i3, i4, i5⟩, j0, j1, j2, j3, j4, j5⟩ := row6 f9)
    all_goals go_upto_region 12 with fail
    all_goals
      have K9 := Lib.hid (s9.row K8.out nK)
      have F9 := Lib.hid f9
      have G9 := Lib.hid g9
      have S9 := S8.drew.trans s9
      have Y9 := Nat.lt_of_lt_of_le Y8 s9.size
      obtain ⟨w10, hW⟩ : ∃ W, W = (w9.setCell ⟨W4.heap.size, 0, none⟩ (.int .i64 p)).setCell ⟨W4.heap.size, 1, none⟩ (.int .i64 q) := ⟨_, rfl⟩
      rw [← hW]
      have K10 : Hid (w10.heap[w.heap.size]? = some (.cells #[.int .i64 0, .int .i64 0, .slice none 0 0, .int .i64 0] 28 (0, 0))) := by rw [hW]; exact heap_set (heap_set (K9.out) (by omega)) (by omega)
      have F10 : Hid (w10.heap[W4.heap.size]? = some (.cells #[.int .i64 p, .int .i64 q, .int .i64 0, .int .i64 1000000, .int .i64 0, .int .i64 1000000] 25 (0, 0))) := by rw [hW]; exact Joins.block_setCell (Joins.block_setCell (F9.out) _) _
      have G10 : Hid (w10.heap[W4.heap.size + 1]? = some (.cells #[.int .i64 a, .int .i64 b, .slice (some ⟨W4.heap.size, 0, none⟩) 3 3, .int .i64 0] 28 (0, 0))) := by rw [hW]; exact heap_set (heap_set (G9.out) (Nat.ne_of_gt (Nat.lt_succ_self _))) (Nat.ne_of_gt (Nat.lt_succ_self _))
      have S10 : RdrStep w R (u + 5) w10 := by rw [hW]; exact RdrStep.set (RdrStep.set (S9) hR (by omega) _) hR (by omega) _
      have Y10 : W4.heap.size + 1 < w10.heap.size := (Array.getElem?_eq_some_iff.1 G10.out).1
      clear hW K9 F9 G9 S9 Y9
      refine wp_copy (t := 49) (pd := 2) (ps := 3) (ty := 28) rfl rfl rfl rfl rfl (W4.heap.size + 1) w.heap.size #[.int .i64 a, .int .i64 b, .slice (some ⟨W4.heap.size, 0, none⟩) 3 3, .int .i64 0] #[.int .i64 0, .int .i64 0, .slice none 0 0, .int .i64 0] 28 28 4 row28 rfl rfl rfl G10.out rfl K10.out rfl (by simp [Value.oneCell']) ?_
      go_wp2
      refine bodyPost_ret (results_row (p := 2) (ty := 28) rfl row28 _ _ w.heap.size 28 #[.int .i64 a, .int .i64 b, .slice (some ⟨W4.heap.size, 0, none⟩) 3 3, .int .i64 0] rfl rfl (setRow_heap _ _ _ _ _ _ K10.out)) rfl ?_
      exact ⟨a, b, 0, W4.heap.size, p, q, 0, 1000000, 0, 1000000, rfl, Nat.le_of_lt Z4, (setRow_other _ _ _ _ (Nat.ne_of_gt Z4)).trans F10.out, (S10.setRow hR (Nat.le_refl _) _).mono (by omega)⟩
  · go_upto_region 12 with fail
    refine wp_copy (t := 49) (pd := 2) (ps := 3) (ty := 28) rfl rfl rfl rfl rfl (W4.heap.size + 1) w.heap.size #[.int .i64 0, .int .i64 1000000, .slice (some ⟨W4.heap.size, 0, none⟩) 3 3, .int .i64 0] #[.int .i64 0, .int .i64 0, .slice none 0 0, .int .i64 0] 28 28 4 row28 rfl rfl rfl G6.out rfl K6.out rfl (by simp [Value.oneCell']) ?_
    go_wp2
    refine bodyPost_ret (results_row (p := 2) (ty := 28) rfl row28 _ _ w.heap.size 28 #[.int .i64 0, .int .i64 1000000, .slice (some ⟨W4.heap.size, 0, none⟩) 3 3, .int .i64 0] rfl rfl (setRow_heap _ _ _ _ _ _ K6.out)) rfl ?_
    exact ⟨0, 1000000, 0, W4.heap.size, 0, 1000000, 0, 1000000, 0, 1000000, rfl, Nat.le_of_lt Z4, (setRow_other _ _ _ _ (Nat.ne_of_gt Z4)).trans F6.out, (S6.setRow hR (Nat.le_refl _) _).mono (by omega)⟩

end Go.Proofs.YtdofpealmngmiaaGreatDoor
