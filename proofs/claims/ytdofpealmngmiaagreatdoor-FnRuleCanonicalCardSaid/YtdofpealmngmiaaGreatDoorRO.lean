/- Walks: the generators of rules. Conditions: none. -/
import Derived.Test.YtdofpealmngmiaaGreatDoorRSX
namespace Go.Proofs.YtdofpealmngmiaaGreatDoor
open Go.RowKit

/-- What a drawn rule is: numbers, and spans in a row of its own. -/
def RuPost (n : Nat) (w : World) (R u : Nat) (e : Ending) (w' : World) : Prop :=
  ∃ (r : Rl) (v : Value), e = .returned (ruV r v) ∧ w'.ownsRow w.heap.size 25 2 v r.counts.length (pr r.counts) ∧ r.counts.length ≤ 4 ∧ RdrStep w R (u + n) w'

set_option maxHeartbeats 4000000 in
set_option maxRecDepth 100000 in
theorem someRule_any (R u : Nat) (num : Int) (w : World) (h : Rdr w R u) (hu : u ≤ 999999996000) :
    Calls Tryz.prog 34 #[.pointer (some ⟨R, 0, none⟩), .int .i64 num] w (RuPost 16 w R u) := by
  have hR := h.lt
  have S0 := (RdrStep.refl h).alloc (.cells #[.int .i64 0, .int .i64 0, .int .i64 0, .int .i64 0, .int .i64 0, .int .i64 0, .int .i64 0, .int .i64 0, .int .i64 0, .slice none 0 0, .int .i64 0] 30)
  have k0 := heap_alloc_new w (.cells #[.int .i64 0, .int .i64 0, .int .i64 0, .int .i64 0, .int .i64 0, .int .i64 0, .int .i64 0, .int .i64 0, .int .i64 0, .slice none 0 0, .int .i64 0] 30)
  have K0 := Lib.hid k0
  clear k0
  go_enter Tryz.func34, Tryz.ntmps34
  go_wp2_with fail
  refine (pick_any R _ _ _ S0.1 (by omega)).mono ?_
  rintro e w1 ⟨l0, rfl, hl0, jl0, s1⟩
  have il0 := jl0 (by omega)
  have k1 := s1.row K0.out (by omega)
  have S1 := S0.trans s1
  clear jl0 s1 S0
  go_wp2_with fail
  refine (pick_any R _ _ _ S1.1 (by omega)).mono ?_
  rintro e w2 ⟨k0, rfl, hk0, jk0, s2⟩
  have ik0 := jk0 (by omega)
  have k2 := s2.row k1 (by omega)
  have S2 := S1.trans s2
  clear jk0 s2 S1
  go_wp2_with fail
  refine (pick_any R _ _ _ S2.1 (by omega)).mono ?_
  rintro e w3 ⟨g0, rfl, hg0, jg0, s3⟩
  have ig0 := jg0 (by omega)
  have k3 := s3.row k2 (by omega)
  have S3 := S2.trans s3
  clear jg0 s3 S2
  have hw1 : IntKind.i64.wrap (g0 - 1) = g0 - 1 := IntWalk.i64_in _ (by omega)
  go_wp2_with fail
  refine (pick_any R _ _ _ S3.1 (by omega)).mono ?_
  rintro e w4 ⟨d0, rfl, hd0, jd0, s4⟩
  have id0 := jd0 (by omega)
  have k4 := s4.row k3 (by omega)
  have S4 := S3.trans s4
  clear jd0 s4 S3
  have hw2 : IntKind.i64.wrap (1 + d0) = 1 + d0 := IntWalk.i64_in _ (by omega)
  go_wp2_with fail
  refine (someGuard_any R _ _ S4.1 (by omega)).mono ?_
  rintro e w5 ⟨lo, hi, cp, g, a0, b0, a1, b1, a2, b2, rfl, hg, f5, s5⟩
  have z4 : w.heap.size < w4.heap.size := (Array.getElem?_eq_some_iff.1 k4).1
  have k5 := s5.row k4 (by omega)
  have S5 := S4.trans s5
  have gl : g < w5.heap.size := (Array.getElem?_eq_some_iff.1 f5).1
  have al := heap_alloc_new w5 (.cells #[.int .i64 num, .int .i64 l0, .int .i64 k0, .int .i64 (g0 - 1), .int .i64 (1 + d0), .int .i64 0, .int .i64 0, .int .i64 lo, .int .i64 hi, .slice (some ⟨g, 0, none⟩) 3 3, .int .i64 cp] 30)
  have nG : w5.heap.size ≠ R := Nat.ne_of_gt S5.1.lt
  have nF : g ≠ R := by omega
  have nK : w.heap.size ≠ R := by omega
  have nKF : w.heap.size ≠ g := by omega
  have nKG : w.heap.size ≠ w5.heap.size := by omega
  have nFG : g ≠ w5.heap.size := by omega
  have hg0 : w.heap.size ≤ g := by omega
  have K6 := Lib.hid (heap_keep (x := .cells #[.int .i64 num, .int .i64 l0, .int .i64 k0, .int .i64 (g0 - 1), .int .i64 (1 + d0), .int .i64 0, .int .i64 0, .int .i64 lo, .int .i64 hi, .slice (some ⟨g, 0, none⟩) 3 3, .int .i64 cp] 30) k5)
  have F6 := Lib.hid (heap_keep (x := .cells #[.int .i64 num, .int .i64 l0, .int .i64 k0, .int .i64 (g0 - 1), .int .i64 (1 + d0), .int .i64 0, .int .i64 0, .int .i64 lo, .int .i64 hi, .slice (some ⟨g, 0, none⟩) 3 3, .int .i64 cp] 30) f5)
  have G6 := Lib.hid al
  have S6 := S5.alloc (.cells #[.int .i64 num, .int .i64 l0, .int .i64 k0, .int .i64 (g0 - 1), .int .i64 (1 + d0), .int .i64 0, .int .i64 0, .int .i64 lo, .int .i64 hi, .slice (some ⟨g, 0, none⟩) 3 3, .int .i64 cp] 30)
  have kds : d0 = 0 ∨ d0 = 1 ∨ d0 = 2 := by omega
  have c6 := cell_of_row _ _ 4 _ _ _ al
  clear K0 k1 k2 k3 k4 k5 f5 al s5 S4 S5 hg
  rcases kds with rfl | rfl | rfl
  · go_wp2_with fail
    have c1 := one_lit R _ [100, 50, 333, 1000, 1] (w5.alloc (.cells #[.int .i64 num, .int .i64 l0, .int .i64 k0, .int .i64 (g0 - 1), .int .i64 1, .int .i64 0, .int .i64 0, .int .i64 lo, .int .i64 hi, .slice (some ⟨g, 0, none⟩) 3 3, .int .i64 cp] 30)) 3 S6.1 (by omega) (by simp) (by simp)
    rw [World.size_alloc] at c1
    refine c1.mono ?_
    clear c1
    rintro e w7 ⟨a, _, rfl, s7⟩
    clear c6
    have K7 := Lib.hid (s7.row K6.out nK)
    have F7 := Lib.hid (s7.row F6.out nF)
    have G7 := Lib.hid (s7.row G6.out nG)
    have S7 := S6.trans s7
    clear K6 F6 G6 S6 s7
    have cg := cell_of_row w7 _ 5 _ _ _ G7.out
    have pg := frozen_of_row w7 _ 5 _ _ G7.out
    go_upto_region 9 with fail
    obtain ⟨w8, hW⟩ : ∃ W, W = w7.setCell ⟨w5.heap.size, 5, none⟩ (.int .i64 a) := ⟨_, rfl⟩
    rw [← hW]
    have K8 : Hid (w8.heap[w.heap.size]? = some (.cells #[.int .i64 0, .int .i64 0, .int .i64 0, .int .i64 0, .int .i64 0, .int .i64 0, .int .i64 0, .int .i64 0, .int .i64 0, .slice none 0 0, .int .i64 0] 30 (0, 0))) := by rw [hW]; exact heap_set K7.out nKG
    have F8 : Hid (w8.heap[g]? = some (.cells #[.int .i64 a0, .int .i64 b0, .int .i64 a1, .int .i64 b1, .int .i64 a2, .int .i64 b2] 25 (0, 0))) := by rw [hW]; exact heap_set F7.out nFG
    have G8 : Hid (w8.heap[w5.heap.size]? = some (.cells #[.int .i64 num, .int .i64 l0, .int .i64 k0, .int .i64 (g0 - 1), .int .i64 1, .int .i64 a, .int .i64 0, .int .i64 lo, .int .i64 hi, .slice (some ⟨g, 0, none⟩) 3 3, .int .i64 cp] 30 (0, 0))) := by rw [hW]; exact Joins.block_setCell G7.out _
    have S8 : RdrStep w R (u + 11) w8 := by rw [hW]; exact S7.set hR (by omega) _
    clear hW K7 F7 G7 S7 cg pg
    go_wp2_with fail
    refine (pick_any R _ _ _ S8.1 (by omega)).mono ?_
    rintro e w9 ⟨m, rfl, _, _, s9⟩
    have K9 := Lib.hid (s9.row K8.out nK)
    have F9 := Lib.hid (s9.row F8.out nF)
    have G9 := Lib.hid (s9.row G8.out nG)
    have S9 := S8.trans s9
    clear K8 F8 G8 S8 s9
    cases hm : (m == 0)
    · go_upto_region 11 with fail
      refine wp_copy (t := 47) (pd := 4) (ps := 5) (ty := 30) rfl rfl rfl rfl rfl w5.heap.size w.heap.size #[.int .i64 num, .int .i64 l0, .int .i64 k0, .int .i64 (g0 - 1), .int .i64 1, .int .i64 a, .int .i64 0, .int .i64 lo, .int .i64 hi, .slice (some ⟨g, 0, none⟩) 3 3, .int .i64 cp] #[.int .i64 0, .int .i64 0, .int .i64 0, .int .i64 0, .int .i64 0, .int .i64 0, .int .i64 0, .int .i64 0, .int .i64 0, .slice none 0 0, .int .i64 0] 30 30 11 row30 rfl rfl rfl G9.out rfl K9.out rfl (by simp [Value.oneCell']) ?_
      go_wp2
      refine bodyPost_ret (results_row (p := 4) (ty := 30) rfl row30 _ _ w.heap.size 30 #[.int .i64 num, .int .i64 l0, .int .i64 k0, .int .i64 (g0 - 1), .int .i64 1, .int .i64 a, .int .i64 0, .int .i64 lo, .int .i64 hi, .slice (some ⟨g, 0, none⟩) 3 3, .int .i64 cp] rfl rfl (setRow_heap _ _ _ _ _ _ K9.out)) rfl ?_
      exact ⟨⟨num, l0, k0, (g0 - 1), 1, a, 0, lo, hi, [(a0, b0), (a1, b1), (a2, b2)], cp⟩, _, rfl, six_owns ((setRow_other _ _ _ _ (Ne.symm nKF)).trans F9.out) hg0, by simp, (S9.setRow hR (Nat.le_refl _) _).mono (by omega)⟩
    · go_wp2_with fail
      refine (one_lit R _ [50, 200, 1000, 7] w9 3 S9.1 (by omega) (by simp) (by simp)).mono ?_
      rintro e w10 ⟨b, _, rfl, s10⟩
      have K10 := Lib.hid (s10.row K9.out nK)
      have F10 := Lib.hid (s10.row F9.out nF)
      have G10 := Lib.hid (s10.row G9.out nG)
      have S10 := S9.trans s10
      clear K9 F9 G9 S9 s10
      have cg := cell_of_row w10 _ 6 _ _ _ G10.out
      have pg := frozen_of_row w10 _ 6 _ _ G10.out
      go_upto_region 11 with fail
      obtain ⟨w11, hW⟩ : ∃ W, W = w10.setCell ⟨w5.heap.size, 6, none⟩ (.int .i64 b) := ⟨_, rfl⟩
      rw [← hW]
      have K11 : Hid (w11.heap[w.heap.size]? = some (.cells #[.int .i64 0, .int .i64 0, .int .i64 0, .int .i64 0, .int .i64 0, .int .i64 0, .int .i64 0, .int .i64 0, .int .i64 0, .slice none 0 0, .int .i64 0] 30 (0, 0))) := by rw [hW]; exact heap_set K10.out nKG
      have F11 : Hid (w11.heap[g]? = some (.cells #[.int .i64 a0, .int .i64 b0, .int .i64 a1, .int .i64 b1, .int .i64 a2, .int .i64 b2] 25 (0, 0))) := by rw [hW]; exact heap_set F10.out nFG
      have G11 : Hid (w11.heap[w5.heap.size]? = some (.cells #[.int .i64 num, .int .i64 l0, .int .i64 k0, .int .i64 (g0 - 1), .int .i64 1, .int .i64 a, .int .i64 b, .int .i64 lo, .int .i64 hi, .slice (some ⟨g, 0, none⟩) 3 3, .int .i64 cp] 30 (0, 0))) := by rw [hW]; exact Joins.block_setCell G10.out _
      have S11 : RdrStep w R (u + 13) w11 := by rw [hW]; exact S10.set hR (by omega) _
      clear hW K10 F10 G10 S10 cg pg
      refine wp_copy (t := 47) (pd := 4) (ps := 5) (ty := 30) rfl rfl rfl rfl rfl w5.heap.size w.heap.size #[.int .i64 num, .int .i64 l0, .int .i64 k0, .int .i64 (g0 - 1), .int .i64 1, .int .i64 a, .int .i64 b, .int .i64 lo, .int .i64 hi, .slice (some ⟨g, 0, none⟩) 3 3, .int .i64 cp] #[.int .i64 0, .int .i64 0, .int .i64 0, .int .i64 0, .int .i64 0, .int .i64 0, .int .i64 0, .int .i64 0, .int .i64 0, .slice none 0 0, .int .i64 0] 30 30 11 row30 rfl rfl rfl G11.out rfl K11.out rfl (by simp [Value.oneCell']) ?_
      go_wp2
      refine bodyPost_ret (results_row (p := 4) (ty := 30) rfl row30 _ _ w.heap.size 30 #[.int .i64 num, .int .i64 l0, .int .i64 k0, .int .i64 (g0 - 1), .int .i64 1, .int .i64 a, .int .i64 b, .int .i64 lo, .int .i64 hi, .slice (some ⟨g, 0, none⟩) 3 3, .int .i64 cp] rfl rfl (setRow_heap _ _ _ _ _ _ K11.out)) rfl ?_
      exact ⟨⟨num, l0, k0, (g0 - 1), 1, a, b, lo, hi, [(a0, b0), (a1, b1), (a2, b2)], cp⟩, _, rfl, six_owns ((setRow_other _ _ _ _ (Ne.symm nKF)).trans F11.out) hg0, by simp, (S11.setRow hR (Nat.le_refl _) _).mono (by omega)⟩
  · go_wp2_with fail
    have c1 := one_lit R _ [100, 500, 1, 10000, 77] (w5.alloc (.cells #[.int .i64 num, .int .i64 l0, .int .i64 k0, .int .i64 (g0 - 1), .int .i64 2, .int .i64 0, .int .i64 0, .int .i64 lo, .int .i64 hi, .slice (some ⟨g, 0, none⟩) 3 3, .int .i64 cp] 30)) 3 S6.1 (by omega) (by simp) (by simp)
    rw [World.size_alloc] at c1
    refine c1.mono ?_
    clear c1
    rintro e w7 ⟨a, _, rfl, s7⟩
    clear c6
    have K7 := Lib.hid (s7.row K6.out nK)
    have F7 := Lib.hid (s7.row F6.out nF)
    have G7 := Lib.hid (s7.row G6.out nG)
    have S7 := S6.trans s7
    clear K6 F6 G6 S6 s7
    have cg := cell_of_row w7 _ 5 _ _ _ G7.out
    have pg := frozen_of_row w7 _ 5 _ _ G7.out
    go_upto_region 9 with fail
    obtain ⟨w8, hW⟩ : ∃ W, W = w7.setCell ⟨w5.heap.size, 5, none⟩ (.int .i64 a) := ⟨_, rfl⟩
    rw [← hW]
    have K8 : Hid (w8.heap[w.heap.size]? = some (.cells #[.int .i64 0, .int .i64 0, .int .i64 0, .int .i64 0, .int .i64 0, .int .i64 0, .int .i64 0, .int .i64 0, .int .i64 0, .slice none 0 0, .int .i64 0] 30 (0, 0))) := by rw [hW]; exact heap_set K7.out nKG
    have F8 : Hid (w8.heap[g]? = some (.cells #[.int .i64 a0, .int .i64 b0, .int .i64 a1, .int .i64 b1, .int .i64 a2, .int .i64 b2] 25 (0, 0))) := by rw [hW]; exact heap_set F7.out nFG
    have G8 : Hid (w8.heap[w5.heap.size]? = some (.cells #[.int .i64 num, .int .i64 l0, .int .i64 k0, .int .i64 (g0 - 1), .int .i64 2, .int .i64 a, .int .i64 0, .int .i64 lo, .int .i64 hi, .slice (some ⟨g, 0, none⟩) 3 3, .int .i64 cp] 30 (0, 0))) := by rw [hW]; exact Joins.block_setCell G7.out _
    have S8 : RdrStep w R (u + 11) w8 := by rw [hW]; exact S7.set hR (by omega) _
    clear hW K7 F7 G7 S7 cg pg
    go_wp2_with fail
    refine (pick_any R _ _ _ S8.1 (by omega)).mono ?_
    rintro e w9 ⟨m, rfl, _, _, s9⟩
    have K9 := Lib.hid (s9.row K8.out nK)
    have F9 := Lib.hid (s9.row F8.out nF)
    have G9 := Lib.hid (s9.row G8.out nG)
    have S9 := S8.trans s9
    clear K8 F8 G8 S8 s9
    cases hm : (m == 0)
    · go_upto_region 11 with fail
      refine wp_copy (t := 47) (pd := 4) (ps := 5) (ty := 30) rfl rfl rfl rfl rfl w5.heap.size w.heap.size #[.int .i64 num, .int .i64 l0, .int .i64 k0, .int .i64 (g0 - 1), .int .i64 2, .int .i64 a, .int .i64 0, .int .i64 lo, .int .i64 hi, .slice (some ⟨g, 0, none⟩) 3 3, .int .i64 cp] #[.int .i64 0, .int .i64 0, .int .i64 0, .int .i64 0, .int .i64 0, .int .i64 0, .int .i64 0, .int .i64 0, .int .i64 0, .slice none 0 0, .int .i64 0] 30 30 11 row30 rfl rfl rfl G9.out rfl K9.out rfl (by simp [Value.oneCell']) ?_
      go_wp2
      refine bodyPost_ret (results_row (p := 4) (ty := 30) rfl row30 _ _ w.heap.size 30 #[.int .i64 num, .int .i64 l0, .int .i64 k0, .int .i64 (g0 - 1), .int .i64 2, .int .i64 a, .int .i64 0, .int .i64 lo, .int .i64 hi, .slice (some ⟨g, 0, none⟩) 3 3, .int .i64 cp] rfl rfl (setRow_heap _ _ _ _ _ _ K9.out)) rfl ?_
      exact ⟨⟨num, l0, k0, (g0 - 1), 2, a, 0, lo, hi, [(a0, b0), (a1, b1), (a2, b2)], cp⟩, _, rfl, six_owns ((setRow_other _ _ _ _ (Ne.symm nKF)).trans F9.out) hg0, by simp, (S9.setRow hR (Nat.le_refl _) _).mono (by omega)⟩
    · go_wp2_with fail
      refine (one_lit R _ [50, 200, 1000, 7] w9 3 S9.1 (by omega) (by simp) (by simp)).mono ?_
      rintro e w10 ⟨b, _, rfl, s10⟩
      have K10 := Lib.hid (s10.row K9.out nK)
      have F10 := Lib.hid (s10.row F9.out nF)
      have G10 := Lib.hid (s10.row G9.out nG)
      have S10 := S9.trans s10
      clear K9 F9 G9 S9 s10
      have cg := cell_of_row w10 _ 6 _ _ _ G10.out
      have pg := frozen_of_row w10 _ 6 _ _ G10.out
      go_upto_region 11 with fail
      obtain ⟨w11, hW⟩ : ∃ W, W = w10.setCell ⟨w5.heap.size, 6, none⟩ (.int .i64 b) := ⟨_, rfl⟩
      rw [← hW]
      have K11 : Hid (w11.heap[w.heap.size]? = some (.cells #[.int .i64 0, .int .i64 0, .int .i64 0, .int .i64 0, .int .i64 0, .int .i64 0, .int .i64 0, .int .i64 0, .int .i64 0, .slice none 0 0, .int .i64 0] 30 (0, 0))) := by rw [hW]; exact heap_set K10.out nKG
      have F11 : Hid (w11.heap[g]? = some (.cells #[.int .i64 a0, .int .i64 b0, .int .i64 a1, .int .i64 b1, .int .i64 a2, .int .i64 b2] 25 (0, 0))) := by rw [hW]; exact heap_set F10.out nFG
      have G11 : Hid (w11.heap[w5.heap.size]? = some (.cells #[.int .i64 num, .int .i64 l0, .int .i64 k0, .int .i64 (g0 - 1), .int .i64 2, .int .i64 a, .int .i64 b, .int .i64 lo, .int .i64 hi, .slice (some ⟨g, 0, none⟩) 3 3, .int .i64 cp] 30 (0, 0))) := by rw [hW]; exact Joins.block_setCell G10.out _
      have S11 : RdrStep w R (u + 13) w11 := by rw [hW]; exact S10.set hR (by omega) _
      clear hW K10 F10 G10 S10 cg pg
      refine wp_copy (t := 47) (pd := 4) (ps := 5) (ty := 30) rfl rfl rfl rfl rfl w5.heap.size w.heap.size #[.int .i64 num, .int .i64 l0, .int .i64 k0, .int .i64 (g0 - 1), .int .i64 2, .int .i64 a, .int .i64 b, .int .i64 lo, .int .i64 hi, .slice (some ⟨g, 0, none⟩) 3 3, .int .i64 cp] #[.int .i64 0, .int .i64 0, .int .i64 0, .int .i64 0, .int .i64 0, .int .i64 0, .int .i64 0, .int .i64 0, .int .i64 0, .slice none 0 0, .int .i64 0] 30 30 11 row30 rfl rfl rfl G11.out rfl K11.out rfl (by simp [Value.oneCell']) ?_
      go_wp2
      refine bodyPost_ret (results_row (p := 4) (ty := 30) rfl row30 _ _ w.heap.size 30 #[.int .i64 num, .int .i64 l0, .int .i64 k0, .int .i64 (g0 - 1), .int .i64 2, .int .i64 a, .int .i64 b, .int .i64 lo, .int .i64 hi, .slice (some ⟨g, 0, none⟩) 3 3, .int .i64 cp] rfl rfl (setRow_heap _ _ _ _ _ _ K11.out)) rfl ?_
      exact ⟨⟨num, l0, k0, (g0 - 1), 2, a, b, lo, hi, [(a0, b0), (a1, b1), (a2, b2)], cp⟩, _, rfl, six_owns ((setRow_other _ _ _ _ (Ne.symm nKF)).trans F11.out) hg0, by simp, (S11.setRow hR (Nat.le_refl _) _).mono (by omega)⟩
  · go_wp2_with fail
    have c1 := one_lit R _ [2, 3, 4, 20] (w5.alloc (.cells #[.int .i64 num, .int .i64 l0, .int .i64 k0, .int .i64 (g0 - 1), .int .i64 3, .int .i64 0, .int .i64 0, .int .i64 lo, .int .i64 hi, .slice (some ⟨g, 0, none⟩) 3 3, .int .i64 cp] 30)) 3 S6.1 (by omega) (by simp) (by simp)
    rw [World.size_alloc] at c1
    refine c1.mono ?_
    clear c1
    rintro e w7 ⟨a, _, rfl, s7⟩
    clear c6
    have K7 := Lib.hid (s7.row K6.out nK)
    have F7 := Lib.hid (s7.row F6.out nF)
    have G7 := Lib.hid (s7.row G6.out nG)
    have S7 := S6.trans s7
    clear K6 F6 G6 S6 s7
    have cg := cell_of_row w7 _ 5 _ _ _ G7.out
    have pg := frozen_of_row w7 _ 5 _ _ G7.out
    go_upto_region 9 with fail
    obtain ⟨w8, hW⟩ : ∃ W, W = w7.setCell ⟨w5.heap.size, 5, none⟩ (.int .i64 a) := ⟨_, rfl⟩
    rw [← hW]
    have K8 : Hid (w8.heap[w.heap.size]? = some (.cells #[.int .i64 0, .int .i64 0, .int .i64 0, .int .i64 0, .int .i64 0, .int .i64 0, .int .i64 0, .int .i64 0, .int .i64 0, .slice none 0 0, .int .i64 0] 30 (0, 0))) := by rw [hW]; exact heap_set K7.out nKG
    have F8 : Hid (w8.heap[g]? = some (.cells #[.int .i64 a0, .int .i64 b0, .int .i64 a1, .int .i64 b1, .int .i64 a2, .int .i64 b2] 25 (0, 0))) := by rw [hW]; exact heap_set F7.out nFG
    have G8 : Hid (w8.heap[w5.heap.size]? = some (.cells #[.int .i64 num, .int .i64 l0, .int .i64 k0, .int .i64 (g0 - 1), .int .i64 3, .int .i64 a, .int .i64 0, .int .i64 lo, .int .i64 hi, .slice (some ⟨g, 0, none⟩) 3 3, .int .i64 cp] 30 (0, 0))) := by rw [hW]; exact Joins.block_setCell G7.out _
    have S8 : RdrStep w R (u + 11) w8 := by rw [hW]; exact S7.set hR (by omega) _
    clear hW K7 F7 G7 S7 cg pg
    go_wp2_with fail
    refine (pick_any R _ _ _ S8.1 (by omega)).mono ?_
    rintro e w9 ⟨m, rfl, _, _, s9⟩
    have K9 := Lib.hid (s9.row K8.out nK)
    have F9 := Lib.hid (s9.row F8.out nF)
    have G9 := Lib.hid (s9.row G8.out nG)
    have S9 := S8.trans s9
    clear K8 F8 G8 S8 s9
    cases hm : (m == 0)
    · go_upto_region 11 with fail
      refine wp_copy (t := 47) (pd := 4) (ps := 5) (ty := 30) rfl rfl rfl rfl rfl w5.heap.size w.heap.size #[.int .i64 num, .int .i64 l0, .int .i64 k0, .int .i64 (g0 - 1), .int .i64 3, .int .i64 a, .int .i64 0, .int .i64 lo, .int .i64 hi, .slice (some ⟨g, 0, none⟩) 3 3, .int .i64 cp] #[.int .i64 0, .int .i64 0, .int .i64 0, .int .i64 0, .int .i64 0, .int .i64 0, .int .i64 0, .int .i64 0, .int .i64 0, .slice none 0 0, .int .i64 0] 30 30 11 row30 rfl rfl rfl G9.out rfl K9.out rfl (by simp [Value.oneCell']) ?_
      go_wp2
      refine bodyPost_ret (results_row (p := 4) (ty := 30) rfl row30 _ _ w.heap.size 30 #[.int .i64 num, .int .i64 l0, .int .i64 k0, .int .i64 (g0 - 1), .int .i64 3, .int .i64 a, .int .i64 0, .int .i64 lo, .int .i64 hi, .slice (some ⟨g, 0, none⟩) 3 3, .int .i64 cp] rfl rfl (setRow_heap _ _ _ _ _ _ K9.out)) rfl ?_
      exact ⟨⟨num, l0, k0, (g0 - 1), 3, a, 0, lo, hi, [(a0, b0), (a1, b1), (a2, b2)], cp⟩, _, rfl, six_owns ((setRow_other _ _ _ _ (Ne.symm nKF)).trans F9.out) hg0, by simp, (S9.setRow hR (Nat.le_refl _) _).mono (by omega)⟩
    · go_wp2_with fail
      refine (one_lit R _ [50, 200, 1000, 7] w9 3 S9.1 (by omega) (by simp) (by simp)).mono ?_
      rintro e w10 ⟨b, _, rfl, s10⟩
      have K10 := Lib.hid (s10.row K9.out nK)
      have F10 := Lib.hid (s10.row F9.out nF)
      have G10 := Lib.hid (s10.row G9.out nG)
      have S10 := S9.trans s10
      clear K9 F9 G9 S9 s10
      have cg := cell_of_row w10 _ 6 _ _ _ G10.out
      have pg := frozen_of_row w10 _ 6 _ _ G10.out
      go_upto_region 11 with fail
      obtain ⟨w11, hW⟩ : ∃ W, W = w10.setCell ⟨w5.heap.size, 6, none⟩ (.int .i64 b) := ⟨_, rfl⟩
      rw [← hW]
      have K11 : Hid (w11.heap[w.heap.size]? = some (.cells #[.int .i64 0, .int .i64 0, .int .i64 0, .int .i64 0, .int .i64 0, .int .i64 0, .int .i64 0, .int .i64 0, .int .i64 0, .slice none 0 0, .int .i64 0] 30 (0, 0))) := by rw [hW]; exact heap_set K10.out nKG
      have F11 : Hid (w11.heap[g]? = some (.cells #[.int .i64 a0, .int .i64 b0, .int .i64 a1, .int .i64 b1, .int .i64 a2, .int .i64 b2] 25 (0, 0))) := by rw [hW]; exact heap_set F10.out nFG
      have G11 : Hid (w11.heap[w5.heap.size]? = some (.cells #[.int .i64 num, .int .i64 l0, .int .i64 k0, .int .i64 (g0 - 1), .int .i64 3, .int .i64 a, .int .i64 b, .int .i64 lo, .int .i64 hi, .slice (some ⟨g, 0, none⟩) 3 3, .int .i64 cp] 30 (0, 0))) := by rw [hW]; exact Joins.block_setCell G10.out _
      have S11 : RdrStep w R (u + 13) w11 := by rw [hW]; exact S10.set hR (by omega) _
      clear hW K10 F10 G10 S10 cg pg
      refine wp_copy (t := 47) (pd := 4) (ps := 5) (ty := 30) rfl rfl rfl rfl rfl w5.heap.size w.heap.size #[.int .i64 num, .int .i64 l0, .int .i64 k0, .int .i64 (g0 - 1), .int .i64 3, .int .i64 a, .int .i64 b, .int .i64 lo, .int .i64 hi, .slice (some ⟨g, 0, none⟩) 3 3, .int .i64 cp] #[.int .i64 0, .int .i64 0, .int .i64 0, .int .i64 0, .int .i64 0, .int .i64 0, .int .i64 0, .int .i64 0, .int .i64 0, .slice none 0 0, .int .i64 0] 30 30 11 row30 rfl rfl rfl G11.out rfl K11.out rfl (by simp [Value.oneCell']) ?_
      go_wp2
      refine bodyPost_ret (results_row (p := 4) (ty := 30) rfl row30 _ _ w.heap.size 30 #[.int .i64 num, .int .i64 l0, .int .i64 k0, .int .i64 (g0 - 1), .int .i64 3, .int .i64 a, .int .i64 b, .int .i64 lo, .int .i64 hi, .slice (some ⟨g, 0, none⟩) 3 3, .int .i64 cp] rfl rfl (setRow_heap _ _ _ _ _ _ K11.out)) rfl ?_
      exact ⟨⟨num, l0, k0, (g0 - 1), 3, a, b, lo, hi, [(a0, b0), (a1, b1), (a2, b2)], cp⟩, _, rfl, six_owns ((setRow_other _ _ _ _ (Ne.symm nKF)).trans F11.out) hg0, by simp, (S11.setRow hR (Nat.le_refl _) _).mono (by omega)⟩

end Go.Proofs.YtdofpealmngmiaaGreatDoor
