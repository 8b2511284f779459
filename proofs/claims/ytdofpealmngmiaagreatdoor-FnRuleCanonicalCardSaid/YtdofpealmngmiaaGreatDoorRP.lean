/- Walks: the generator of guards that may be invalid. Conditions: none. -/
import Derived.Test.YtdofpealmngmiaaGreatDoorRSX
namespace Go.Proofs.YtdofpealmngmiaaGreatDoor
open Go.RowKit

/-- What a drawn guard is: numbers, and spans in a row of its own. -/
def GaPost (n : Nat) (w : World) (R u : Nat) (e : Ending) (w' : World) : Prop :=
  ∃ (lo hi cp : Int) (c : List (Int × Int)) (v : Value), e = .returned (.agg #[.int .i64 lo, .int .i64 hi, v, .int .i64 cp]) ∧ w'.ownsRow w.heap.size 25 2 v c.length (pr c) ∧ c.length ≤ 4 ∧ RdrStep w R (u + n) w'

theorem Tryz.info25r : (Tryz.prog.info? 25).map (fun i => (i.zero, i.size, i.bytes)) = some (some (.agg #[.int .i64 0, .int .i64 0]), 2, 16) := by kernel_rfl

set_option linter.unusedSimpArgs false in
set_option maxHeartbeats 4000000 in
set_option maxRecDepth 100000 in
theorem anyGuard_any (R u : Nat) (w : World) (h : Rdr w R u) (hu : u ≤ 999999997000) :
    Calls Tryz.prog 36 #[.pointer (some ⟨R, 0, none⟩)] w (GaPost 12 w R u) := by
  have hR := h.lt
  obtain ⟨i0, hi, hz0, hz1, hz2⟩ := info_parts Tryz.info25r
  have HI := Lib.hid hi
  have HZ0 := Lib.hid hz0
  have HZ1 := Lib.hid hz1
  have HZ2 := Lib.hid hz2
  clear hi hz0 hz1 hz2
  have S0 := (RdrStep.refl h).alloc (.cells #[.int .i64 0, .int .i64 0, .slice none 0 0, .int .i64 0] 28)
  have k0 := heap_alloc_new w (.cells #[.int .i64 0, .int .i64 0, .slice none 0 0, .int .i64 0] 28)
  have K0 := Lib.hid k0
  clear k0
  go_enter Tryz.func36, Tryz.ntmps36
  go_wp2_with fail
  refine (someGuard_any R _ _ S0.1 (by omega)).mono ?_
  rintro e w1 ⟨lo, hi, cp, g, a0, b0, a1, b1, a2, b2, rfl, hg, f1, s1⟩
  rw [World.size_alloc] at hg
  have k1 := s1.row K0.out (by omega)
  have S1 := S0.trans s1
  have gl : g < w1.heap.size := (Array.getElem?_eq_some_iff.1 f1).1
  have al := heap_alloc_new w1 (.cells #[.int .i64 lo, .int .i64 hi, .slice (some ⟨g, 0, none⟩) 3 3, .int .i64 cp] 28)
  have nG : w1.heap.size ≠ R := Nat.ne_of_gt S1.1.lt
  have nF : g ≠ R := by omega
  have nK : w.heap.size ≠ R := by omega
  have nKF : w.heap.size ≠ g := by omega
  have nKG : w.heap.size ≠ w1.heap.size := by omega
  have nFG : g ≠ w1.heap.size := by omega
  have k2 := heap_keep (x := .cells #[.int .i64 lo, .int .i64 hi, .slice (some ⟨g, 0, none⟩) 3 3, .int .i64 cp] 28) k1
  have f2 := heap_keep (x := .cells #[.int .i64 lo, .int .i64 hi, .slice (some ⟨g, 0, none⟩) 3 3, .int .i64 cp] 28) f1
  have S2 := S1.alloc (.cells #[.int .i64 lo, .int .i64 hi, .slice (some ⟨g, 0, none⟩) 3 3, .int .i64 cp] 28)
  go_wp2_with fail
  refine (pick_any R _ _ _ S2.1 (by omega)).mono ?_
  rintro e w6 ⟨m, rfl, hm0, hm1, s6⟩
  have hm2 := hm1 (by omega)
  have K6 := Lib.hid (s6.row k2 nK)
  have F6 := Lib.hid (s6.row f2 nF)
  have G6 := Lib.hid (s6.row al nG)
  have S6 := S2.trans s6
  have Y6 : w1.heap.size < w6.heap.size := (Array.getElem?_eq_some_iff.1 G6.out).1
  clear s6 S2 S1 S0 k1 k2 f1 f2 al hm1 K0 s1
  rcases (by omega : m = 0 ∨ m = 1 ∨ m = 2 ∨ m = 3 ∨ 4 ≤ m) with rfl | rfl | rfl | rfl | hm
  · go_wp2_with fail
    refine (anySpan_any R _ _ S6.1 (by omega)).mono ?_
    rintro e w7 ⟨a, b, rfl, s7⟩
    have K7 := Lib.hid (s7.row K6.out nK)
    have F7 := Lib.hid (s7.row F6.out nF)
    have G7 := Lib.hid (s7.row G6.out nG)
    have S7 := S6.trans s7
    have Y7 := Nat.lt_of_lt_of_le Y6 s7.size
    clear K6 F6 G6 S6 s7 Y6
    obtain ⟨⟨c0, c1, c2, c3⟩, p0, p1, p2, p3⟩ := row4 G7.out
    go_upto_region 11 with fail
    obtain ⟨w8, hW⟩ : ∃ W, W = (w7.setCell ⟨w1.heap.size, 0, none⟩ (.int .i64 a)).setCell ⟨w1.heap.size, 1, none⟩ (.int .i64 b) := ⟨_, rfl⟩
    rw [← hW]
    have K8 : Hid (w8.heap[w.heap.size]? = some (.cells #[.int .i64 0, .int .i64 0, .slice none 0 0, .int .i64 0] 28 (0, 0))) := by rw [hW]; exact heap_set (heap_set (K7.out) (nKG)) (nKG)
    have F8 : Hid (w8.heap[g]? = some (.cells #[.int .i64 a0, .int .i64 b0, .int .i64 a1, .int .i64 b1, .int .i64 a2, .int .i64 b2] 25 (0, 0))) := by rw [hW]; exact heap_set (heap_set (F7.out) (nFG)) (nFG)
    have G8 : Hid (w8.heap[w1.heap.size]? = some (.cells #[.int .i64 a, .int .i64 b, .slice (some ⟨g, 0, none⟩) 3 3, .int .i64 cp] 28 (0, 0))) := by rw [hW]; exact Joins.block_setCell (Joins.block_setCell (G7.out) _) _
    have S8 : RdrStep w R (u + 10) w8 := by rw [hW]; exact RdrStep.set (RdrStep.set (S7) hR (by omega) _) hR (by omega) _
    clear hW K7 F7 G7 S7 Y7 c0 c1 c2 c3 p0 p1 p2 p3
    refine wp_copy (t := 34) (pd := 2) (ps := 3) (ty := 28) rfl rfl rfl rfl rfl w1.heap.size w.heap.size #[.int .i64 a, .int .i64 b, .slice (some ⟨g, 0, none⟩) 3 3, .int .i64 cp] #[.int .i64 0, .int .i64 0, .slice none 0 0, .int .i64 0] 28 28 4 row28 rfl rfl rfl G8.out rfl K8.out rfl (by simp [Value.oneCell']) ?_
    go_wp2
    refine bodyPost_ret (results_row (p := 2) (ty := 28) rfl row28 _ _ w.heap.size 28 #[.int .i64 a, .int .i64 b, .slice (some ⟨g, 0, none⟩) 3 3, .int .i64 cp] rfl rfl (setRow_heap _ _ _ _ _ _ K8.out)) rfl ?_
    exact ⟨a, b, cp, [(a0, b0), (a1, b1), (a2, b2)], _, rfl, six_owns ((setRow_other _ _ _ _ (Ne.symm nKF)).trans F8.out) (by omega), by simp, (S8.setRow hR (Nat.le_refl _) _).mono (by omega)⟩
  · obtain ⟨⟨c0, c1, c2, c3⟩, _⟩ := row4 G6.out
    go_upto_region 6 with fail
    refine wp_region_any (by kernel_rfl) ?_
    change wpAny _ _ _ _ _ _ _ (World.drew _)
    refine wpAny_take (i := 0) (v := ?_) rfl (by kernel_rfl) (by kernel_rfl) (by kernel_rfl) (fun _ _ _ h => h) (Or.inl ⟨by rfl, ?_⟩) ?_
    rotate_left
    · (intro W; go_simp; try with_reducible rfl)
    try simp only [Act.put, List.setIfInBounds_toArray, List.set_cons_zero, List.set_cons_succ]
    refine wpAny_take (i := 2) (v := ?_) rfl (by kernel_rfl) (by kernel_rfl) (by kernel_rfl) (fun _ _ _ h => h) (Or.inl ⟨by rfl, ?_⟩) ?_
    rotate_left
    · (intro W; go_simp; try with_reducible rfl)
    try simp only [Act.put, List.setIfInBounds_toArray, List.set_cons_zero, List.set_cons_succ]
    refine wpAny_ready (rs := [1, 3]) (by kernel_rfl) (by simp) ?_
    refine AllReady.cons rfl (fun K hK => ?_) (AllReady.cons rfl (fun K hK => ?_) AllReady.nil)
    · go_simp
      refine hK _ _ ?_
      clear hK K
      try simp only [Act.put, List.setIfInBounds_toArray, List.set_cons_zero, List.set_cons_succ]
      refine wpAny_ready (rs := [3]) (by kernel_rfl) (by simp) ?_
      refine AllReady.cons rfl (fun K hK => ?_) AllReady.nil
      go_simp
      refine (anySpan_any R _ w6.drew S6.drew.1 (by omega)).mono ?_
      rintro e w7 ⟨p, q, rfl, s7⟩
      have K7 := Lib.hid (s7.row K6.out nK)
      have F7 := Lib.hid (s7.row F6.out nF)
      have G7 := Lib.hid (s7.row G6.out nG)
      have S7 := S6.drew.trans s7
      obtain ⟨⟨d0, d1, d2, d3⟩, _⟩ := row4 G7.out
      have O7 := Lib.hid (six_owns (base := w.heap.size) F7.out (by omega))
      have Z7 := (Array.getElem?_eq_some_iff.1 G7.out).1
      dsimp only
      refine hK _ _ ?_
      clear hK K
      try simp only [Act.put, List.setIfInBounds_toArray, List.set_cons_zero, List.set_cons_succ]
      refine wpAny_ready (rs := [4]) (by kernel_rfl) (by simp) ?_
      refine AllReady.cons rfl (fun K hK => ?_) AllReady.nil
      go_simp
      refine hK _ _ ?_
      clear hK K
      try simp only [Act.put, List.setIfInBounds_toArray, List.set_cons_zero, List.set_cons_succ]
      refine wpAny_ready (rs := [5]) (by kernel_rfl) (by simp) ?_
      refine AllReady.cons rfl (fun K hK => ?_) AllReady.nil
      rw [if_pos (by rfl)]
      refine wp_append_own _ (.tmp 16) (.tmp 19) 26 rfl w.heap.size 25 i0 _ 2 16 Tryz.underlying26 HI.out HZ0.out HZ1.out HZ2.out rfl (by decide) _ 3 (pr [(a0, b0), (a1, b1), (a2, b2)]) rfl (O7.out.alloc _) ⟨w7.heap.size, 0, none⟩ 1 1 [.int .i64 p, .int .i64 q] rfl rfl (cell_two_new w7 _ _ _) (by intro x hx; simp only [List.mem_cons, List.not_mem_nil, or_false] at hx; rcases hx with rfl | rfl <;> rfl) (by unfold maxLen; omega) (by omega) (by simp; omega) ?_
      intro v' w8 ho8 hg8 _
      have ho8 : w8.ownsRow w.heap.size 25 2 v' 4 (pr [(a0, b0), (a1, b1), (a2, b2), (p, q)]) := ho8
      have K8 := Lib.hid ((hg8.block w.heap.size (by simp; omega) (by intro e; exact nKF (Option.some.inj e))).trans (heap_keep K7.out))
      have G8 := Lib.hid ((hg8.block w1.heap.size (by simp; omega) (by intro e; exact nFG.symm (Option.some.inj e))).trans (heap_keep G7.out))
      have S8 := (S7.alloc _).own hR hg8 (fun k hk => by have : g = k := Option.some.inj hk; omega)
      have B8 := Lib.hid (owns_ne_ty ho8 G8.out (by decide))
      have D8 := Lib.hid (owns_ne_ty ho8 K8.out (by decide))
      have HO8 := Lib.hid ho8
      obtain ⟨ao, cap2, rfl, _⟩ := owns_shape ho8
      obtain ⟨⟨e0, e1, e2, e3⟩, p0, p1, p2, p3⟩ := row4 G8.out
      refine hK _ _ ?_
      clear hK K
      try simp only [Act.put, List.setIfInBounds_toArray, List.set_cons_zero, List.set_cons_succ]
      refine wpAny_take (i := 6) (v := ?_) rfl (by kernel_rfl) (by kernel_rfl) (by kernel_rfl) (fun _ _ _ h => h) (Or.inl ⟨by rfl, ?_⟩) ?_
      rotate_left
      · (intro W; go_simp; try with_reducible rfl)
      try simp only [Act.put, List.setIfInBounds_toArray, List.set_cons_zero, List.set_cons_succ]
      refine wpAny_ready (rs := [7]) (by kernel_rfl) (by simp) ?_
      refine AllReady.cons rfl (fun K hK => ?_) AllReady.nil
      go_simp
      refine hK _ _ ?_
      clear hK K
      try simp only [Act.put, List.setIfInBounds_toArray, List.set_cons_zero, List.set_cons_succ]
      refine wpAny_done (by kernel_rfl) ?_ _
      obtain ⟨w9, hW⟩ : ∃ W, W = w8.setCell ⟨w1.heap.size, 2, none⟩ (.slice ao 4 cap2) := ⟨_, rfl⟩
      rw [← hW]
      have K9 : Hid (w9.heap[w.heap.size]? = some (.cells #[.int .i64 0, .int .i64 0, .slice none 0 0, .int .i64 0] 28 (0, 0))) := by rw [hW]; exact heap_set K8.out nKG
      have G9 : Hid (w9.heap[w1.heap.size]? = some (.cells #[.int .i64 lo, .int .i64 hi, .slice ao 4 cap2, .int .i64 cp] 28 (0, 0))) := by rw [hW]; exact Joins.block_setCell G8.out _
      have S9 := S8.set (i := 2) hR (g := w1.heap.size) (by omega) (.slice ao 4 cap2)
      rw [← hW] at S9
      have O9 := owns_away (i := 2) (g := w1.heap.size) HO8.out (fun k hk => B8.out k hk) (.slice ao 4 cap2)
      rw [← hW] at O9
      have O9 := Lib.hid O9
      clear hW e0 e1 e2 e3 p0 p1 p2 p3
      go_upto_region 11 with fail
      refine wp_copy (t := 34) (pd := 2) (ps := 3) (ty := 28) rfl rfl rfl rfl rfl w1.heap.size w.heap.size #[.int .i64 lo, .int .i64 hi, .slice ao 4 cap2, .int .i64 cp] #[.int .i64 0, .int .i64 0, .slice none 0 0, .int .i64 0] 28 28 4 row28 rfl rfl rfl G9.out rfl K9.out rfl (by simp [Value.oneCell']) ?_
      go_wp2
      refine bodyPost_ret (results_row (p := 2) (ty := 28) rfl row28 _ _ w.heap.size 28 #[.int .i64 lo, .int .i64 hi, .slice ao 4 cap2, .int .i64 cp] rfl rfl (setRow_heap _ _ _ _ _ _ K9.out)) rfl ?_
      exact ⟨lo, hi, cp, [(a0, b0), (a1, b1), (a2, b2), (p, q)], _, rfl, owns_base (owns_row0 O9.out (fun k hk => D8.out k hk) _) (Nat.le_refl _), by simp, (S9.setRow hR (Nat.le_refl _) _).mono (by omega)⟩
    · go_simp
      refine (anySpan_any R _ w6.drew S6.drew.1 (by omega)).mono ?_
      rintro e w7 ⟨p, q, rfl, s7⟩
      have K7 := Lib.hid (s7.row K6.out nK)
      have F7 := Lib.hid (s7.row F6.out nF)
      have G7 := Lib.hid (s7.row G6.out nG)
      have S7 := S6.drew.trans s7
      obtain ⟨⟨d0, d1, d2, d3⟩, _⟩ := row4 G7.out
      have O7 := Lib.hid (six_owns (base := w.heap.size) F7.out (by omega))
      have Z7 := (Array.getElem?_eq_some_iff.1 G7.out).1
      dsimp only
      refine hK _ _ ?_
      clear hK K
      try simp only [Act.put, List.setIfInBounds_toArray, List.set_cons_zero, List.set_cons_succ]
      refine wpAny_ready (rs := [1, 4]) (by kernel_rfl) (by simp) ?_
      refine AllReady.cons rfl (fun K hK => ?_) (AllReady.cons rfl (fun K hK => ?_) AllReady.nil)
      · go_simp
        refine hK _ _ ?_
        clear hK K
        try simp only [Act.put, List.setIfInBounds_toArray, List.set_cons_zero, List.set_cons_succ]
        refine wpAny_ready (rs := [4]) (by kernel_rfl) (by simp) ?_
        refine AllReady.cons rfl (fun K hK => ?_) AllReady.nil
        go_simp
        refine hK _ _ ?_
        clear hK K
        try simp only [Act.put, List.setIfInBounds_toArray, List.set_cons_zero, List.set_cons_succ]
        refine wpAny_ready (rs := [5]) (by kernel_rfl) (by simp) ?_
        refine AllReady.cons rfl (fun K hK => ?_) AllReady.nil
        rw [if_pos (by rfl)]
        refine wp_append_own _ (.tmp 16) (.tmp 19) 26 rfl w.heap.size 25 i0 _ 2 16 Tryz.underlying26 HI.out HZ0.out HZ1.out HZ2.out rfl (by decide) _ 3 (pr [(a0, b0), (a1, b1), (a2, b2)]) rfl (O7.out.alloc _) ⟨w7.heap.size, 0, none⟩ 1 1 [.int .i64 p, .int .i64 q] rfl rfl (cell_two_new w7 _ _ _) (by intro x hx; simp only [List.mem_cons, List.not_mem_nil, or_false] at hx; rcases hx with rfl | rfl <;> rfl) (by unfold maxLen; omega) (by omega) (by simp; omega) ?_
        intro v' w8 ho8 hg8 _
        have ho8 : w8.ownsRow w.heap.size 25 2 v' 4 (pr [(a0, b0), (a1, b1), (a2, b2), (p, q)]) := ho8
        have K8 := Lib.hid ((hg8.block w.heap.size (by simp; omega) (by intro e; exact nKF (Option.some.inj e))).trans (heap_keep K7.out))
        have G8 := Lib.hid ((hg8.block w1.heap.size (by simp; omega) (by intro e; exact nFG.symm (Option.some.inj e))).trans (heap_keep G7.out))
        have S8 := (S7.alloc _).own hR hg8 (fun k hk => by have : g = k := Option.some.inj hk; omega)
        have B8 := Lib.hid (owns_ne_ty ho8 G8.out (by decide))
        have D8 := Lib.hid (owns_ne_ty ho8 K8.out (by decide))
        have HO8 := Lib.hid ho8
        obtain ⟨ao, cap2, rfl, _⟩ := owns_shape ho8
        obtain ⟨⟨e0, e1, e2, e3⟩, p0, p1, p2, p3⟩ := row4 G8.out
        refine hK _ _ ?_
        clear hK K
        try simp only [Act.put, List.setIfInBounds_toArray, List.set_cons_zero, List.set_cons_succ]
        refine wpAny_take (i := 6) (v := ?_) rfl (by kernel_rfl) (by kernel_rfl) (by kernel_rfl) (fun _ _ _ h => h) (Or.inl ⟨by rfl, ?_⟩) ?_
        rotate_left
        · (intro W; go_simp; try with_reducible rfl)
        try simp only [Act.put, List.setIfInBounds_toArray, List.set_cons_zero, List.set_cons_succ]
        refine wpAny_ready (rs := [7]) (by kernel_rfl) (by simp) ?_
        refine AllReady.cons rfl (fun K hK => ?_) AllReady.nil
        go_simp
        refine hK _ _ ?_
        clear hK K
        try simp only [Act.put, List.setIfInBounds_toArray, List.set_cons_zero, List.set_cons_succ]
        refine wpAny_done (by kernel_rfl) ?_ _
        obtain ⟨w9, hW⟩ : ∃ W, W = w8.setCell ⟨w1.heap.size, 2, none⟩ (.slice ao 4 cap2) := ⟨_, rfl⟩
        rw [← hW]
        have K9 : Hid (w9.heap[w.heap.size]? = some (.cells #[.int .i64 0, .int .i64 0, .slice none 0 0, .int .i64 0] 28 (0, 0))) := by rw [hW]; exact heap_set K8.out nKG
        have G9 : Hid (w9.heap[w1.heap.size]? = some (.cells #[.int .i64 lo, .int .i64 hi, .slice ao 4 cap2, .int .i64 cp] 28 (0, 0))) := by rw [hW]; exact Joins.block_setCell G8.out _
        have S9 := S8.set (i := 2) hR (g := w1.heap.size) (by omega) (.slice ao 4 cap2)
        rw [← hW] at S9
        have O9 := owns_away (i := 2) (g := w1.heap.size) HO8.out (fun k hk => B8.out k hk) (.slice ao 4 cap2)
        rw [← hW] at O9
        have O9 := Lib.hid O9
        clear hW e0 e1 e2 e3 p0 p1 p2 p3
        go_upto_region 11 with fail
        refine wp_copy (t := 34) (pd := 2) (ps := 3) (ty := 28) rfl rfl rfl rfl rfl w1.heap.size w.heap.size #[.int .i64 lo, .int .i64 hi, .slice ao 4 cap2, .int .i64 cp] #[.int .i64 0, .int .i64 0, .slice none 0 0, .int .i64 0] 28 28 4 row28 rfl rfl rfl G9.out rfl K9.out rfl (by simp [Value.oneCell']) ?_
        go_wp2
        refine bodyPost_ret (results_row (p := 2) (ty := 28) rfl row28 _ _ w.heap.size 28 #[.int .i64 lo, .int .i64 hi, .slice ao 4 cap2, .int .i64 cp] rfl rfl (setRow_heap _ _ _ _ _ _ K9.out)) rfl ?_
        exact ⟨lo, hi, cp, [(a0, b0), (a1, b1), (a2, b2), (p, q)], _, rfl, owns_base (owns_row0 O9.out (fun k hk => D8.out k hk) _) (Nat.le_refl _), by simp, (S9.setRow hR (Nat.le_refl _) _).mono (by omega)⟩
      · go_simp
        refine hK _ _ ?_
        clear hK K
        try simp only [Act.put, List.setIfInBounds_toArray, List.set_cons_zero, List.set_cons_succ]
        refine wpAny_ready (rs := [1]) (by kernel_rfl) (by simp) ?_
        refine AllReady.cons rfl (fun K hK => ?_) AllReady.nil
        go_simp
        refine hK _ _ ?_
        clear hK K
        try simp only [Act.put, List.setIfInBounds_toArray, List.set_cons_zero, List.set_cons_succ]
        refine wpAny_ready (rs := [5]) (by kernel_rfl) (by simp) ?_
        refine AllReady.cons rfl (fun K hK => ?_) AllReady.nil
        rw [if_pos (by rfl)]
        refine wp_append_own _ (.tmp 16) (.tmp 19) 26 rfl w.heap.size 25 i0 _ 2 16 Tryz.underlying26 HI.out HZ0.out HZ1.out HZ2.out rfl (by decide) _ 3 (pr [(a0, b0), (a1, b1), (a2, b2)]) rfl (O7.out.alloc _) ⟨w7.heap.size, 0, none⟩ 1 1 [.int .i64 p, .int .i64 q] rfl rfl (cell_two_new w7 _ _ _) (by intro x hx; simp only [List.mem_cons, List.not_mem_nil, or_false] at hx; rcases hx with rfl | rfl <;> rfl) (by unfold maxLen; omega) (by omega) (by simp; omega) ?_
        intro v' w8 ho8 hg8 _
        have ho8 : w8.ownsRow w.heap.size 25 2 v' 4 (pr [(a0, b0), (a1, b1), (a2, b2), (p, q)]) := ho8
        have K8 := Lib.hid ((hg8.block w.heap.size (by simp; omega) (by intro e; exact nKF (Option.some.inj e))).trans (heap_keep K7.out))
        have G8 := Lib.hid ((hg8.block w1.heap.size (by simp; omega) (by intro e; exact nFG.symm (Option.some.inj e))).trans (heap_keep G7.out))
        have S8 := (S7.alloc _).own hR hg8 (fun k hk => by have : g = k := Option.some.inj hk; omega)
        have B8 := Lib.hid (owns_ne_ty ho8 G8.out (by decide))
        have D8 := Lib.hid (owns_ne_ty ho8 K8.out (by decide))
        have HO8 := Lib.hid ho8
        obtain ⟨ao, cap2, rfl, _⟩ := owns_shape ho8
        obtain ⟨⟨e0, e1, e2, e3⟩, p0, p1, p2, p3⟩ := row4 G8.out
        refine hK _ _ ?_
        clear hK K
        try simp only [Act.put, List.setIfInBounds_toArray, List.set_cons_zero, List.set_cons_succ]
        refine wpAny_take (i := 6) (v := ?_) rfl (by kernel_rfl) (by kernel_rfl) (by kernel_rfl) (fun _ _ _ h => h) (Or.inl ⟨by rfl, ?_⟩) ?_
        rotate_left
        · (intro W; go_simp; try with_reducible rfl)
        try simp only [Act.put, List.setIfInBounds_toArray, List.set_cons_zero, List.set_cons_succ]
        refine wpAny_ready (rs := [7]) (by kernel_rfl) (by simp) ?_
        refine AllReady.cons rfl (fun K hK => ?_) AllReady.nil
        go_simp
        refine hK _ _ ?_
        clear hK K
        try simp only [Act.put, List.setIfInBounds_toArray, List.set_cons_zero, List.set_cons_succ]
        refine wpAny_done (by kernel_rfl) ?_ _
        obtain ⟨w9, hW⟩ : ∃ W, W = w8.setCell ⟨w1.heap.size, 2, none⟩ (.slice ao 4 cap2) := ⟨_, rfl⟩
        rw [← hW]
        have K9 : Hid (w9.heap[w.heap.size]? = some (.cells #[.int .i64 0, .int .i64 0, .slice none 0 0, .int .i64 0] 28 (0, 0))) := by rw [hW]; exact heap_set K8.out nKG
        have G9 : Hid (w9.heap[w1.heap.size]? = some (.cells #[.int .i64 lo, .int .i64 hi, .slice ao 4 cap2, .int .i64 cp] 28 (0, 0))) := by rw [hW]; exact Joins.block_setCell G8.out _
        have S9 := S8.set (i := 2) hR (g := w1.heap.size) (by omega) (.slice ao 4 cap2)
        rw [← hW] at S9
        have O9 := owns_away (i := 2) (g := w1.heap.size) HO8.out (fun k hk => B8.out k hk) (.slice ao 4 cap2)
        rw [← hW] at O9
        have O9 := Lib.hid O9
        clear hW e0 e1 e2 e3 p0 p1 p2 p3
        go_upto_region 11 with fail
        refine wp_copy (t := 34) (pd := 2) (ps := 3) (ty := 28) rfl rfl rfl rfl rfl w1.heap.size w.heap.size #[.int .i64 lo, .int .i64 hi, .slice ao 4 cap2, .int .i64 cp] #[.int .i64 0, .int .i64 0, .slice none 0 0, .int .i64 0] 28 28 4 row28 rfl rfl rfl G9.out rfl K9.out rfl (by simp [Value.oneCell']) ?_
        go_wp2
        refine bodyPost_ret (results_row (p := 2) (ty := 28) rfl row28 _ _ w.heap.size 28 #[.int .i64 lo, .int .i64 hi, .slice ao 4 cap2, .int .i64 cp] rfl rfl (setRow_heap _ _ _ _ _ _ K9.out)) rfl ?_
        exact ⟨lo, hi, cp, [(a0, b0), (a1, b1), (a2, b2), (p, q)], _, rfl, owns_base (owns_row0 O9.out (fun k hk => D8.out k hk) _) (Nat.le_refl _), by simp, (S9.setRow hR (Nat.le_refl _) _).mono (by omega)⟩
  · obtain ⟨⟨c0, c1, c2, c3⟩, p0, p1, p2, p3⟩ := row4 G6.out
    obtain ⟨⟨e0, e1, e2, e3, e4, e5⟩, q0, q1, q2, q3, q4, q5⟩ := row6 F6.out
    go_upto_region 11 with fail
    obtain ⟨w8, hW⟩ : ∃ W, W = (w6.setCell ⟨g, 0, none⟩ (.int .i64 5)).setCell ⟨g, 1, none⟩ (.int .i64 4) := ⟨_, rfl⟩
    rw [← hW]
    have K8 : Hid (w8.heap[w.heap.size]? = some (.cells #[.int .i64 0, .int .i64 0, .slice none 0 0, .int .i64 0] 28 (0, 0))) := by rw [hW]; exact heap_set (heap_set (K6.out) (nKF)) (nKF)
    have F8 : Hid (w8.heap[g]? = some (.cells #[.int .i64 5, .int .i64 4, .int .i64 a1, .int .i64 b1, .int .i64 a2, .int .i64 b2] 25 (0, 0))) := by rw [hW]; exact Joins.block_setCell (Joins.block_setCell (F6.out) _) _
    have G8 : Hid (w8.heap[w1.heap.size]? = some (.cells #[.int .i64 lo, .int .i64 hi, .slice (some ⟨g, 0, none⟩) 3 3, .int .i64 cp] 28 (0, 0))) := by rw [hW]; exact heap_set (heap_set (G6.out) (nFG.symm)) (nFG.symm)
    have S8 : RdrStep w R (u + 7) w8 := by rw [hW]; exact RdrStep.set (RdrStep.set (S6) hR (by omega) _) hR (by omega) _
    clear hW K6 F6 G6 S6 Y6 c0 c1 c2 c3 p0 p1 p2 p3 e0 e1 e2 e3 e4 e5 q0 q1 q2 q3 q4 q5
    refine wp_copy (t := 34) (pd := 2) (ps := 3) (ty := 28) rfl rfl rfl rfl rfl w1.heap.size w.heap.size #[.int .i64 lo, .int .i64 hi, .slice (some ⟨g, 0, none⟩) 3 3, .int .i64 cp] #[.int .i64 0, .int .i64 0, .slice none 0 0, .int .i64 0] 28 28 4 row28 rfl rfl rfl G8.out rfl K8.out rfl (by simp [Value.oneCell']) ?_
    go_wp2
    refine bodyPost_ret (results_row (p := 2) (ty := 28) rfl row28 _ _ w.heap.size 28 #[.int .i64 lo, .int .i64 hi, .slice (some ⟨g, 0, none⟩) 3 3, .int .i64 cp] rfl rfl (setRow_heap _ _ _ _ _ _ K8.out)) rfl ?_
    exact ⟨lo, hi, cp, [(5, 4), (a1, b1), (a2, b2)], _, rfl, six_owns ((setRow_other _ _ _ _ (Ne.symm nKF)).trans F8.out) (by omega), by simp, (S8.setRow hR (Nat.le_refl _) _).mono (by omega)⟩
  · go_wp2_with fail
    refine (one_lit R _ [-1, 9, 10] w6 3 S6.1 (by omega) (by simp) (by simp)).mono ?_
    rintro e w7 ⟨a, _, rfl, s7⟩
    have K7 := Lib.hid (s7.row K6.out nK)
    have F7 := Lib.hid (s7.row F6.out nF)
    have G7 := Lib.hid (s7.row G6.out nG)
    have S7 := S6.trans s7
    have Y7 := Nat.lt_of_lt_of_le Y6 s7.size
    clear K6 F6 G6 S6 s7 Y6
    obtain ⟨⟨c0, c1, c2, c3⟩, p0, p1, p2, p3⟩ := row4 G7.out
    go_upto_region 11 with fail
    obtain ⟨w8, hW⟩ : ∃ W, W = w7.setCell ⟨w1.heap.size, 3, none⟩ (.int .i64 a) := ⟨_, rfl⟩
    rw [← hW]
    have K8 : Hid (w8.heap[w.heap.size]? = some (.cells #[.int .i64 0, .int .i64 0, .slice none 0 0, .int .i64 0] 28 (0, 0))) := by rw [hW]; exact heap_set (K7.out) (nKG)
    have F8 : Hid (w8.heap[g]? = some (.cells #[.int .i64 a0, .int .i64 b0, .int .i64 a1, .int .i64 b1, .int .i64 a2, .int .i64 b2] 25 (0, 0))) := by rw [hW]; exact heap_set (F7.out) (nFG)
    have G8 : Hid (w8.heap[w1.heap.size]? = some (.cells #[.int .i64 lo, .int .i64 hi, .slice (some ⟨g, 0, none⟩) 3 3, .int .i64 a] 28 (0, 0))) := by rw [hW]; exact Joins.block_setCell (G7.out) _
    have S8 : RdrStep w R (u + 8) w8 := by rw [hW]; exact RdrStep.set (S7) hR (by omega) _
    clear hW K7 F7 G7 S7 Y7 c0 c1 c2 c3 p0 p1 p2 p3
    refine wp_copy (t := 34) (pd := 2) (ps := 3) (ty := 28) rfl rfl rfl rfl rfl w1.heap.size w.heap.size #[.int .i64 lo, .int .i64 hi, .slice (some ⟨g, 0, none⟩) 3 3, .int .i64 a] #[.int .i64 0, .int .i64 0, .slice none 0 0, .int .i64 0] 28 28 4 row28 rfl rfl rfl G8.out rfl K8.out rfl (by simp [Value.oneCell']) ?_
    go_wp2
    refine bodyPost_ret (results_row (p := 2) (ty := 28) rfl row28 _ _ w.heap.size 28 #[.int .i64 lo, .int .i64 hi, .slice (some ⟨g, 0, none⟩) 3 3, .int .i64 a] rfl rfl (setRow_heap _ _ _ _ _ _ K8.out)) rfl ?_
    exact ⟨lo, hi, a, [(a0, b0), (a1, b1), (a2, b2)], _, rfl, six_owns ((setRow_other _ _ _ _ (Ne.symm nKF)).trans F8.out) (by omega), by simp, (S8.setRow hR (Nat.le_refl _) _).mono (by omega)⟩
  · have n0 : (m == 0) = false := by simp; omega
    have n1 : (m == 1) = false := by simp; omega
    have n2 : (m == 2) = false := by simp; omega
    have n3 : (m == 3) = false := by simp; omega
    go_upto_region 11 with fail
    refine wp_copy (t := 34) (pd := 2) (ps := 3) (ty := 28) rfl rfl rfl rfl rfl w1.heap.size w.heap.size #[.int .i64 lo, .int .i64 hi, .slice (some ⟨g, 0, none⟩) 3 3, .int .i64 cp] #[.int .i64 0, .int .i64 0, .slice none 0 0, .int .i64 0] 28 28 4 row28 rfl rfl rfl G6.out rfl K6.out rfl (by simp [Value.oneCell']) ?_
    go_wp2
    refine bodyPost_ret (results_row (p := 2) (ty := 28) rfl row28 _ _ w.heap.size 28 #[.int .i64 lo, .int .i64 hi, .slice (some ⟨g, 0, none⟩) 3 3, .int .i64 cp] rfl rfl (setRow_heap _ _ _ _ _ _ K6.out)) rfl ?_
    exact ⟨lo, hi, cp, [(a0, b0), (a1, b1), (a2, b2)], _, rfl, six_owns ((setRow_other _ _ _ _ (Ne.symm nKF)).trans F6.out) (by omega), by simp, (S6.setRow hR (Nat.le_refl _) _).mono (by omega)⟩

end Go.Proofs.YtdofpealmngmiaaGreatDoor
