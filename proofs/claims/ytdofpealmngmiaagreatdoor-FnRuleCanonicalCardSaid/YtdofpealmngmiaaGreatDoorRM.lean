/- Walks: the generators of spans and guards. Conditions: none. -/
import Derived.Test.YtdofpealmngmiaaGreatDoorRL
namespace Go.Proofs.YtdofpealmngmiaaGreatDoor
open Go.RowKit

/-- What a drawn span is. -/
def SpPost (n : Nat) (w : World) (R u : Nat) (e : Ending) (w' : World) : Prop := ∃ a b : Int, e = .returned (.agg #[.int .i64 a, .int .i64 b]) ∧ RdrStep w R (u + n) w'

set_option maxHeartbeats 2000000 in
set_option maxRecDepth 100000 in
theorem someSpan_any (R u : Nat) (w : World) (h : Rdr w R u) (hu : u ≤ 1000000000000) :
    Calls Tryz.prog 64 #[.pointer (some ⟨R, 0, none⟩)] w (SpPost 2 w R u) := by
  have hR := h.lt
  have S0 := (RdrStep.refl h).alloc (.cells #[.int .i64 0, .int .i64 0] 25)
  have k0 := heap_alloc_new w (.cells #[.int .i64 0, .int .i64 0] 25)
  have K0 := Lib.hid k0
  clear k0
  go_enter Tryz.func64, Tryz.ntmps64
  go_wp2_with fail
  have c1 := one_lit R _ [0, 1, 2, 10, 100, 1000, 5] (w.alloc (.cells #[.int .i64 0, .int .i64 0] 25)) 3 S0.1 (by omega) (by simp) (by simp)
  rw [World.size_alloc] at c1
  refine c1.mono ?_
  clear c1
  rintro e w2 ⟨a, _, rfl, s2⟩
  have k2 := s2.row K0.out (by omega)
  have S2 := S0.trans s2
  clear s2 S0
  go_wp2_with fail
  refine (one_lit R _ [0, 1, 5, 100, 900, 20000] w2 3 S2.1 (by omega) (by simp) (by simp)).mono ?_
  rintro e w3 ⟨b, _, rfl, s3⟩
  have k3 := s3.row k2 (by omega)
  have S3 := S2.trans s3
  clear s3 S2 k2
  obtain ⟨⟨c0, c1⟩, p0, p1⟩ := row2 k3
  go_wp2
  refine bodyPost_ret (results_row (p := 2) (ty := 25) rfl row25 _ _ w.heap.size 25 #[.int .i64 a, .int .i64 (wrap64 (a + b))] rfl rfl (Joins.block_setCell (i := 1) (Joins.block_setCell (i := 0) k3 _) _)) rfl ?_
  exact ⟨a, _, rfl, ((S3.set hR (Nat.le_refl _) _).set hR (Nat.le_refl _) _).mono (by omega)⟩

set_option maxHeartbeats 2000000 in
set_option maxRecDepth 100000 in
theorem anySpan_any (R u : Nat) (w : World) (h : Rdr w R u) (hu : u ≤ 999999999000) :
    Calls Tryz.prog 53 #[.pointer (some ⟨R, 0, none⟩)] w (SpPost 3 w R u) := by
  have hR := h.lt
  have S0 := (RdrStep.refl h).alloc (.cells #[.int .i64 0, .int .i64 0] 25)
  have k0 := heap_alloc_new w (.cells #[.int .i64 0, .int .i64 0] 25)
  have K0 := Lib.hid k0
  clear k0
  go_enter Tryz.func53, Tryz.ntmps53
  go_wp2_with fail
  refine (pick_any R _ _ _ S0.1 (by omega)).mono ?_
  rintro e w2 ⟨m, rfl, _, _, s2⟩
  have k2 := s2.row K0.out (by omega)
  have S2 := S0.trans s2
  clear s2 S0
  cases hm : (m == 0)
  · go_wp2_with fail
    refine (someSpan_any R _ _ S2.1 (by omega)).mono ?_
    rintro e w3 ⟨a, b, rfl, s3⟩
    have k3 := s3.row k2 (by omega)
    have S3 := S2.trans s3
    clear s3 S2 k2
    obtain ⟨⟨c0, c1⟩, p0, p1⟩ := row2 k3
    go_wp2
    refine bodyPost_ret (results_row (p := 2) (ty := 25) rfl row25 _ _ w.heap.size 25 #[.int .i64 a, .int .i64 b] rfl rfl (Joins.block_setCell (i := 1) (Joins.block_setCell (i := 0) k3 _) _)) rfl ?_
    exact ⟨a, _, rfl, ((S3.set hR (Nat.le_refl _) _).set hR (Nat.le_refl _) _).mono (by omega)⟩
  · go_wp2_with fail
    refine (one_lit R _ [-1, 5, 1000000] w2 3 S2.1 (by omega) (by simp) (by simp)).mono ?_
    rintro e w3 ⟨a, _, rfl, s3⟩
    have k3 := s3.row k2 (by omega)
    have S3 := S2.trans s3
    clear s3 S2 k2
    go_wp2_with fail
    refine (one_lit R _ [1000000, 1000001, 4] w3 3 S3.1 (by omega) (by simp) (by simp)).mono ?_
    rintro e w4 ⟨b, _, rfl, s4⟩
    have k4 := s4.row k3 (by omega)
    have S4 := S3.trans s4
    clear s4 S3 k3
    obtain ⟨⟨c0, c1⟩, p0, p1⟩ := row2 k4
    go_wp2
    refine bodyPost_ret (results_row (p := 2) (ty := 25) rfl row25 _ _ w.heap.size 25 #[.int .i64 a, .int .i64 b] rfl rfl (Joins.block_setCell (i := 1) (Joins.block_setCell (i := 0) k4 _) _)) rfl ?_
    exact ⟨a, _, rfl, ((S4.set hR (Nat.le_refl _) _).set hR (Nat.le_refl _) _).mono (by omega)⟩

theorem all_any (w : World) : Calls Tryz.prog 63 #[] w fun e w' => e = .returned (.agg #[.int .i64 0, .int .i64 1000000]) ∧ Below w.heap.size w w' := by
  go_enter Tryz.func63, Tryz.ntmps63
  go_wp2
  refine bodyPost_ret (results_row (p := 0) (ty := 25) rfl row25 _ _ w.heap.size 25 #[.int .i64 0, .int .i64 1000000] rfl rfl (heap_alloc_new w _)) rfl ?_
  exact ⟨rfl, (Below.refl _ w).alloc (Nat.le_refl _) _⟩

end Go.Proofs.YtdofpealmngmiaaGreatDoor
