/- Walks: the copies, sizes and comparisons of the exact laws on a bundle. Conditions: none. -/
import Derived.Test.YtomapdedajdkkabCL
import Derived.Test.YtomapdedajdkkabRow
import Derived.Laws.Rows
namespace Go.Proofs.Ytomapdedajdkkab
open Go.RowKit

theorem owns_baseB {w : World} {base base' e sz n : Nat} {v : Value} {xs : List Value} (h : w.ownsRow base e sz v n xs) (hb : base' ≤ base) : w.ownsRow base' e sz v n xs := by
  refine ⟨h.1, ?_⟩
  rcases h.2 with hn | ⟨g, cap, cur, rfl, hg, rest⟩
  · exact .inl hn
  · exact .inr ⟨g, cap, cur, rfl, by omega, rest⟩

set_option maxHeartbeats 400000 in
theorem szBundle_any (ao : Option Addr) (n cap : Nat) (p : Int) (left : Int) (w : World) (hn : n ≤ 9223372036854775807) (h0 : 0 ≤ left) (h1 : left ≤ 1048576) :
    Calls Try.prog 13 #[.agg #[.slice ao n cap, .int .i64 p], .int .i64 left] w fun e w' => e = .returned (.int .i64 (szL left n)) ∧ Below w.heap.size w w' := by
  by_cases h : left - (n : Int) < 0
  · have hsz : Hid (szL left n = -1) := by rw [Hid, szL, if_pos (by omega)]
    go_enter Try.func13, Try.ntmps13
    go_wp2_with (go_at_call 27; refine (szLineS_any _ _ _ _ _ hn h0 h1).mono ?_; rintro e w0 ⟨rfl, rfl⟩; rw [hsz.out])
    go_ret
    exact ⟨by rw [hsz.out] <;> rfl, by go_grown⟩
  · have hsz : Hid (szL left n = left - n) := by rw [Hid, szL, if_neg (by omega)]
    have h' : 0 ≤ left - (n : Int) := by omega
    have h2 : decide (left - (n : Int) < 0) = false := by rw [decide_eq_false_iff_not]; exact h
    go_enter Try.func13, Try.ntmps13
    go_wp2_with (go_at_call 27; refine (szLineS_any _ _ _ _ _ hn h0 h1).mono ?_; rintro e w0 ⟨rfl, rfl⟩; rw [hsz.out])
    go_ret
    exact ⟨by rw [hsz.out] <;> rfl, by go_grown⟩

set_option maxHeartbeats 1000000 in
theorem eqBundle_any (c : List (Int × Int)) (u v : Value) (p : Int) (w : World) (hu : Rd w 2 u c.length (pr c)) (hv : Rd w 2 v c.length (pr c)) :
    Calls Try.prog 19 #[.agg #[u, .int .i64 p], .agg #[v, .int .i64 p]] w fun e w' => e = .returned (.bool true) ∧ Below w.heap.size w w' := by
  have HU := Lib.hid hu
  have HV := Lib.hid hv
  obtain ⟨ao, cap, rfl, _⟩ := hu.pairs
  obtain ⟨bo, cap2, rfl, _⟩ := hv.pairs
  clear hu hv
  have hd : decide (c = c) = true := by simp
  have hp : (p != p) = false := by simp
  have e0 : ((w.alloc (.cells #[.slice ao c.length cap, .int .i64 p] 33)).alloc (.cells #[.slice bo c.length cap2, .int .i64 p] 33)).heap[w.heap.size]? = some (.cells #[.slice ao c.length cap, .int .i64 p] 33) := by
    rw [Below.heap_alloc _ _ _ (by simp)]; exact heap_alloc_new w _
  have e1 : ((w.alloc (.cells #[.slice ao c.length cap, .int .i64 p] 33)).alloc (.cells #[.slice bo c.length cap2, .int .i64 p] 33)).heap[w.heap.size + 1]? = some (.cells #[.slice bo c.length cap2, .int .i64 p] 33) := by
    have h := heap_alloc_new (w.alloc (.cells #[.slice ao c.length cap, .int .i64 p] 33)) (.cells #[.slice bo c.length cap2, .int .i64 p] 33); rw [World.size_alloc] at h; exact h
  have z2 : ((w.alloc (.cells #[.slice ao c.length cap, .int .i64 p] 33)).alloc (.cells #[.slice bo c.length cap2, .int .i64 p] 33)).heap.size = w.heap.size + 2 := by simp
  have b2 : Below w.heap.size w ((w.alloc (.cells #[.slice ao c.length cap, .int .i64 p] 33)).alloc (.cells #[.slice bo c.length cap2, .int .i64 p] 33)) := ((Below.refl _ _).alloc (Nat.le_refl _) _).alloc (by simp) _
  have H0 := Lib.hid e0
  have H1 := Lib.hid e1
  have HB := Lib.hid b2
  clear e0 e1 b2
  go_enter Try.func19, Try.ntmps19
  go_wp2_with (go_at_call 32; refine (eqLineS_any c c _ _ _ (HU.out.below HB.out (Nat.le_refl _)) (HV.out.below HB.out (Nat.le_refl _))).mono ?_; rintro e w1 ⟨rfl, hb1⟩; rw [hd]; have k0 := (hb1.block w.heap.size (by omega)).trans H0.out; have k1 := (hb1.block (w.heap.size + 1) (by omega)).trans H1.out; have g0 : w1.cell? ⟨w.heap.size, 1, none⟩ = some (.int .i64 p) := cell_of_row w1 _ 1 _ _ _ k0; have g1 : w1.cell? ⟨w.heap.size + 1, 1, none⟩ = some (.int .i64 p) := cell_of_row w1 _ 1 _ _ _ k1)
  go_ret
  exact ⟨rfl, HB.out.trans (hb1.mono (by omega))⟩

theorem two_cells {w : World} {b c : Nat} {X Y x y : Value} (h : b ≠ c) (d0 : w.cell? ⟨b, 0, none⟩ = some x) (d1 : w.cell? ⟨b, 1, none⟩ = some y) :
    ((((w.setCell ⟨c, 0, none⟩ X).setCell ⟨c, 1, none⟩ Y).setCell ⟨b, 0, none⟩ X).setCell ⟨b, 1, none⟩ Y).cell? ⟨b, 0, none⟩ = some X ∧
    ((((w.setCell ⟨c, 0, none⟩ X).setCell ⟨c, 1, none⟩ Y).setCell ⟨b, 0, none⟩ X).setCell ⟨b, 1, none⟩ Y).cell? ⟨b, 1, none⟩ = some Y := by
  have n1 : (⟨c, 0, none⟩ : Addr) ≠ ⟨b, 0, none⟩ := fun e => h (by cases e; rfl)
  have n2 : (⟨c, 1, none⟩ : Addr) ≠ ⟨b, 0, none⟩ := fun e => by cases e
  have n3 : (⟨c, 0, none⟩ : Addr) ≠ ⟨b, 1, none⟩ := fun e => by cases e
  have n4 : (⟨c, 1, none⟩ : Addr) ≠ ⟨b, 1, none⟩ := fun e => h (by cases e; rfl)
  have n5 : (⟨b, 1, none⟩ : Addr) ≠ ⟨b, 0, none⟩ := fun e => by cases e
  refine ⟨?_, ?_⟩
  · rw [World.cell?_setCell_other (h := n5)]
    exact World.cell?_setCell_same _ _ _ (u := x) (by rw [World.cell?_setCell_other (h := n2), World.cell?_setCell_other (h := n1)]; exact d0)
  · exact World.cell?_setCell_same _ _ _ (u := y) (by rw [World.cell?_setCell_other (h := n5.symm), World.cell?_setCell_other (h := n4), World.cell?_setCell_other (h := n3)]; exact d1)

set_option maxHeartbeats 1000000 in
theorem toBundle_any (c : List (Int × Int)) (v : Value) (p : Int) (w : World) (hv : Rd w 2 v c.length (pr c)) (hl : c.length ≤ 1048576) :
    Calls Try.prog 16 #[.agg #[v, .int .i64 p]] w fun e w' => ∃ o, e = .returned (.agg #[o, .int .i64 p]) ∧ w'.ownsRow w.heap.size 46 2 o c.length (pr c) ∧ Below w.heap.size w w' := by
  have HV := Lib.hid hv
  obtain ⟨bo, cap, rfl, _⟩ := hv.pairs
  clear hv
  have e0 : (((w.alloc (.cells #[.slice bo c.length cap, .int .i64 p] 25)).alloc (.cells #[.slice none 0 0, .int .i64 0] 33)).alloc (.cells #[.slice none 0 0, .int .i64 0] 33)).heap[w.heap.size]? = some (.cells #[.slice bo c.length cap, .int .i64 p] 25) := by
    rw [Below.heap_alloc _ _ _ (by simp; omega), Below.heap_alloc _ _ _ (by simp)]; exact heap_alloc_new w _
  have e1 : (((w.alloc (.cells #[.slice bo c.length cap, .int .i64 p] 25)).alloc (.cells #[.slice none 0 0, .int .i64 0] 33)).alloc (.cells #[.slice none 0 0, .int .i64 0] 33)).heap[w.heap.size + 1]? = some (.cells #[.slice none 0 0, .int .i64 0] 33) := by
    rw [Below.heap_alloc _ _ _ (by simp)]; have h := heap_alloc_new (w.alloc (.cells #[.slice bo c.length cap, .int .i64 p] 25)) (.cells #[.slice none 0 0, .int .i64 0] 33); rw [World.size_alloc] at h; exact h
  have e2 : (((w.alloc (.cells #[.slice bo c.length cap, .int .i64 p] 25)).alloc (.cells #[.slice none 0 0, .int .i64 0] 33)).alloc (.cells #[.slice none 0 0, .int .i64 0] 33)).heap[w.heap.size + 2]? = some (.cells #[.slice none 0 0, .int .i64 0] 33) := by
    have h := heap_alloc_new ((w.alloc (.cells #[.slice bo c.length cap, .int .i64 p] 25)).alloc (.cells #[.slice none 0 0, .int .i64 0] 33)) (.cells #[.slice none 0 0, .int .i64 0] 33); rw [World.size_alloc, World.size_alloc] at h; exact h
  have b3 : Below w.heap.size w (((w.alloc (.cells #[.slice bo c.length cap, .int .i64 p] 25)).alloc (.cells #[.slice none 0 0, .int .i64 0] 33)).alloc (.cells #[.slice none 0 0, .int .i64 0] 33)) := (((Below.refl _ _).alloc (Nat.le_refl _) _).alloc (by simp) _).alloc (by simp; omega) _
  have z3 : (((w.alloc (.cells #[.slice bo c.length cap, .int .i64 p] 25)).alloc (.cells #[.slice none 0 0, .int .i64 0] 33)).alloc (.cells #[.slice none 0 0, .int .i64 0] 33)).heap.size = w.heap.size + 3 := by simp
  have H0 := Lib.hid e0
  have H1 := Lib.hid e1
  have H2 := Lib.hid e2
  have HB := Lib.hid b3
  clear e0 e1 e2 b3
  go_enter Try.func16, Try.ntmps16
  go_wp2_with (go_at_call 29; (with_reducible refine (toLineS_any c _ _ (HV.out.below HB.out (Nat.le_refl _)) hl).mono ?_); rintro e w1 ⟨o, rfl, ho, hb⟩; have k0 := (hb.block w.heap.size (by omega)).trans H0.out; have k1 := (hb.block (w.heap.size + 1) (by omega)).trans H1.out; have k2 := (hb.block (w.heap.size + 2) (by omega)).trans H2.out; obtain ⟨oo, ocap, rfl, _⟩ := (Rd.of_owns ho).pairs; have c1 : w1.cell? ⟨w.heap.size, 1, none⟩ = some (.int .i64 p) := cell_of_row w1 _ 1 _ _ _ k0; have d0 : w1.cell? ⟨w.heap.size + 1, 0, none⟩ = some (.slice none 0 0) := cell_of_row w1 _ 0 _ _ _ k1; have d1 : w1.cell? ⟨w.heap.size + 1, 1, none⟩ = some (.int .i64 0) := cell_of_row w1 _ 1 _ _ _ k1; have f0 : w1.cell? ⟨w.heap.size + 1 + 1, 0, none⟩ = some (.slice none 0 0) := cell_of_row w1 _ 0 _ _ _ k2; have f1 : w1.cell? ⟨w.heap.size + 1 + 1, 1, none⟩ = some (.int .i64 0) := cell_of_row w1 _ 1 _ _ _ k2; have d2 := frozen_of_row w1 _ 0 _ _ k1; have d3 := frozen_of_row w1 _ 1 _ _ k1; have f2 : w1.frozen? ⟨w.heap.size + 1 + 1, 0, none⟩ = false := frozen_of_row w1 _ 0 _ _ k2; have f3 : w1.frozen? ⟨w.heap.size + 1 + 1, 1, none⟩ = false := frozen_of_row w1 _ 1 _ _ k2)
  have hB1 := HB.out.trans (hb.mono (by omega))
  rw [z3] at ho
  obtain ⟨r0, r1⟩ := two_cells (X := .slice oo c.length ocap) (Y := .int .i64 p) (show w.heap.size + 1 ≠ w.heap.size + 1 + 1 by omega) d0 d1
  refine bodyPost_ret (by simp [results, Try.results16, go_sem, r0, r1]; try rfl) rfl ?_
  refine ⟨_, rfl, owns_baseB (ownsRow_setCell_below (ownsRow_setCell_below (ownsRow_setCell_below (ownsRow_setCell_below ho (by simp <;> omega) _) (by simp <;> omega) _) (by simp <;> omega) _) (by simp <;> omega) _) (by omega), ?_⟩
  exact (((hB1.setCell (by simp <;> omega) _).setCell (by simp <;> omega) _).setCell (by simp) _).setCell (by simp) _

end Go.Proofs.Ytomapdedajdkkab
