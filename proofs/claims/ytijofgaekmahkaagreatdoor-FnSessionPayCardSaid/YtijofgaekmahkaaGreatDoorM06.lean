/- Joined texts: Walks: valid rules. A region that leaves its order open, whose loads read what was there before and whose calls make new memory alone: one walk in the order of the text serves every order. Walks: the text of a rule in the reference. Conditions: none. -/
import Derived.Test.YtijofgaekmahkaaGreatDoorM05
import Derived.Deep.QuietTactic
import Derived.BigQuiet
import Derived.Handy
import Derived.Deep.Cut
namespace Go.Proofs.YtijofgaekmahkaaGreatDoor
open Go.RowKit
theorem okRu_val {r : Rl} (h1 : wi r.num 1 99 = true) (h2 : wi r.lvl 0 3 = true) (h3 : wi r.rank 0 9 = true) (h4 : wi r.group (-1) 2 = true) (h5 : wi r.cap 0 1000000 = true) (h6 : okGd r = true) : okRu r = okVal r.kind r.value := by
 simp [okRu, h1, h2, h3, h4, h5, h6]
theorem box_ru (w : World) (x0 x1 x2 x3 x4 x5 x6 x7 x8 x9 x10 : Value) (t : TypeId) : (w.alloc (.cells #[x0, x1, x2, x3, x4, x5, x6, x7, x8, x9, x10] t)).cell? ⟨w.heap.size, 4, none⟩ = some x4 ∧ (w.alloc (.cells #[x0, x1, x2, x3, x4, x5, x6, x7, x8, x9, x10] t)).cell? ⟨w.heap.size, 5, none⟩ = some x5 :=
 ⟨cell_of_row _ _ 4 _ _ _ (heap_alloc_new w _), cell_of_row _ _ 5 _ _ _ (heap_alloc_new w _)⟩
set_option maxHeartbeats 2000000 in
theorem specRule_in (r : Rl) (v : Value) (w : World) (hv : Rd w 2 v r.counts.length (pr r.counts)) :
   Calls Tryz.prog 25 #[ruV r v] w fun e w' => e = .returned (.bool (okRu r)) ∧ Below w.heap.size w w' := by
 have HV := Lib.hid hv
 obtain ⟨ao, cap, rfl, _, _, _⟩ := hv.pairs
 clear hv
 unfold ruV
 cases h1 : wi r.num 1 99
 · go_enter Tryz.func25, Tryz.ntmps25
   go_wp2_with (first | (go_at_call 54; refine (inRange_any _ _ _ _).mono ?_; rintro e w2 ⟨rfl, rfl⟩))
   go_ret
   exact ⟨by simp [okRu, h1], ((Below.refl _ w).alloc (Nat.le_refl _) _)⟩
 cases h2 : wi r.lvl 0 3
 · go_enter Tryz.func25, Tryz.ntmps25
   go_wp2_with (first | (go_at_call 54; refine (inRange_any _ _ _ _).mono ?_; rintro e w2 ⟨rfl, rfl⟩))
   go_ret
   exact ⟨by simp [okRu, h2], ((Below.refl _ w).alloc (Nat.le_refl _) _)⟩
 cases h3 : wi r.rank 0 9
 · go_enter Tryz.func25, Tryz.ntmps25
   go_wp2_with (first | (go_at_call 54; refine (inRange_any _ _ _ _).mono ?_; rintro e w2 ⟨rfl, rfl⟩))
   go_ret
   exact ⟨by simp [okRu, h3], ((Below.refl _ w).alloc (Nat.le_refl _) _)⟩
 cases h4 : wi r.group (-1) 2
 · go_enter Tryz.func25, Tryz.ntmps25
   go_wp2_with (first | (go_at_call 54; refine (inRange_any _ _ _ _).mono ?_; rintro e w2 ⟨rfl, rfl⟩))
   go_ret
   exact ⟨by simp [okRu, h4], ((Below.refl _ w).alloc (Nat.le_refl _) _)⟩
 cases h5 : wi r.cap 0 1000000
 · go_enter Tryz.func25, Tryz.ntmps25
   go_wp2_with (first | (go_at_call 54; refine (inRange_any _ _ _ _).mono ?_; rintro e w2 ⟨rfl, rfl⟩))
   go_ret
   exact ⟨by simp [okRu, h5], ((Below.refl _ w).alloc (Nat.le_refl _) _)⟩
 cases h6 : okGd r
 · go_enter Tryz.func25, Tryz.ntmps25
   go_wp2_with (first | (go_at_call 54; refine (inRange_any _ _ _ _).mono ?_; rintro e w2 ⟨rfl, rfl⟩) | (go_at_call 55; (refine (specGuard_any r _ _ (HV.out.below ((Below.refl _ w).alloc (Nat.le_refl _) _) (Nat.le_refl _))).mono ?_); rintro e w1 ⟨rfl, b1⟩; have f4 := (b1.cell (p := ⟨w.heap.size, 4, none⟩) (by rw [World.size_alloc]; exact Nat.lt_succ_self _)).trans (box_ru w _ _ _ _ _ _ _ _ _ _ _ _).1; have f5 := (b1.cell (p := ⟨w.heap.size, 5, none⟩) (by rw [World.size_alloc]; exact Nat.lt_succ_self _)).trans (box_ru w _ _ _ _ _ _ _ _ _ _ _ _).2))
   go_ret
   exact ⟨by simp [okRu, h6], (((Below.refl _ w).alloc (Nat.le_refl _) _).trans (b1.mono (by rw [World.size_alloc]; exact Nat.le_succ _)))⟩
 have fin := Lib.hid (okRu_val h1 h2 h3 h4 h5 h6)
 by_cases k1 : r.kind = 1
 · have k9 : okVal r.kind r.value = wi r.value 1 1000 := by unfold okVal; rw [if_pos k1]
   go_enter Tryz.func25, Tryz.ntmps25
   go_wp2_with (first | (go_at_call 54; refine (inRange_any _ _ _ _).mono ?_; rintro e w2 ⟨rfl, rfl⟩) | (go_at_call 55; (refine (specGuard_any r _ _ (HV.out.below ((Below.refl _ w).alloc (Nat.le_refl _) _) (Nat.le_refl _))).mono ?_); rintro e w1 ⟨rfl, b1⟩; have f4 := (b1.cell (p := ⟨w.heap.size, 4, none⟩) (by rw [World.size_alloc]; exact Nat.lt_succ_self _)).trans (box_ru w _ _ _ _ _ _ _ _ _ _ _ _).1; have f5 := (b1.cell (p := ⟨w.heap.size, 5, none⟩) (by rw [World.size_alloc]; exact Nat.lt_succ_self _)).trans (box_ru w _ _ _ _ _ _ _ _ _ _ _ _).2))
   go_ret
   exact ⟨by rw [fin.out, k9]; rfl, (((Below.refl _ w).alloc (Nat.le_refl _) _).trans (b1.mono (by rw [World.size_alloc]; exact Nat.le_succ _)))⟩
 by_cases k2 : r.kind = 2
 · have k9 : okVal r.kind r.value = wi r.value 1 1000000 := by unfold okVal; rw [if_neg k1, if_pos k2]
   go_enter Tryz.func25, Tryz.ntmps25
   go_wp2_with (first | (go_at_call 54; refine (inRange_any _ _ _ _).mono ?_; rintro e w2 ⟨rfl, rfl⟩) | (go_at_call 55; (refine (specGuard_any r _ _ (HV.out.below ((Below.refl _ w).alloc (Nat.le_refl _) _) (Nat.le_refl _))).mono ?_); rintro e w1 ⟨rfl, b1⟩; have f4 := (b1.cell (p := ⟨w.heap.size, 4, none⟩) (by rw [World.size_alloc]; exact Nat.lt_succ_self _)).trans (box_ru w _ _ _ _ _ _ _ _ _ _ _ _).1; have f5 := (b1.cell (p := ⟨w.heap.size, 5, none⟩) (by rw [World.size_alloc]; exact Nat.lt_succ_self _)).trans (box_ru w _ _ _ _ _ _ _ _ _ _ _ _).2))
   go_ret
   exact ⟨by rw [fin.out, k9]; rfl, (((Below.refl _ w).alloc (Nat.le_refl _) _).trans (b1.mono (by rw [World.size_alloc]; exact Nat.le_succ _)))⟩
 by_cases k3 : r.kind = 3
 · have k9 : okVal r.kind r.value = wi r.value 2 20 := by unfold okVal; rw [if_neg k1, if_neg k2, if_pos k3]
   go_enter Tryz.func25, Tryz.ntmps25
   go_wp2_with (first | (go_at_call 54; refine (inRange_any _ _ _ _).mono ?_; rintro e w2 ⟨rfl, rfl⟩) | (go_at_call 55; (refine (specGuard_any r _ _ (HV.out.below ((Below.refl _ w).alloc (Nat.le_refl _) _) (Nat.le_refl _))).mono ?_); rintro e w1 ⟨rfl, b1⟩; have f4 := (b1.cell (p := ⟨w.heap.size, 4, none⟩) (by rw [World.size_alloc]; exact Nat.lt_succ_self _)).trans (box_ru w _ _ _ _ _ _ _ _ _ _ _ _).1; have f5 := (b1.cell (p := ⟨w.heap.size, 5, none⟩) (by rw [World.size_alloc]; exact Nat.lt_succ_self _)).trans (box_ru w _ _ _ _ _ _ _ _ _ _ _ _).2))
   go_ret
   exact ⟨by rw [fin.out, k9]; rfl, (((Below.refl _ w).alloc (Nat.le_refl _) _).trans (b1.mono (by rw [World.size_alloc]; exact Nat.le_succ _)))⟩
 · have k9 : okVal r.kind r.value = false := by unfold okVal; rw [if_neg k1, if_neg k2, if_neg k3]
   go_enter Tryz.func25, Tryz.ntmps25
   go_wp2_with (first | (go_at_call 54; refine (inRange_any _ _ _ _).mono ?_; rintro e w2 ⟨rfl, rfl⟩) | (go_at_call 55; (refine (specGuard_any r _ _ (HV.out.below ((Below.refl _ w).alloc (Nat.le_refl _) _) (Nat.le_refl _))).mono ?_); rintro e w1 ⟨rfl, b1⟩; have f4 := (b1.cell (p := ⟨w.heap.size, 4, none⟩) (by rw [World.size_alloc]; exact Nat.lt_succ_self _)).trans (box_ru w _ _ _ _ _ _ _ _ _ _ _ _).1; have f5 := (b1.cell (p := ⟨w.heap.size, 5, none⟩) (by rw [World.size_alloc]; exact Nat.lt_succ_self _)).trans (box_ru w _ _ _ _ _ _ _ _ _ _ _ _).2))
   go_ret
   exact ⟨by rw [fin.out, k9]; rfl, (((Below.refl _ w).alloc (Nat.le_refl _) _).trans (b1.mono (by rw [World.size_alloc]; exact Nat.le_succ _)))⟩
set_option maxHeartbeats 2000000 in
theorem implRule_any (r : Rl) (v : Value) (w : World) (hv : Rd w 2 v r.counts.length (pr r.counts)) :
   Calls Tryz.prog 67 #[ruV r v] w fun e w' => e = .returned (.bool (okRu r)) ∧ Below w.heap.size w w' := by
 have HV := Lib.hid hv
 obtain ⟨ao, cap, rfl, _, _, _⟩ := hv.pairs
 clear hv
 unfold ruV
 cases h1 : wi r.num 1 99
 · go_enter Tryz.func67, Tryz.ntmps67
   go_wp2_with (first | (go_at_call 35; refine (within_any _ _ _ _).mono ?_; rintro e w2 ⟨rfl, rfl⟩) | (go_at_call 107; refine (money_any _ _).mono ?_; rintro e w2 ⟨rfl, rfl⟩))
   go_ret
   exact ⟨by simp [okRu, h1], ((Below.refl _ w).alloc (Nat.le_refl _) _)⟩
 cases h2 : wi r.lvl 0 3
 · go_enter Tryz.func67, Tryz.ntmps67
   go_wp2_with (first | (go_at_call 35; refine (within_any _ _ _ _).mono ?_; rintro e w2 ⟨rfl, rfl⟩) | (go_at_call 107; refine (money_any _ _).mono ?_; rintro e w2 ⟨rfl, rfl⟩))
   go_ret
   exact ⟨by simp [okRu, h2], ((Below.refl _ w).alloc (Nat.le_refl _) _)⟩
 cases h3 : wi r.rank 0 9
 · go_enter Tryz.func67, Tryz.ntmps67
   go_wp2_with (first | (go_at_call 35; refine (within_any _ _ _ _).mono ?_; rintro e w2 ⟨rfl, rfl⟩) | (go_at_call 107; refine (money_any _ _).mono ?_; rintro e w2 ⟨rfl, rfl⟩))
   go_ret
   exact ⟨by simp [okRu, h3], ((Below.refl _ w).alloc (Nat.le_refl _) _)⟩
 cases h4 : wi r.group (-1) 2
 · go_enter Tryz.func67, Tryz.ntmps67
   go_wp2_with (first | (go_at_call 35; refine (within_any _ _ _ _).mono ?_; rintro e w2 ⟨rfl, rfl⟩) | (go_at_call 107; refine (money_any _ _).mono ?_; rintro e w2 ⟨rfl, rfl⟩))
   go_ret
   exact ⟨by simp [okRu, h4], ((Below.refl _ w).alloc (Nat.le_refl _) _)⟩
 cases h5 : wi r.cap 0 1000000
 · go_enter Tryz.func67, Tryz.ntmps67
   go_wp2_with (first | (go_at_call 35; refine (within_any _ _ _ _).mono ?_; rintro e w2 ⟨rfl, rfl⟩) | (go_at_call 107; refine (money_any _ _).mono ?_; rintro e w2 ⟨rfl, rfl⟩))
   go_ret
   exact ⟨by simp [okRu, h5], ((Below.refl _ w).alloc (Nat.le_refl _) _)⟩
 cases h6 : okGd r
 · go_enter Tryz.func67, Tryz.ntmps67
   go_wp2_with (first | (go_at_call 35; refine (within_any _ _ _ _).mono ?_; rintro e w2 ⟨rfl, rfl⟩) | (go_at_call 107; refine (money_any _ _).mono ?_; rintro e w2 ⟨rfl, rfl⟩) | (go_at_call 108; (refine (implGuard_any r _ _ (HV.out.below ((Below.refl _ w).alloc (Nat.le_refl _) _) (Nat.le_refl _))).mono ?_); rintro e w1 ⟨rfl, b1⟩; have f4 := (b1.cell (p := ⟨w.heap.size, 4, none⟩) (by rw [World.size_alloc]; exact Nat.lt_succ_self _)).trans (box_ru w _ _ _ _ _ _ _ _ _ _ _ _).1; have f5 := (b1.cell (p := ⟨w.heap.size, 5, none⟩) (by rw [World.size_alloc]; exact Nat.lt_succ_self _)).trans (box_ru w _ _ _ _ _ _ _ _ _ _ _ _).2))
   go_ret
   exact ⟨by simp [okRu, h6], (((Below.refl _ w).alloc (Nat.le_refl _) _).trans (b1.mono (by rw [World.size_alloc]; exact Nat.le_succ _)))⟩
 have fin := Lib.hid (okRu_val h1 h2 h3 h4 h5 h6)
 by_cases k1 : r.kind = 1
 · have k9 : okVal r.kind r.value = wi r.value 1 1000 := by unfold okVal; rw [if_pos k1]
   go_enter Tryz.func67, Tryz.ntmps67
   go_wp2_with (first | (go_at_call 35; refine (within_any _ _ _ _).mono ?_; rintro e w2 ⟨rfl, rfl⟩) | (go_at_call 107; refine (money_any _ _).mono ?_; rintro e w2 ⟨rfl, rfl⟩) | (go_at_call 108; (refine (implGuard_any r _ _ (HV.out.below ((Below.refl _ w).alloc (Nat.le_refl _) _) (Nat.le_refl _))).mono ?_); rintro e w1 ⟨rfl, b1⟩; have f4 := (b1.cell (p := ⟨w.heap.size, 4, none⟩) (by rw [World.size_alloc]; exact Nat.lt_succ_self _)).trans (box_ru w _ _ _ _ _ _ _ _ _ _ _ _).1; have f5 := (b1.cell (p := ⟨w.heap.size, 5, none⟩) (by rw [World.size_alloc]; exact Nat.lt_succ_self _)).trans (box_ru w _ _ _ _ _ _ _ _ _ _ _ _).2))
   go_ret
   exact ⟨by rw [fin.out, k9]; rfl, (((Below.refl _ w).alloc (Nat.le_refl _) _).trans (b1.mono (by rw [World.size_alloc]; exact Nat.le_succ _)))⟩
 by_cases k2 : r.kind = 2
 · have k9 : okVal r.kind r.value = wi r.value 1 1000000 := by unfold okVal; rw [if_neg k1, if_pos k2]
   go_enter Tryz.func67, Tryz.ntmps67
   go_wp2_with (first | (go_at_call 35; refine (within_any _ _ _ _).mono ?_; rintro e w2 ⟨rfl, rfl⟩) | (go_at_call 107; refine (money_any _ _).mono ?_; rintro e w2 ⟨rfl, rfl⟩) | (go_at_call 108; (refine (implGuard_any r _ _ (HV.out.below ((Below.refl _ w).alloc (Nat.le_refl _) _) (Nat.le_refl _))).mono ?_); rintro e w1 ⟨rfl, b1⟩; have f4 := (b1.cell (p := ⟨w.heap.size, 4, none⟩) (by rw [World.size_alloc]; exact Nat.lt_succ_self _)).trans (box_ru w _ _ _ _ _ _ _ _ _ _ _ _).1; have f5 := (b1.cell (p := ⟨w.heap.size, 5, none⟩) (by rw [World.size_alloc]; exact Nat.lt_succ_self _)).trans (box_ru w _ _ _ _ _ _ _ _ _ _ _ _).2))
   go_ret
   exact ⟨by rw [fin.out, k9]; rfl, (((Below.refl _ w).alloc (Nat.le_refl _) _).trans (b1.mono (by rw [World.size_alloc]; exact Nat.le_succ _)))⟩
 by_cases k3 : r.kind = 3
 · have k9 : okVal r.kind r.value = wi r.value 2 20 := by unfold okVal; rw [if_neg k1, if_neg k2, if_pos k3]
   go_enter Tryz.func67, Tryz.ntmps67
   go_wp2_with (first | (go_at_call 35; refine (within_any _ _ _ _).mono ?_; rintro e w2 ⟨rfl, rfl⟩) | (go_at_call 107; refine (money_any _ _).mono ?_; rintro e w2 ⟨rfl, rfl⟩) | (go_at_call 108; (refine (implGuard_any r _ _ (HV.out.below ((Below.refl _ w).alloc (Nat.le_refl _) _) (Nat.le_refl _))).mono ?_); rintro e w1 ⟨rfl, b1⟩; have f4 := (b1.cell (p := ⟨w.heap.size, 4, none⟩) (by rw [World.size_alloc]; exact Nat.lt_succ_self _)).trans (box_ru w _ _ _ _ _ _ _ _ _ _ _ _).1; have f5 := (b1.cell (p := ⟨w.heap.size, 5, none⟩) (by rw [World.size_alloc]; exact Nat.lt_succ_self _)).trans (box_ru w _ _ _ _ _ _ _ _ _ _ _ _).2))
   go_ret
   exact ⟨by rw [fin.out, k9]; rfl, (((Below.refl _ w).alloc (Nat.le_refl _) _).trans (b1.mono (by rw [World.size_alloc]; exact Nat.le_succ _)))⟩
 · have k9 : okVal r.kind r.value = false := by unfold okVal; rw [if_neg k1, if_neg k2, if_neg k3]
   go_enter Tryz.func67, Tryz.ntmps67
   go_wp2_with (first | (go_at_call 35; refine (within_any _ _ _ _).mono ?_; rintro e w2 ⟨rfl, rfl⟩) | (go_at_call 107; refine (money_any _ _).mono ?_; rintro e w2 ⟨rfl, rfl⟩) | (go_at_call 108; (refine (implGuard_any r _ _ (HV.out.below ((Below.refl _ w).alloc (Nat.le_refl _) _) (Nat.le_refl _))).mono ?_); rintro e w1 ⟨rfl, b1⟩; have f4 := (b1.cell (p := ⟨w.heap.size, 4, none⟩) (by rw [World.size_alloc]; exact Nat.lt_succ_self _)).trans (box_ru w _ _ _ _ _ _ _ _ _ _ _ _).1; have f5 := (b1.cell (p := ⟨w.heap.size, 5, none⟩) (by rw [World.size_alloc]; exact Nat.lt_succ_self _)).trans (box_ru w _ _ _ _ _ _ _ _ _ _ _ _).2))
   go_ret
   exact ⟨by rw [fin.out, k9]; rfl, (((Below.refl _ w).alloc (Nat.le_refl _) _).trans (b1.mono (by rw [World.size_alloc]; exact Nat.le_succ _)))⟩
end Go.Proofs.YtijofgaekmahkaaGreatDoor

namespace Go.Proofs.YtijofgaekmahkaaGreatDoor
open Go.RowKit
structure Later (w : World) where
 wld : World
 below : Below w.heap.size w wld
instance (w : World) : Nonempty (Later w) := ⟨⟨w, Below.refl _ _⟩⟩
@[go_sem] theorem Later.cell {w : World} (x : Later w) {b o : Nat} (h : b < w.heap.size) : x.wld.cell? ⟨b, o, none⟩ = w.cell? ⟨b, o, none⟩ := x.below.cell (p := ⟨b, o, none⟩) h
theorem Later.next {w : World} (x : Later w) {w' : World} (h : Below x.wld.heap.size x.wld w') : ∃ y : Later w, w' = y.wld := ⟨⟨w', x.below.trans (h.mono x.below.size)⟩, rfl⟩
theorem Calls.later_of {P : Program} {f : FuncId} {args : Array Value} {w : World} {x : Later w} {v : Value}
   (h : Calls P f args x.wld fun e w' => e = .returned v ∧ Below x.wld.heap.size x.wld w') : Calls P f args x.wld fun e w' => e = .returned v ∧ ∃ y : Later w, w' = y.wld :=
 h.mono fun _ _ ⟨he, hb⟩ => ⟨he, x.next hb⟩
theorem wp_region_later {P : Program} {id : Nat} {Q : Exit → Act → World → Prop} {a : Act} {w : World} {l : List Oper} (hm : P.follows .mixedOrders = true) (hB : Region.lexB .any l.toArray = true)
   (h : wpQuiet P l.toArray (fun w' => ∃ x : Later w, w' = x.wld) (fun a' => ∀ w', (∃ x : Later w, w' = x.wld) → Q .normal a' w') l a) : (Code.region id l.toArray true).wp P Q a w :=
 wp_region_quiet (C := fun w' => ∃ x : Later w, w' = x.wld) hm hB ⟨⟨{ w with drawn := w.drawn + 1 }, ⟨rfl, rfl, rfl, Nat.le_refl _, fun _ _ => rfl⟩⟩, rfl⟩ (by simpa using h)
end Go.Proofs.YtijofgaekmahkaaGreatDoor

namespace Go.Proofs.YtijofgaekmahkaaGreatDoor
open Go.RowKit
theorem add_to {x y z : List UInt8} (h : x ++ y = z) (hl : z.length ≤ 100000000000) : ∀ W : World, (Op.stringOp .add ⟨x.toArray⟩ ⟨y.toArray⟩).run Tryz.prog W = .ok (.string ⟨z.toArray⟩) W := by
 intro W
 subst h
 exact add_run W x y (by simpa using hl)
set_option maxHeartbeats 1000000 in
theorem specSpanText_any (a b : Int) (w : World) (ha0 : 0 ≤ a) (ha1 : a ≤ 1000000) (hb0 : 0 ≤ b) (hb1 : b ≤ 1000000) :
   Calls Tryz.prog 57 #[.agg #[.int .i64 a, .int .i64 b]] w fun e w' => e = .returned (.string ⟨(spW a b).toArray⟩) ∧ Below w.heap.size w w' := by
 have la := dec_short ha0 (by omega)
 have lb := dec_short hb0 (by omega)
 have A1 := add_to (x := dec a) (y := [45]) rfl (by simp; omega)
 have A2 := add_to (x := dec a ++ [45]) (y := dec b) (z := spW a b) (by simp [spW]) (by simp [spW]; omega)
 have H : ∀ x : Later (w.alloc (.cells #[.int .i64 a, .int .i64 b] 38)), ∀ y : Int, 0 ≤ y → y ≤ 1000000 → Calls Tryz.prog 49 #[.int .i64 y] x.wld fun e w' => e = .returned (.string ⟨(dec y).toArray⟩) ∧ ∃ z : Later (w.alloc (.cells #[.int .i64 a, .int .i64 b] 38)), w' = z.wld :=
   fun x y h0 h1 => Calls.later_of (decimal_run y _ h0 (by omega))
 have Ha := Lib.hid (fun x => H x a ha0 ha1)
 have Hb := Lib.hid (fun x => H x b hb0 hb1)
 clear H la lb ha0 ha1 hb0 hb1
 go_enter Tryz.func57, Tryz.ntmps57
 go_wp2
 refine wp_region_later (by kernel_rfl) (by kernel_rfl) ?_
 repeat (go_big_quiet_step ((go_at_call 49; first | (with_reducible exact Ha.out _) | (with_reducible exact Hb.out _))))
 refine wpQuiet_nil ?_
 rintro _ ⟨x, rfl⟩
 go_wp2
 go_ret
 exact ⟨rfl, ((Below.refl _ w).alloc (Nat.le_refl _) _).trans (x.below.mono (by rw [World.size_alloc]; exact Nat.le_succ _))⟩
def ruL (r : Rl) (v : Value) : List Value := [.int .i64 r.num, .int .i64 r.lvl, .int .i64 r.rank, .int .i64 r.group, .int .i64 r.kind, .int .i64 r.value, .int .i64 r.cap, .int .i64 r.lo, .int .i64 r.hi, v, .int .i64 r.coupon]
def RuAt (W : World) (g : Nat) (r : Rl) (v : Value) : Prop := g < W.heap.size ∧ ∀ i u, (ruL r v)[i]? = some u → W.cell? ⟨g, i, none⟩ = some u
theorem RuAt.box (w : World) (r : Rl) (v : Value) (t : TypeId) : RuAt (w.alloc (.cells (ruL r v).toArray t)) w.heap.size r v :=
 ⟨by rw [World.size_alloc]; exact Nat.lt_succ_self _, fun i u h => by rw [cell_of_row _ _ i _ _ _ (heap_alloc_new w _)]; simpa using h⟩
theorem RuAt.below {W W' : World} {g B : Nat} {r : Rl} {v : Value} (h : RuAt W g r v) (hb : Below B W W') (hB : W.heap.size ≤ B) : RuAt W' g r v :=
 ⟨Nat.lt_of_lt_of_le h.1 hb.size, fun i u hu => (hb.cell (p := ⟨g, i, none⟩) (Nat.lt_of_lt_of_le h.1 hB)).trans (h.2 i u hu)⟩
theorem RuAt.c0 {W : World} {g : Nat} {r : Rl} {v : Value} (h : RuAt W g r v) : W.cell? ⟨g, 0, none⟩ = some (.int .i64 r.num) := h.2 0 _ rfl
theorem RuAt.c1 {W : World} {g : Nat} {r : Rl} {v : Value} (h : RuAt W g r v) : W.cell? ⟨g, 1, none⟩ = some (.int .i64 r.lvl) := h.2 1 _ rfl
theorem RuAt.c2 {W : World} {g : Nat} {r : Rl} {v : Value} (h : RuAt W g r v) : W.cell? ⟨g, 2, none⟩ = some (.int .i64 r.rank) := h.2 2 _ rfl
theorem RuAt.c3 {W : World} {g : Nat} {r : Rl} {v : Value} (h : RuAt W g r v) : W.cell? ⟨g, 3, none⟩ = some (.int .i64 r.group) := h.2 3 _ rfl
theorem RuAt.c4 {W : World} {g : Nat} {r : Rl} {v : Value} (h : RuAt W g r v) : W.cell? ⟨g, 4, none⟩ = some (.int .i64 r.kind) := h.2 4 _ rfl
theorem RuAt.c5 {W : World} {g : Nat} {r : Rl} {v : Value} (h : RuAt W g r v) : W.cell? ⟨g, 5, none⟩ = some (.int .i64 r.value) := h.2 5 _ rfl
theorem RuAt.c6 {W : World} {g : Nat} {r : Rl} {v : Value} (h : RuAt W g r v) : W.cell? ⟨g, 6, none⟩ = some (.int .i64 r.cap) := h.2 6 _ rfl
theorem RuAt.c7 {W : World} {g : Nat} {r : Rl} {v : Value} (h : RuAt W g r v) : W.cell? ⟨g, 7, none⟩ = some (.int .i64 r.lo) := h.2 7 _ rfl
theorem RuAt.c8 {W : World} {g : Nat} {r : Rl} {v : Value} (h : RuAt W g r v) : W.cell? ⟨g, 8, none⟩ = some (.int .i64 r.hi) := h.2 8 _ rfl
theorem RuAt.c9 {W : World} {g : Nat} {r : Rl} {v : Value} (h : RuAt W g r v) : W.cell? ⟨g, 9, none⟩ = some v := h.2 9 _ rfl
theorem RuAt.c10 {W : World} {g : Nat} {r : Rl} {v : Value} (h : RuAt W g r v) : W.cell? ⟨g, 10, none⟩ = some (.int .i64 r.coupon) := h.2 10 _ rfl
def s0 (r : Rl) : List UInt8 := dec r.num ++ tl (headW r)
def s1 (r : Rl) : List UInt8 := s0 r ++ tl (grpW r)
def s2 (r : Rl) : List UInt8 := s1 r ++ tl (capW r)
def s3 (r : Rl) : List UInt8 := s2 r ++ tl (totW r)
def s4 (r : Rl) (k : Nat) : List UInt8 := s3 r ++ tl (cntW r.counts k)
theorem textR_s4 (r : Rl) : textR r = s4 r r.counts.length ++ tl (cpnW r) := by
 simp [textR, restW, s4, s3, s2, s1, s0, tl_append]
structure OkR (r : Rl) : Prop where
 num : 1 ≤ r.num ∧ r.num ≤ 99
 lvl : 0 ≤ r.lvl ∧ r.lvl ≤ 3
 rank : 0 ≤ r.rank ∧ r.rank ≤ 9
 group : -1 ≤ r.group ∧ r.group ≤ 2
 cap : 0 ≤ r.cap ∧ r.cap ≤ 1000000
 lo : 0 ≤ r.lo ∧ r.lo ≤ 1000000
 hi : 0 ≤ r.hi ∧ r.hi ≤ 1000000
 cn : r.counts.length = 3
 cnt : ∀ j, j < r.counts.length → (0 ≤ pA r.counts j ∧ pA r.counts j ≤ 1000000) ∧ (0 ≤ pB r.counts j ∧ pB r.counts j ≤ 1000000)
 coupon : 0 ≤ r.coupon ∧ r.coupon ≤ 9
 kind : r.kind = 1 ∨ r.kind = 2 ∨ r.kind = 3
 value : 1 ≤ r.value ∧ r.value ≤ 1000000
theorem okSp_pr {a b : Int} (h : okSp a b = true) : (0 ≤ a ∧ a ≤ 1000000) ∧ (0 ≤ b ∧ b ≤ 1000000) := by
 simp only [okSp, Bool.and_eq_true, wi_true] at h
 omega
theorem OkR.of {r : Rl} (h : okRu r = true) : OkR r := by
 simp only [okRu, okGd, Bool.and_eq_true, wi_true] at h
 obtain ⟨⟨⟨⟨⟨⟨h1, h2⟩, h3⟩, h4⟩, h5⟩, ⟨h6, h7⟩, h8⟩, h9⟩ := h
 have h10 := okSp_pr h6
 have h11 := okCn_pr h7
 refine ⟨h1, h2, h3, h4, h5, h10.1, h10.2, h11.2, fun j hj => okSp_pr (h11.1 j hj), h8, ?_, ?_⟩
 · unfold okVal at h9
   split at h9
   · omega
   · split at h9
     · omega
     · split at h9
       · omega
       · cases h9
 · unfold okVal at h9
   split at h9
   · rw [wi_true] at h9; omega
   · split at h9
     · rw [wi_true] at h9; omega
     · split at h9
       · rw [wi_true] at h9; omega
       · cases h9
theorem kindW_len (k : Int) : (kindW k).length ≤ 8 := by
 unfold kindW
 split
 · simp
 · split <;> simp
theorem s0_len {r : Rl} (h : OkR r) : (s0 r).length ≤ 100 := by
 have h1 := dec_short (n := r.num) (by have := h.num; omega) (by have := h.num; omega)
 have h2 := dec_short (n := r.lvl) (by have := h.lvl; omega) (by have := h.lvl; omega)
 have h3 := dec_short (n := r.rank) (by have := h.rank; omega) (by have := h.rank; omega)
 have h4 := dec_short (n := r.value) (by have := h.value; omega) (by have := h.value; omega)
 have h5 := kindW_len r.kind
 simp [s0, headW, tl, wLevel, wRank]
 omega
theorem spW_len {a b : Int} (ha : 0 ≤ a ∧ a ≤ 1000000) (hb : 0 ≤ b ∧ b ≤ 1000000) : (spW a b).length ≤ 21 := by
 have h1 := dec_short (n := a) (by omega) (by omega)
 have h2 := dec_short (n := b) (by omega) (by omega)
 simp [spW]; omega
theorem s1_len {r : Rl} (h : OkR r) : (s1 r).length ≤ 120 := by
 have h0 := s0_len h
 unfold s1 grpW
 split
 · simp [tl]; omega
 · have h1 := dec_short (n := r.group) (by have := h.group; omega) (by have := h.group; omega)
   simp [tl, wGroup]; omega
theorem s2_len {r : Rl} (h : OkR r) : (s2 r).length ≤ 140 := by
 have h0 := s1_len h
 unfold s2 capW
 split
 · simp [tl]; omega
 · have h1 := dec_short (n := r.cap) (by have := h.cap; omega) (by have := h.cap; omega)
   simp [tl, wCap]; omega
theorem s3_len {r : Rl} (h : OkR r) : (s3 r).length ≤ 180 := by
 have h0 := s2_len h
 unfold s3 totW
 split
 · simp [tl]; omega
 · have h1 := spW_len h.lo h.hi
   simp [tl, wTotal]; omega
theorem s4_len {r : Rl} (h : OkR r) : ∀ k, k ≤ r.counts.length → (s4 r k).length ≤ 180 + k * 50 := by
 intro k
 induction k with
 | zero => intro _; have := s3_len h; simp [s4, cntW, tl]; omega
 | succ k ih =>
   intro hk
   have h0 := ih (by omega)
   have h1 := h.cnt k (by omega)
   have h2 := spW_len h1.1 h1.2
   have h3 := dec_short (n := (k : Int)) (by omega) (by have := h.cn; omega)
   simp only [s4, cntW, tl_append] at h0 ⊢
   split
   · simp [tl] at h0 ⊢; omega
   · simp [tl, wCount] at h0 ⊢; omega
theorem add_two {s m d z : List UInt8} (h : s ++ m ++ d = z) (hl : z.length ≤ 100000000000) :
   ∃ X : List UInt8, (∀ W : World, (Op.stringOp .add ⟨s.toArray⟩ ⟨m.toArray⟩).run Tryz.prog W = .ok (.string ⟨X.toArray⟩) W) ∧ (∀ W : World, (Op.stringOp .add ⟨X.toArray⟩ ⟨d.toArray⟩).run Tryz.prog W = .ok (.string ⟨z.toArray⟩) W) := by
 have hl2 : z.length = (s ++ m).length + d.length := by rw [← h, List.length_append]
 exact ⟨s ++ m, add_to rfl (by omega), add_to h hl⟩
theorem add_head {r : Rl} (h : OkR r) : ∃ X1 X2 X3 X4 X5 X6 X7 : List UInt8,
   (∀ W : World, (Op.stringOp .add ⟨(dec r.num).toArray⟩ ⟨#[32, 108, 101, 118, 101, 108, 32]⟩).run Tryz.prog W = .ok (.string ⟨X1.toArray⟩) W) ∧
   (∀ W : World, (Op.stringOp .add ⟨X1.toArray⟩ ⟨(dec r.lvl).toArray⟩).run Tryz.prog W = .ok (.string ⟨X2.toArray⟩) W) ∧
   (∀ W : World, (Op.stringOp .add ⟨X2.toArray⟩ ⟨#[32, 114, 97, 110, 107, 32]⟩).run Tryz.prog W = .ok (.string ⟨X3.toArray⟩) W) ∧
   (∀ W : World, (Op.stringOp .add ⟨X3.toArray⟩ ⟨(dec r.rank).toArray⟩).run Tryz.prog W = .ok (.string ⟨X4.toArray⟩) W) ∧
   (∀ W : World, (Op.stringOp .add ⟨X4.toArray⟩ ⟨#[32]⟩).run Tryz.prog W = .ok (.string ⟨X5.toArray⟩) W) ∧
   (∀ W : World, (Op.stringOp .add ⟨X5.toArray⟩ ⟨(kindW r.kind).toArray⟩).run Tryz.prog W = .ok (.string ⟨X6.toArray⟩) W) ∧
   (∀ W : World, (Op.stringOp .add ⟨X6.toArray⟩ ⟨#[32]⟩).run Tryz.prog W = .ok (.string ⟨X7.toArray⟩) W) ∧
   (∀ W : World, (Op.stringOp .add ⟨X7.toArray⟩ ⟨(dec r.value).toArray⟩).run Tryz.prog W = .ok (.string ⟨(s0 r).toArray⟩) W) := by
 have hl := s0_len h
 have e : dec r.num ++ [32, 108, 101, 118, 101, 108, 32] ++ dec r.lvl ++ [32, 114, 97, 110, 107, 32] ++ dec r.rank ++ [32] ++ kindW r.kind ++ [32] ++ dec r.value = s0 r := by
   simp [s0, headW, tl, wLevel, wRank]
 have e2 := congrArg List.length e
 simp only [List.length_append] at e2
 refine ⟨dec r.num ++ [32, 108, 101, 118, 101, 108, 32], dec r.num ++ [32, 108, 101, 118, 101, 108, 32] ++ dec r.lvl, dec r.num ++ [32, 108, 101, 118, 101, 108, 32] ++ dec r.lvl ++ [32, 114, 97, 110, 107, 32], dec r.num ++ [32, 108, 101, 118, 101, 108, 32] ++ dec r.lvl ++ [32, 114, 97, 110, 107, 32] ++ dec r.rank, dec r.num ++ [32, 108, 101, 118, 101, 108, 32] ++ dec r.lvl ++ [32, 114, 97, 110, 107, 32] ++ dec r.rank ++ [32], dec r.num ++ [32, 108, 101, 118, 101, 108, 32] ++ dec r.lvl ++ [32, 114, 97, 110, 107, 32] ++ dec r.rank ++ [32] ++ kindW r.kind, dec r.num ++ [32, 108, 101, 118, 101, 108, 32] ++ dec r.lvl ++ [32, 114, 97, 110, 107, 32] ++ dec r.rank ++ [32] ++ kindW r.kind ++ [32], add_to rfl ?_, add_to rfl ?_, add_to rfl ?_, add_to rfl ?_, add_to rfl ?_, add_to rfl ?_, add_to rfl ?_, add_to e (by omega)⟩
 all_goals (simp only [List.length_append]; omega)
theorem grp_text {r : Rl} (h : ¬ r.group = -1) : s0 r ++ [32, 103, 114, 111, 117, 112, 32] ++ dec r.group = s1 r := by simp [s1, grpW, h, tl, wGroup]
theorem cap_text {r : Rl} (h : ¬ r.cap = 0) : s1 r ++ [32, 99, 97, 112, 32] ++ dec r.cap = s2 r := by simp [s2, capW, h, tl, wCap]
theorem tot_text {r : Rl} (h : allSp r.lo r.hi = false) : s2 r ++ [32, 116, 111, 116, 97, 108, 32] ++ spW r.lo r.hi = s3 r := by simp [s3, totW, h, tl, wTotal]
theorem cnt_text {r : Rl} {k : Nat} (h : allSp (pA r.counts k) (pB r.counts k) = false) : s4 r k ++ [32, 99, 111, 117, 110, 116, 32] ++ dec k ++ [32] ++ spW (pA r.counts k) (pB r.counts k) = s4 r (k + 1) := by
 simp [s4, cntW, h, tl, wCount]
theorem cpn_text {r : Rl} (h : ¬ r.coupon = 0) : s4 r r.counts.length ++ [32, 99, 111, 117, 112, 111, 110, 32] ++ dec r.coupon = textR r := by rw [textR_s4]; simp [cpnW, h, tl, wCoupon]
theorem s1_no {r : Rl} (h : r.group = -1) : s1 r = s0 r := by simp [s1, grpW, h, tl]
theorem s2_no {r : Rl} (h : r.cap = 0) : s2 r = s1 r := by simp [s2, capW, h, tl]
theorem s3_no {r : Rl} (h : allSp r.lo r.hi = true) : s3 r = s2 r := by simp [s3, totW, h, tl]
theorem s4_no {r : Rl} {k : Nat} (h : allSp (pA r.counts k) (pB r.counts k) = true) : s4 r (k + 1) = s4 r k := by simp [s4, cntW, h]
theorem s5_no {r : Rl} (h : r.coupon = 0) : textR r = s4 r r.counts.length := by rw [textR_s4]; simp [cpnW, h, tl]
theorem cut_step {w wr w' : World} {r : Rl} {v : Value} (hb : Below w.heap.size w wr) (hr : RuAt wr w.heap.size r v) (h : Below wr.heap.size wr w') : Below w.heap.size w w' ∧ RuAt w' w.heap.size r v :=
 ⟨hb.trans (h.mono hb.size), hr.below h (Nat.le_refl _)⟩
set_option maxRecDepth 100000 in
set_option maxHeartbeats 4000000 in
theorem formatRule_any (r : Rl) (v : Value) (w : World) (hv : Rd w 2 v r.counts.length (pr r.counts)) (hok : okRu r = true) :
   Calls Tryz.prog 26 #[ruV r v] w fun e w' => e = .returned (.string ⟨(textR r).toArray⟩) ∧ Below w.heap.size w w' := by
 have ok := OkR.of hok
 have HV := Lib.hid hv
 obtain ⟨ao, cap, rfl, _, _, hr⟩ := hv.pairs
 have HR := Lib.hid hr
 clear hv hr hok
 obtain ⟨j, hj⟩ : ∃ j : Nat, r.kind = (j : Int) + 1 := ⟨(r.kind - 1).toNat, by have := ok.kind; omega⟩
 have hj3 : j < 3 := by have := ok.kind; omega
 have B0 := RuAt.box w r (.slice ao r.counts.length cap) 43
 have B1 := B0.below ((Below.refl _ _).alloc (Nat.le_refl _) (.cells #[.string ⟨#[112, 101, 114, 109, 105, 108, 108, 101]⟩, .string ⟨#[97, 109, 111, 117, 110, 116]⟩, .string ⟨#[102, 114, 101, 101]⟩] 9)) (Nat.le_refl _)
 have hk : ((w.alloc (.cells (ruL r (.slice ao r.counts.length cap)).toArray 43)).alloc (.cells #[.string ⟨#[112, 101, 114, 109, 105, 108, 108, 101]⟩, .string ⟨#[97, 109, 111, 117, 110, 116]⟩, .string ⟨#[102, 114, 101, 101]⟩] 9)).cell? ⟨w.heap.size + 1, j, none⟩ = some (.string ⟨(kindW r.kind).toArray⟩) := by
   have : w.heap.size + 1 = (w.alloc (.cells (ruL r (.slice ao r.counts.length cap)).toArray 43)).heap.size := (World.size_alloc _ _).symm
   rw [this, cell_of_row _ _ j _ _ _ (heap_alloc_new _ _), hj]
   rcases (by omega : j = 0 ∨ j = 1 ∨ j = 2) with rfl | rfl | rfl <;> rfl
 have hbw : Below w.heap.size w ((w.alloc (.cells (ruL r (.slice ao r.counts.length cap)).toArray 43)).alloc (.cells #[.string ⟨#[112, 101, 114, 109, 105, 108, 108, 101]⟩, .string ⟨#[97, 109, 111, 117, 110, 116]⟩, .string ⟨#[102, 114, 101, 101]⟩] 9)) :=
   ((Below.refl _ w).alloc (Nat.le_refl _) _).alloc (by rw [World.size_alloc]; exact Nat.le_succ _) _
 have hsz : w.heap.size + 1 < ((w.alloc (.cells (ruL r (.slice ao r.counts.length cap)).toArray 43)).alloc (.cells #[.string ⟨#[112, 101, 114, 109, 105, 108, 108, 101]⟩, .string ⟨#[97, 109, 111, 117, 110, 116]⟩, .string ⟨#[102, 114, 101, 101]⟩] 9)).heap.size := by
   rw [World.size_alloc, World.size_alloc]; exact Nat.lt_succ_self _
 have HJ := Lib.hid hj
 clear hj
 have hm3 : r.counts.length ≤ 3 := Nat.le_of_eq ok.cn
 unfold ruV
 go_enter Tryz.func26, Tryz.ntmps26
 go_upto_region 1 with fail
 go_cut [3] from 6 (fun s W2 => s = .slice (some ⟨w.heap.size + 1, 0, none⟩) 3 3 ∧ Below w.heap.size w W2 ∧ RuAt W2 w.heap.size r (.slice ao r.counts.length cap) ∧ W2.cell? ⟨w.heap.size + 1, j, none⟩ = some (.string ⟨(kindW r.kind).toArray⟩) ∧ w.heap.size + 1 < W2.heap.size)
 case first =>
   go_wp2
   go_meet
   case rel => exact ⟨rfl, hbw, B1, hk, hsz⟩
 clear B1 hk hbw hsz B0
 obtain ⟨rfl, hbw, B1, hk, hsz⟩ := hcut
 go_upto_region 2 with fail
 obtain ⟨W2, hW2⟩ : ∃ W2, W2 = wc := ⟨_, rfl⟩
 subst hW2
 go_cut [4] from 7 (fun s wr => s = .string ⟨(s0 r).toArray⟩ ∧ Below w.heap.size w wr ∧ RuAt wr w.heap.size r (.slice ao r.counts.length cap))
 case first =>
   obtain ⟨X1, X2, X3, X4, X5, X6, X7, a1, a2, a3, a4, a5, a6, a7, a8⟩ := add_head ok
   have c0 := B1.c0
   have c1 := B1.c1
   have c2 := B1.c2
   have c4 := B1.c4
   have c5 := B1.c5
   have hg := B1.1
   have hj0 : (0 : Int) ≤ (j : Int) := by omega
   have hj1 : (j : Int) < 3 := by omega
   have hwj : IntKind.i64.wrap (r.kind - 1) = (j : Int) := by rw [HJ.out, show (j : Int) + 1 - 1 = j by omega]; exact IntWalk.i64_in _ (by omega)
   have H : ∀ x : Later W2, ∀ y : Int, 0 ≤ y → y ≤ 1000000 → Calls Tryz.prog 49 #[.int .i64 y] x.wld fun e w' => e = .returned (.string ⟨(dec y).toArray⟩) ∧ ∃ z : Later W2, w' = z.wld :=
     fun x y h0 h1 => Calls.later_of (decimal_run y _ h0 (by omega))
   have H1 := Lib.hid (fun x => H x r.num (by have := ok.num; omega) (by have := ok.num; omega))
   have H2 := Lib.hid (fun x => H x r.lvl ok.lvl.1 (by have := ok.lvl; omega))
   have H3 := Lib.hid (fun x => H x r.rank ok.rank.1 (by have := ok.rank; omega))
   have H4 := Lib.hid (fun x => H x r.value (by have := ok.value; omega) ok.value.2)
   clear H
   refine wp_region_later (by kernel_rfl) (by kernel_rfl) ?_
   repeat (go_big_quiet_step ((go_at_call 49; first | (with_reducible exact H1.out _) | (with_reducible exact H2.out _) | (with_reducible exact H3.out _) | (with_reducible exact H4.out _))))
   refine wpQuiet_nil ?_
   rintro _ ⟨x, rfl⟩
   go_wp2
   go_meet
   case rel => exact ⟨rfl, cut_step hbw B1 x.below⟩
 case rest =>
   clear hbw hk hsz B1
   obtain ⟨rfl, hb2, B2⟩ := hcut
   -- the group
   have c3 := B2.c3
   have hg := B2.1
   go_upto_if 35 with fail
   go_cut [4] from 6 (fun s wr => s = .string ⟨(s1 r).toArray⟩ ∧ Below w.heap.size w wr ∧ RuAt wr w.heap.size r (.slice ao r.counts.length cap))
   case first =>
     by_cases h : r.group = -1
     · have h0 : ¬ 0 ≤ r.group := by omega
       have HH := Lib.hid h
       clear h
       go_wp2
       go_meet
       case rel => exact ⟨by rw [s1_no HH.out], hb2, B2⟩
     · have h0 : 0 ≤ r.group := by have := ok.group; omega
       have h1 := ok.group.2
       obtain ⟨X, a1, a2⟩ := add_two (grp_text h) (by have := s1_len ok; omega)
       go_wp2_with (go_at_call 49; refine (decimal_run _ _ h0 (by omega)).mono ?_; rintro e w1 ⟨rfl, b1⟩)
       go_meet
       case rel => exact ⟨rfl, cut_step hb2 B2 b1⟩
   clear hb2 B2 c3 hg
   obtain ⟨rfl, hb2, B2⟩ := hcut
   -- the cap
   have c6 := B2.c6
   have hg := B2.1
   go_upto_if 44 with fail
   go_cut [4] from 6 (fun s wr => s = .string ⟨(s2 r).toArray⟩ ∧ Below w.heap.size w wr ∧ RuAt wr w.heap.size r (.slice ao r.counts.length cap))
   case first =>
     by_cases h : r.cap = 0
     · have h0 : ¬ 0 < r.cap := by omega
       have HH := Lib.hid h
       clear h
       go_wp2
       go_meet
       case rel => exact ⟨by rw [s2_no HH.out], hb2, B2⟩
     · have h0 : 0 < r.cap := by have := ok.cap; omega
       have h1 := ok.cap.2
       obtain ⟨X, a1, a2⟩ := add_two (cap_text h) (by have := s2_len ok; omega)
       go_wp2_with (go_at_call 49; refine (decimal_run _ _ (by omega) (by omega)).mono ?_; rintro e w1 ⟨rfl, b1⟩)
       go_meet
       case rel => exact ⟨rfl, cut_step hb2 B2 b1⟩
   clear hb2 B2 c6 hg
   obtain ⟨rfl, hb2, B2⟩ := hcut
   -- the total
   have c7 := B2.c7
   have c8 := B2.c8
   have hg := B2.1
   go_upto_if 55 with (go_at_call 56; refine (full_any _ _ _).mono ?_; rintro e w1 ⟨rfl, b1⟩)
   obtain ⟨hb3, B3⟩ := cut_step hb2 B2 b1
   clear hb2 B2 c7 c8 hg
   have c7 := B3.c7
   have c8 := B3.c8
   have hg := B3.1
   go_cut [4] from 6 (fun s wr => s = .string ⟨(s3 r).toArray⟩ ∧ Below w.heap.size w wr ∧ RuAt wr w.heap.size r (.slice ao r.counts.length cap))
   case first =>
     cases h : allSp r.lo r.hi
     · obtain ⟨X, a1, a2⟩ := add_two (tot_text h) (by have := s3_len ok; omega)
       go_wp2_with (go_at_call 57; refine (specSpanText_any _ _ _ ok.lo.1 ok.lo.2 ok.hi.1 ok.hi.2).mono ?_; rintro e w3 ⟨rfl, b3⟩)
       go_meet
       case rel => exact ⟨rfl, cut_step hb3 B3 b3⟩
     · go_wp2
       go_meet
       case rel => exact ⟨by rw [s3_no h], hb3, B3⟩
   clear hb3 B3 c7 c8 hg b1
   obtain ⟨rfl, hb2, B2⟩ := hcut
   -- the counts
   go_wp2
   go_loopw [4, 5] (fun s i wr => ∃ k : Nat, k ≤ r.counts.length ∧ i = .int .i64 k ∧ s = .string ⟨(s4 r k).toArray⟩ ∧ Below w.heap.size w wr ∧ RuAt wr w.heap.size r (.slice ao r.counts.length cap)) (fun _ i _ => r.counts.length - (intOf i).toNat)
   case atStart => exact ⟨0, Nat.zero_le _, rfl, by simp [s4, cntW, tl], hb2, B2⟩
   case round =>
     clear hb2 B2
     obtain ⟨k, hk, rfl, rfl, hb2, B2⟩ := hrel
     have c9 := B2.c9
     have c10 := B2.c10
     have hg := B2.1
     by_cases hlt : k < r.counts.length
     · clear c10
       obtain ⟨b, off, rfl, hb, hcell⟩ := HR.out (by omega)
       have hcell := hcell k hlt
       have g0 := (hb2.cell (p := ⟨b, off + k*2, none⟩) hb).trans hcell.1
       have g1 := (hb2.cell (p := ⟨b, off + k*2+1, none⟩) hb).trans hcell.2
       have hbw : b < wr.heap.size := Nat.lt_of_lt_of_le hb hb2.size
       have hk0 : (0 : Int) ≤ (k : Int) := by omega
       have hk1 : (k : Int) < (r.counts.length : Int) := by omega
       cases hA : allSp (pA r.counts k) (pB r.counts k)
       · obtain ⟨p1, p2⟩ := ok.cnt k hlt
         have hk3 : k < 3 := by have := ok.cn; omega
         have ht := cnt_text hA
         have hl4 := s4_len ok (k + 1) hlt
         obtain ⟨Z, hZ⟩ : ∃ Z, s4 r k ++ [32, 99, 111, 117, 110, 116, 32] ++ dec k = Z := ⟨_, rfl⟩
         rw [hZ] at ht
         have hl6 := congrArg List.length ht
         simp only [List.length_append] at hl6
         obtain ⟨X1, a1, a2⟩ := add_two hZ (by omega)
         obtain ⟨X2, a3, a4⟩ := add_two ht (by omega)
         clear hZ hl6
         go_wp2_with (go_at_call 56; refine (full_any _ _ _).mono ?_; rintro e w1 ⟨rfl, b1⟩)
         obtain ⟨hb3, B3⟩ := cut_step hb2 B2 b1
         have d9 := B3.c9
         have e0 := (b1.cell (p := ⟨b, off + k*2, none⟩) hbw).trans g0
         have e1 := (b1.cell (p := ⟨b, off + k*2+1, none⟩) hbw).trans g1
         have ebw : b < w1.heap.size := Nat.lt_of_lt_of_le hbw b1.size
         have eg := B3.1
         have H1 := Lib.hid (fun x : Later w1 => Calls.later_of (decimal_run (k : Int) x.wld (by omega) (by omega)))
         have H2 := Lib.hid (fun x : Later w1 => Calls.later_of (specSpanText_any (pA r.counts k) (pB r.counts k) x.wld p1.1 p1.2 p2.1 p2.2))
         clear p1 p2 ht hl4 hcell g0 g1 c9 hg
         refine wp_region_later (by kernel_rfl) (by kernel_rfl) ?_
         repeat (go_big_quiet_step (first | (go_at_call 49; (with_reducible exact H1.out _)) | (go_at_call 57; (with_reducible exact H2.out _))))
         refine wpQuiet_nil ?_
         rintro _ ⟨x, rfl⟩
         go_wp2
         go_roundw
         case rel => exact ⟨k+1, by omega, by go_num, rfl, cut_step hb3 B3 x.below⟩
         case measure => simp [intOf]; omega
       · go_wp2_with (go_at_call 56; refine (full_any _ _ _).mono ?_; rintro e w1 ⟨rfl, b1⟩)
         go_roundw
         case rel => exact ⟨k+1, by omega, by go_num, by rw [s4_no hA], cut_step hb2 B2 b1⟩
         case measure => simp [intOf]; omega
     · obtain rfl : k = r.counts.length := by omega
       by_cases h : r.coupon = 0
       · have h0 : ¬ 0 < r.coupon := by omega
         have HH := Lib.hid h
         clear h
         go_wp2
         go_ret
         exact ⟨by rw [s5_no HH.out]; rfl, hb2⟩
       · have h0 : 0 < r.coupon := by have := ok.coupon; omega
         have h1 := ok.coupon.2
         have ht := cpn_text h
         have hl4 := s4_len ok r.counts.length (Nat.le_refl _)
         have hl5 : (dec r.coupon).length ≤ 10 := dec_short (by omega) (by omega)
         obtain ⟨X, a1, a2⟩ := add_two ht (by have := congrArg List.length ht; simp only [List.length_append, List.length_cons, List.length_nil] at this; have := ok.cn; omega)
         clear ht hl4 hl5
         go_wp2_with (go_at_call 49; refine (decimal_run _ _ (by omega) (by omega)).mono ?_; rintro e w1 ⟨rfl, b1⟩)
         go_ret
         exact ⟨rfl, (cut_step hb2 B2 b1).1⟩
end Go.Proofs.YtijofgaekmahkaaGreatDoor
