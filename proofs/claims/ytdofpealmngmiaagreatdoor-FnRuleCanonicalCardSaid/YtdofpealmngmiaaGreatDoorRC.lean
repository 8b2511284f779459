/- Walks: valid rules. Conditions: none. -/
import Derived.Test.YtdofpealmngmiaaGreatDoorRB
namespace Go.Proofs.YtdofpealmngmiaaGreatDoor
open Go.RowKit

theorem okRu_val {r : Rl} (h1 : wi r.num 1 99 = true) (h2 : wi r.lvl 0 3 = true) (h3 : wi r.rank 0 9 = true) (h4 : wi r.group (-1) 2 = true) (h5 : wi r.cap 0 1000000 = true) (h6 : okGd r = true) : okRu r = okVal r.kind r.value := by
  simp [okRu, h1, h2, h3, h4, h5, h6]

theorem box_ru (w : World) (x0 x1 x2 x3 x4 x5 x6 x7 x8 x9 x10 : Value) (t : TypeId) : (w.alloc (.cells #[x0, x1, x2, x3, x4, x5, x6, x7, x8, x9, x10] t)).cell? ⟨w.heap.size, 4, none⟩ = some x4 ∧ (w.alloc (.cells #[x0, x1, x2, x3, x4, x5, x6, x7, x8, x9, x10] t)).cell? ⟨w.heap.size, 5, none⟩ = some x5 :=
  ⟨cell_of_row _ _ 4 _ _ _ (heap_alloc_new w _), cell_of_row _ _ 5 _ _ _ (heap_alloc_new w _)⟩


set_option maxHeartbeats 2000000 in
theorem specRule_in (r : Rl) (v : Value) (w : World) (hv : Rd w 2 v r.counts.length (pr r.counts)) :
    Calls Tryz.prog 26 #[ruV r v] w fun e w' => e = .returned (.bool (okRu r)) ∧ Below w.heap.size w w' := by
  have HV := Lib.hid hv
  obtain ⟨ao, cap, rfl, _, _, _⟩ := hv.pairs
  clear hv
  unfold ruV
  cases h1 : wi r.num 1 99
  · go_enter Tryz.func26, Tryz.ntmps26
    go_wp2_with (first | (go_at_call 25; refine (inRange_any _ _ _ _).mono ?_; rintro e w2 ⟨rfl, rfl⟩))
    go_ret
    exact ⟨by simp [okRu, h1], ((Below.refl _ w).alloc (Nat.le_refl _) _)⟩
  cases h2 : wi r.lvl 0 3
  · go_enter Tryz.func26, Tryz.ntmps26
    go_wp2_with (first | (go_at_call 25; refine (inRange_any _ _ _ _).mono ?_; rintro e w2 ⟨rfl, rfl⟩))
    go_ret
    exact ⟨by simp [okRu, h2], ((Below.refl _ w).alloc (Nat.le_refl _) _)⟩
  cases h3 : wi r.rank 0 9
  · go_enter Tryz.func26, Tryz.ntmps26
    go_wp2_with (first | (go_at_call 25; refine (inRange_any _ _ _ _).mono ?_; rintro e w2 ⟨rfl, rfl⟩))
    go_ret
    exact ⟨by simp [okRu, h3], ((Below.refl _ w).alloc (Nat.le_refl _) _)⟩
  cases h4 : wi r.group (-1) 2
  · go_enter Tryz.func26, Tryz.ntmps26
    go_wp2_with (first | (go_at_call 25; refine (inRange_any _ _ _ _).mono ?_; rintro e w2 ⟨rfl, rfl⟩))
    go_ret
    exact ⟨by simp [okRu, h4], ((Below.refl _ w).alloc (Nat.le_refl _) _)⟩
  cases h5 : wi r.cap 0 1000000
  · go_enter Tryz.func26, Tryz.ntmps26
    go_wp2_with (first | (go_at_call 25; refine (inRange_any _ _ _ _).mono ?_; rintro e w2 ⟨rfl, rfl⟩))
    go_ret
    exact ⟨by simp [okRu, h5], ((Below.refl _ w).alloc (Nat.le_refl _) _)⟩
  cases h6 : okGd r
  · go_enter Tryz.func26, Tryz.ntmps26
    go_wp2_with (first | (go_at_call 25; refine (inRange_any _ _ _ _).mono ?_; rintro e w2 ⟨rfl, rfl⟩) | (go_at_call 43; (refine (specGuard_any r _ _ (HV.out.below ((Below.refl _ w).alloc (Nat.le_refl _) _) (Nat.le_refl _))).mono ?_); rintro e w1 ⟨rfl, b1⟩; have f4 := (b1.cell (p := ⟨w.heap.size, 4, none⟩) (by rw [World.size_alloc]; exact Nat.lt_succ_self _)).trans (box_ru w _ _ _ _ _ _ _ _ _ _ _ _).1; have f5 := (b1.cell (p := ⟨w.heap.size, 5, none⟩) (by rw [World.size_alloc]; exact Nat.lt_succ_self _)).trans (box_ru w _ _ _ _ _ _ _ _ _ _ _ _).2))
    go_ret
    exact ⟨by simp [okRu, h6], (((Below.refl _ w).alloc (Nat.le_refl _) _).trans (b1.mono (by rw [World.size_alloc]; exact Nat.le_succ _)))⟩
  have fin := Lib.hid (okRu_val h1 h2 h3 h4 h5 h6)
  by_cases k1 : r.kind = 1
  · have k9 : okVal r.kind r.value = wi r.value 1 1000 := by unfold okVal; rw [if_pos k1]
    go_enter Tryz.func26, Tryz.ntmps26
    go_wp2_with (first | (go_at_call 25; refine (inRange_any _ _ _ _).mono ?_; rintro e w2 ⟨rfl, rfl⟩) | (go_at_call 43; (refine (specGuard_any r _ _ (HV.out.below ((Below.refl _ w).alloc (Nat.le_refl _) _) (Nat.le_refl _))).mono ?_); rintro e w1 ⟨rfl, b1⟩; have f4 := (b1.cell (p := ⟨w.heap.size, 4, none⟩) (by rw [World.size_alloc]; exact Nat.lt_succ_self _)).trans (box_ru w _ _ _ _ _ _ _ _ _ _ _ _).1; have f5 := (b1.cell (p := ⟨w.heap.size, 5, none⟩) (by rw [World.size_alloc]; exact Nat.lt_succ_self _)).trans (box_ru w _ _ _ _ _ _ _ _ _ _ _ _).2))
    go_ret
    exact ⟨by rw [fin.out, k9]; rfl, (((Below.refl _ w).alloc (Nat.le_refl _) _).trans (b1.mono (by rw [World.size_alloc]; exact Nat.le_succ _)))⟩
  by_cases k2 : r.kind = 2
  · have k9 : okVal r.kind r.value = wi r.value 1 1000000 := by unfold okVal; rw [if_neg k1, if_pos k2]
    go_enter Tryz.func26, Tryz.ntmps26
    go_wp2_with (first | (go_at_call 25; refine (inRange_any _ _ _ _).mono ?_; rintro e w2 ⟨rfl, rfl⟩) | (go_at_call 43; (refine (specGuard_any r _ _ (HV.out.below ((Below.refl _ w).alloc (Nat.le_refl _) _) (Nat.le_refl _))).mono ?_); rintro e w1 ⟨rfl, b1⟩; have f4 := (b1.cell (p := ⟨w.heap.size, 4, none⟩) (by rw [World.size_alloc]; exact Nat.lt_succ_self _)).trans (box_ru w _ _ _ _ _ _ _ _ _ _ _ _).1; have f5 := (b1.cell (p := ⟨w.heap.size, 5, none⟩) (by rw [World.size_alloc]; exact Nat.lt_succ_self _)).trans (box_ru w _ _ _ _ _ _ _ _ _ _ _ _).2))
    go_ret
    exact ⟨by rw [fin.out, k9]; rfl, (((Below.refl _ w).alloc (Nat.le_refl _) _).trans (b1.mono (by rw [World.size_alloc]; exact Nat.le_succ _)))⟩
  by_cases k3 : r.kind = 3
  · have k9 : okVal r.kind r.value = wi r.value 2 20 := by unfold okVal; rw [if_neg k1, if_neg k2, if_pos k3]
    go_enter Tryz.func26, Tryz.ntmps26
    go_wp2_with (first | (go_at_call 25; refine (inRange_any _ _ _ _).mono ?_; rintro e w2 ⟨rfl, rfl⟩) | (go_at_call 43; (refine (specGuard_any r _ _ (HV.out.below ((Below.refl _ w).alloc (Nat.le_refl _) _) (Nat.le_refl _))).mono ?_); rintro e w1 ⟨rfl, b1⟩; have f4 := (b1.cell (p := ⟨w.heap.size, 4, none⟩) (by rw [World.size_alloc]; exact Nat.lt_succ_self _)).trans (box_ru w _ _ _ _ _ _ _ _ _ _ _ _).1; have f5 := (b1.cell (p := ⟨w.heap.size, 5, none⟩) (by rw [World.size_alloc]; exact Nat.lt_succ_self _)).trans (box_ru w _ _ _ _ _ _ _ _ _ _ _ _).2))
    go_ret
    exact ⟨by rw [fin.out, k9]; rfl, (((Below.refl _ w).alloc (Nat.le_refl _) _).trans (b1.mono (by rw [World.size_alloc]; exact Nat.le_succ _)))⟩
  · have k9 : okVal r.kind r.value = false := by unfold okVal; rw [if_neg k1, if_neg k2, if_neg k3]
    go_enter Tryz.func26, Tryz.ntmps26
    go_wp2_with (first | (go_at_call 25; refine (inRange_any _ _ _ _).mono ?_; rintro e w2 ⟨rfl, rfl⟩) | (go_at_call 43; (refine (specGuard_any r _ _ (HV.out.below ((Below.refl _ w).alloc (Nat.le_refl _) _) (Nat.le_refl _))).mono ?_); rintro e w1 ⟨rfl, b1⟩; have f4 := (b1.cell (p := ⟨w.heap.size, 4, none⟩) (by rw [World.size_alloc]; exact Nat.lt_succ_self _)).trans (box_ru w _ _ _ _ _ _ _ _ _ _ _ _).1; have f5 := (b1.cell (p := ⟨w.heap.size, 5, none⟩) (by rw [World.size_alloc]; exact Nat.lt_succ_self _)).trans (box_ru w _ _ _ _ _ _ _ _ _ _ _ _).2))
    go_ret
    exact ⟨by rw [fin.out, k9]; rfl, (((Below.refl _ w).alloc (Nat.le_refl _) _).trans (b1.mono (by rw [World.size_alloc]; exact Nat.le_succ _)))⟩


set_option maxHeartbeats 2000000 in
theorem implRule_any (r : Rl) (v : Value) (w : World) (hv : Rd w 2 v r.counts.length (pr r.counts)) :
    Calls Tryz.prog 9 #[ruV r v] w fun e w' => e = .returned (.bool (okRu r)) ∧ Below w.heap.size w w' := by
  have HV := Lib.hid hv
  obtain ⟨ao, cap, rfl, _, _, _⟩ := hv.pairs
  clear hv
  unfold ruV
  cases h1 : wi r.num 1 99
  · go_enter Tryz.func9, Tryz.ntmps9
    go_wp2_with (first | (go_at_call 19; refine (within_any _ _ _ _).mono ?_; rintro e w2 ⟨rfl, rfl⟩) | (go_at_call 32; refine (money_any _ _).mono ?_; rintro e w2 ⟨rfl, rfl⟩))
    go_ret
    exact ⟨by simp [okRu, h1], ((Below.refl _ w).alloc (Nat.le_refl _) _)⟩
  cases h2 : wi r.lvl 0 3
  · go_enter Tryz.func9, Tryz.ntmps9
    go_wp2_with (first | (go_at_call 19; refine (within_any _ _ _ _).mono ?_; rintro e w2 ⟨rfl, rfl⟩) | (go_at_call 32; refine (money_any _ _).mono ?_; rintro e w2 ⟨rfl, rfl⟩))
    go_ret
    exact ⟨by simp [okRu, h2], ((Below.refl _ w).alloc (Nat.le_refl _) _)⟩
  cases h3 : wi r.rank 0 9
  · go_enter Tryz.func9, Tryz.ntmps9
    go_wp2_with (first | (go_at_call 19; refine (within_any _ _ _ _).mono ?_; rintro e w2 ⟨rfl, rfl⟩) | (go_at_call 32; refine (money_any _ _).mono ?_; rintro e w2 ⟨rfl, rfl⟩))
    go_ret
    exact ⟨by simp [okRu, h3], ((Below.refl _ w).alloc (Nat.le_refl _) _)⟩
  cases h4 : wi r.group (-1) 2
  · go_enter Tryz.func9, Tryz.ntmps9
    go_wp2_with (first | (go_at_call 19; refine (within_any _ _ _ _).mono ?_; rintro e w2 ⟨rfl, rfl⟩) | (go_at_call 32; refine (money_any _ _).mono ?_; rintro e w2 ⟨rfl, rfl⟩))
    go_ret
    exact ⟨by simp [okRu, h4], ((Below.refl _ w).alloc (Nat.le_refl _) _)⟩
  cases h5 : wi r.cap 0 1000000
  · go_enter Tryz.func9, Tryz.ntmps9
    go_wp2_with (first | (go_at_call 19; refine (within_any _ _ _ _).mono ?_; rintro e w2 ⟨rfl, rfl⟩) | (go_at_call 32; refine (money_any _ _).mono ?_; rintro e w2 ⟨rfl, rfl⟩))
    go_ret
    exact ⟨by simp [okRu, h5], ((Below.refl _ w).alloc (Nat.le_refl _) _)⟩
  cases h6 : okGd r
  · go_enter Tryz.func9, Tryz.ntmps9
    go_wp2_with (first | (go_at_call 19; refine (within_any _ _ _ _).mono ?_; rintro e w2 ⟨rfl, rfl⟩) | (go_at_call 32; refine (money_any _ _).mono ?_; rintro e w2 ⟨rfl, rfl⟩) | (go_at_call 33; (refine (implGuard_any r _ _ (HV.out.below ((Below.refl _ w).alloc (Nat.le_refl _) _) (Nat.le_refl _))).mono ?_); rintro e w1 ⟨rfl, b1⟩; have f4 := (b1.cell (p := ⟨w.heap.size, 4, none⟩) (by rw [World.size_alloc]; exact Nat.lt_succ_self _)).trans (box_ru w _ _ _ _ _ _ _ _ _ _ _ _).1; have f5 := (b1.cell (p := ⟨w.heap.size, 5, none⟩) (by rw [World.size_alloc]; exact Nat.lt_succ_self _)).trans (box_ru w _ _ _ _ _ _ _ _ _ _ _ _).2))
    go_ret
    exact ⟨by simp [okRu, h6], (((Below.refl _ w).alloc (Nat.le_refl _) _).trans (b1.mono (by rw [World.size_alloc]; exact Nat.le_succ _)))⟩
  have fin := Lib.hid (okRu_val h1 h2 h3 h4 h5 h6)
  by_cases k1 : r.kind = 1
  · have k9 : okVal r.kind r.value = wi r.value 1 1000 := by unfold okVal; rw [if_pos k1]
    go_enter Tryz.func9, Tryz.ntmps9
    go_wp2_with (first | (go_at_call 19; refine (within_any _ _ _ _).mono ?_; rintro e w2 ⟨rfl, rfl⟩) | (go_at_call 32; refine (money_any _ _).mono ?_; rintro e w2 ⟨rfl, rfl⟩) | (go_at_call 33; (refine (implGuard_any r _ _ (HV.out.below ((Below.refl _ w).alloc (Nat.le_refl _) _) (Nat.le_refl _))).mono ?_); rintro e w1 ⟨rfl, b1⟩; have f4 := (b1.cell (p := ⟨w.heap.size, 4, none⟩) (by rw [World.size_alloc]; exact Nat.lt_succ_self _)).trans (box_ru w _ _ _ _ _ _ _ _ _ _ _ _).1; have f5 := (b1.cell (p := ⟨w.heap.size, 5, none⟩) (by rw [World.size_alloc]; exact Nat.lt_succ_self _)).trans (box_ru w _ _ _ _ _ _ _ _ _ _ _ _).2))
    go_ret
    exact ⟨by rw [fin.out, k9]; rfl, (((Below.refl _ w).alloc (Nat.le_refl _) _).trans (b1.mono (by rw [World.size_alloc]; exact Nat.le_succ _)))⟩
  by_cases k2 : r.kind = 2
  · have k9 : okVal r.kind r.value = wi r.value 1 1000000 := by unfold okVal; rw [if_neg k1, if_pos k2]
    go_enter Tryz.func9, Tryz.ntmps9
    go_wp2_with (first | (go_at_call 19; refine (within_any _ _ _ _).mono ?_; rintro e w2 ⟨rfl, rfl⟩) | (go_at_call 32; refine (money_any _ _).mono ?_; rintro e w2 ⟨rfl, rfl⟩) | (go_at_call 33; (refine (implGuard_any r _ _ (HV.out.below ((Below.refl _ w).alloc (Nat.le_refl _) _) (Nat.le_refl _))).mono ?_); rintro e w1 ⟨rfl, b1⟩; have f4 := (b1.cell (p := ⟨w.heap.size, 4, none⟩) (by rw [World.size_alloc]; exact Nat.lt_succ_self _)).trans (box_ru w _ _ _ _ _ _ _ _ _ _ _ _).1; have f5 := (b1.cell (p := ⟨w.heap.size, 5, none⟩) (by rw [World.size_alloc]; exact Nat.lt_succ_self _)).trans (box_ru w _ _ _ _ _ _ _ _ _ _ _ _).2))
    go_ret
    exact ⟨by rw [fin.out, k9]; rfl, (((Below.refl _ w).alloc (Nat.le_refl _) _).trans (b1.mono (by rw [World.size_alloc]; exact Nat.le_succ _)))⟩
  by_cases k3 : r.kind = 3
  · have k9 : okVal r.kind r.value = wi r.value 2 20 := by unfold okVal; rw [if_neg k1, if_neg k2, if_pos k3]
    go_enter Tryz.func9, Tryz.ntmps9
    go_wp2_with (first | (go_at_call 19; refine (within_any _ _ _ _).mono ?_; rintro e w2 ⟨rfl, rfl⟩) | (go_at_call 32; refine (money_any _ _).mono ?_; rintro e w2 ⟨rfl, rfl⟩) | (go_at_call 33; (refine (implGuard_any r _ _ (HV.out.below ((Below.refl _ w).alloc (Nat.le_refl _) _) (Nat.le_refl _))).mono ?_); rintro e w1 ⟨rfl, b1⟩; have f4 := (b1.cell (p := ⟨w.heap.size, 4, none⟩) (by rw [World.size_alloc]; exact Nat.lt_succ_self _)).trans (box_ru w _ _ _ _ _ _ _ _ _ _ _ _).1; have f5 := (b1.cell (p := ⟨w.heap.size, 5, none⟩) (by rw [World.size_alloc]; exact Nat.lt_succ_self _)).trans (box_ru w _ _ _ _ _ _ _ _ _ _ _ _).2))
    go_ret
    exact ⟨by rw [fin.out, k9]; rfl, (((Below.refl _ w).alloc (Nat.le_refl _) _).trans (b1.mono (by rw [World.size_alloc]; exact Nat.le_succ _)))⟩
  · have k9 : okVal r.kind r.value = false := by unfold okVal; rw [if_neg k1, if_neg k2, if_neg k3]
    go_enter Tryz.func9, Tryz.ntmps9
    go_wp2_with (first | (go_at_call 19; refine (within_any _ _ _ _).mono ?_; rintro e w2 ⟨rfl, rfl⟩) | (go_at_call 32; refine (money_any _ _).mono ?_; rintro e w2 ⟨rfl, rfl⟩) | (go_at_call 33; (refine (implGuard_any r _ _ (HV.out.below ((Below.refl _ w).alloc (Nat.le_refl _) _) (Nat.le_refl _))).mono ?_); rintro e w1 ⟨rfl, b1⟩; have f4 := (b1.cell (p := ⟨w.heap.size, 4, none⟩) (by rw [World.size_alloc]; exact Nat.lt_succ_self _)).trans (box_ru w _ _ _ _ _ _ _ _ _ _ _ _).1; have f5 := (b1.cell (p := ⟨w.heap.size, 5, none⟩) (by rw [World.size_alloc]; exact Nat.lt_succ_self _)).trans (box_ru w _ _ _ _ _ _ _ _ _ _ _ _).2))
    go_ret
    exact ⟨by rw [fin.out, k9]; rfl, (((Below.refl _ w).alloc (Nat.le_refl _) _).trans (b1.mono (by rw [World.size_alloc]; exact Nat.le_succ _)))⟩

end Go.Proofs.YtdofpealmngmiaaGreatDoor
