/- Walks: totals, bundles and gains of the reference. Conditions: none. -/
import Derived.Test.YtomapdedajdkkabCT
import Derived.Test.YtomapdedajdkkabCU
import Derived.Deep.RegionHeld3
namespace Go.Proofs.Ytomapdedajdkkab
open Go.RowKit

set_option maxHeartbeats 2000000 in
theorem specBundle_in (s : List Art) (u : Value) (c : List (Int × Int)) (v : Value) (p : Int) (w : World) (hs : Rd w 4 u s.length (ar s)) (hv : Rd w 2 v c.length (pr c)) (hsh : vShop s = true) :
    Calls Try.prog 49 #[u, .agg #[v, .int .i64 p]] w fun e w' => e = .returned (.bool (bOk s c p)) ∧ Below w.heap.size w w' := by
  have HV := Lib.hid hv
  have HS := Lib.hid hs
  have hm := hs.len
  have hm2 := hv.len
  unfold maxLen at hm hm2
  obtain ⟨so, scap, rfl, _⟩ := hs.arts
  obtain ⟨ao, cap, rfl, _⟩ := hv.pairs
  have b0 : Below w.heap.size w (w.alloc (.cells #[.slice ao c.length cap, .int .i64 p] 33)) := (Below.refl _ _).alloc (Nat.le_refl _) _
  have q0 : (w.alloc (.cells #[.slice ao c.length cap, .int .i64 p] 33)).cell? ⟨w.heap.size, 0, none⟩ = some (.slice ao c.length cap) := cell_of_row _ _ _ _ _ _ (heap_alloc_new w _)
  have q1 : (w.alloc (.cells #[.slice ao c.length cap, .int .i64 p] 33)).cell? ⟨w.heap.size, 1, none⟩ = some (.int .i64 p) := cell_of_row _ _ _ _ _ _ (heap_alloc_new w _)
  have VB := Lib.hid (hv.below b0 (Nat.le_refl _))
  have SB := Lib.hid (hs.below b0 (Nat.le_refl _))
  have zb : w.heap.size < (w.alloc (.cells #[.slice ao c.length cap, .int .i64 p] 33)).heap.size := by simp
  clear hv hs
  cases hp : vLines s.length c
  · have fin : Hid (bOk s c p = false) := by unfold Hid bOk; rw [vCart_l hp]; rfl
    go_enter Try.func49, Try.ntmps49
    go_wp2_with (go_at_call 62; (with_reducible refine (specCart_in _ _ _ c _ _ VB.out (by omega)).mono ?_); rintro e w1 ⟨rfl, hb1⟩; have c0 := (hb1.cell (p := ⟨w.heap.size, 0, none⟩) zb).trans q0; have c1 := (hb1.cell (p := ⟨w.heap.size, 1, none⟩) zb).trans q1)
    go_ret
    exact ⟨by rw [fin.out] <;> rfl, b0.trans (hb1.mono b0.size)⟩
  · rcases Nat.eq_zero_or_pos c.length with hz | hz
    · have fin : Hid (bOk s c p = false) := by simp [Hid, bOk, hz]
      have h0 : decide ((0 : Int) < (c.length : Int)) = false := by rw [decide_eq_false_iff_not]; omega
      have h0' : decide (0 < c.length) = false := by rw [decide_eq_false_iff_not]; omega
      have HZ := Lib.hid hz
      clear hz
      go_enter Try.func49, Try.ntmps49
      go_wp2_with (go_at_call 62; (with_reducible refine (specCart_in _ _ _ c _ _ VB.out (by omega)).mono ?_); rintro e w1 ⟨rfl, hb1⟩; have c0 := (hb1.cell (p := ⟨w.heap.size, 0, none⟩) zb).trans q0; have c1 := (hb1.cell (p := ⟨w.heap.size, 1, none⟩) zb).trans q1)
      go_ret
      exact ⟨by rw [fin.out] <;> rfl, b0.trans (hb1.mono b0.size)⟩
    · have fin : Hid (bOk s c p = wi p 0 1000000) := by simp [Hid, bOk, hz, vCart_y hsh hp]
      have h0 : decide ((0 : Int) < (c.length : Int)) = true := by rw [decide_eq_true_eq]; omega
      go_enter Try.func49, Try.ntmps49
      go_wp2_with (first | (go_at_call 62; (with_reducible refine (specCart_in _ _ _ c _ _ VB.out (by omega)).mono ?_); rintro e w1 ⟨rfl, hb1⟩; have c0 := (hb1.cell (p := ⟨w.heap.size, 0, none⟩) zb).trans q0; have c1 := (hb1.cell (p := ⟨w.heap.size, 1, none⟩) zb).trans q1) | (go_at_call 76; (with_reducible refine (inRange_any _ _ _ _).mono ?_); rintro e w2 ⟨rfl, rfl⟩))
      go_ret
      exact ⟨by rw [fin.out] <;> rfl, b0.trans (hb1.mono b0.size)⟩

set_option maxHeartbeats 4000000 in
set_option maxRecDepth 100000 in
theorem specGain_in (s : List Art) (u : Value) (c : List (Int × Int)) (v : Value) (p : Int) (w : World) (hs : Rd w 4 u s.length (ar s)) (hv : Rd w 2 v c.length (pr c)) (ho : bOk s c p = true) :
    Calls Try.prog 50 #[u, .agg #[v, .int .i64 p]] w fun e w' => e = .returned (.int .i64 (fGain s c p)) ∧ Below w.heap.size w w' := by
  have HV := Lib.hid hv
  have HS := Lib.hid hs
  have hm := hs.len
  have hm2 := hv.len
  unfold maxLen at hm hm2
  obtain ⟨so, scap, rfl, _⟩ := hs.arts
  obtain ⟨ao, cap, rfl, _⟩ := hv.pairs
  have b0 : Below w.heap.size w (w.alloc (.cells #[.slice ao c.length cap, .int .i64 p] 33)) := (Below.refl _ _).alloc (Nat.le_refl _) _
  have q0 : (w.alloc (.cells #[.slice ao c.length cap, .int .i64 p] 33)).cell? ⟨w.heap.size, 0, none⟩ = some (.slice ao c.length cap) := cell_of_row _ _ _ _ _ _ (heap_alloc_new w _)
  have q1 : (w.alloc (.cells #[.slice ao c.length cap, .int .i64 p] 33)).cell? ⟨w.heap.size, 1, none⟩ = some (.int .i64 p) := cell_of_row _ _ _ _ _ _ (heap_alloc_new w _)
  have VB := Lib.hid (hv.below b0 (Nat.le_refl _))
  have SB := Lib.hid (hs.below b0 (Nat.le_refl _))
  have zb : w.heap.size < (w.alloc (.cells #[.slice ao c.length cap, .int .i64 p] 33)).heap.size := by simp
  clear hv hs
  have fin := Lib.hid (fGain_yes ho)
  obtain ⟨hp, h2, h3, h4⟩ := bOk_pr ho
  have hbd : ∀ j, j < (amK s c c.length).length → 0 ≤ iG (amK s c c.length) j ∧ iG (amK s c c.length) j ≤ 1000000 := fun j hj => by
    rw [amK_len] at hj
    rw [amK_get s c _ j hj]
    have := amt_bd hp hj
    omega
  have hle : (amK s c c.length).length ≤ 1000000 := by
    rw [amK_len]
    have := (vLines_all (vCart_pr hp).2).2
    omega
  have hsum : sumT (amK s c c.length) (amK s c c.length).length = totK s c c.length := by
    rw [sumT_am s c c.length _ (Nat.le_of_eq (amK_len s c _)), amK_len]
  have h5 := totK_bd hp c.length (Nat.le_refl _)
  obtain ⟨h51, h52⟩ := h5
  have h6 := (vLines_all (vCart_pr hp).2).2
  have e1 : IntKind.i64.wrap (totK s c c.length - p) = totK s c c.length - p := IntWalk.i64_in _ (by omega)
  obtain ⟨T, hT⟩ : ∃ T, T = totK s c c.length := ⟨_, rfl⟩
  rw [← hT] at fin h51 h52 e1 hsum
  clear h2 hT ho
  go_enter Try.func50, Try.ntmps50
  go_wp2
  go_region_held3 (fun w' => w'.cell? ⟨w.heap.size, 0, none⟩ = some (.slice ao c.length cap) ∧ w'.cell? ⟨w.heap.size, 1, none⟩ = some (.int .i64 p) ∧ Below w.heap.size w w')
    (first
      | assumption
      | exact ⟨q0, q1, b0.drew⟩
      | (refine ⟨(hb2.cell (p := ⟨w.heap.size, 0, none⟩) zb).trans q0, (hb2.cell (p := ⟨w.heap.size, 1, none⟩) zb).trans q1, b0.drew.trans (hb2.mono b0.drew.size)⟩)
      | (go_keep; done))
    ((first
      | (go_at_call 78; (with_reducible refine (specAmounts_any s _ c _ _ (HS.out.below b0.drew (Nat.le_refl _)) (HV.out.below b0.drew (Nat.le_refl _)) hp).mono ?_); rintro e w2 ⟨o, rfl, ho, hb2⟩)
      | (go_at_call 77; (with_reducible refine (ssum_any _ _ _ (Rd.of_owns ho) hle hbd).mono ?_); rintro e w3 ⟨rfl, rfl⟩; rw [hsum])))
  have hB := b0.drew.trans (hb2.mono b0.drew.size)
  go_wp2
  go_ret
  exact ⟨by rw [fin.out] <;> rfl, hB⟩

set_option maxHeartbeats 2000000 in
set_option maxRecDepth 100000 in
theorem specGain_any (s : List Art) (u : Value) (c : List (Int × Int)) (v : Value) (p : Int) (w : World) (hs : Rd w 4 u s.length (ar s)) (hv : Rd w 2 v c.length (pr c)) :
    Calls Try.prog 14 #[u, .agg #[v, .int .i64 p]] w fun e w' => e = .returned (.int .i64 (fGain s c p)) ∧ Below w.heap.size w w' := by
  have HV := Lib.hid hv
  have HS := Lib.hid hs
  have hm := hs.len
  have hm2 := hv.len
  unfold maxLen at hm hm2
  obtain ⟨so, scap, rfl, _⟩ := hs.arts
  obtain ⟨ao, cap, rfl, _⟩ := hv.pairs
  have b0 : Below w.heap.size w (w.alloc (.cells #[.slice ao c.length cap, .int .i64 p] 33)) := (Below.refl _ _).alloc (Nat.le_refl _) _
  have q0 : (w.alloc (.cells #[.slice ao c.length cap, .int .i64 p] 33)).cell? ⟨w.heap.size, 0, none⟩ = some (.slice ao c.length cap) := cell_of_row _ _ _ _ _ _ (heap_alloc_new w _)
  have q1 : (w.alloc (.cells #[.slice ao c.length cap, .int .i64 p] 33)).cell? ⟨w.heap.size, 1, none⟩ = some (.int .i64 p) := cell_of_row _ _ _ _ _ _ (heap_alloc_new w _)
  have VB := Lib.hid (hv.below b0 (Nat.le_refl _))
  have SB := Lib.hid (hs.below b0 (Nat.le_refl _))
  have zb : w.heap.size < (w.alloc (.cells #[.slice ao c.length cap, .int .i64 p] 33)).heap.size := by simp
  clear hv hs
  cases hsh : vShop s
  · have fin : Hid (fGain s c p = -1) := fGain_no (by unfold bOk; rw [vCart_s hsh]; rfl)
    go_enter Try.func14, Try.ntmps14
    go_wp2_with (go_at_call 48; (with_reducible refine (specShop_in s _ _ SB.out).mono ?_); rintro e w1 ⟨rfl, hb1⟩; have c0 := (hb1.cell (p := ⟨w.heap.size, 0, none⟩) zb).trans q0; have c1 := (hb1.cell (p := ⟨w.heap.size, 1, none⟩) zb).trans q1; have B1 := b0.trans (hb1.mono b0.size))
    go_ret
    exact ⟨by rw [fin.out] <;> rfl, B1⟩
  · cases hp : bOk s c p
    · have fin := Lib.hid (fGain_no hp)
      go_enter Try.func14, Try.ntmps14
      go_wp2_with (first | (go_at_call 48; (with_reducible refine (specShop_in s _ _ SB.out).mono ?_); rintro e w1 ⟨rfl, hb1⟩; have c0 := (hb1.cell (p := ⟨w.heap.size, 0, none⟩) zb).trans q0; have c1 := (hb1.cell (p := ⟨w.heap.size, 1, none⟩) zb).trans q1; have B1 := b0.trans (hb1.mono b0.size)) | (go_at_call 49; (with_reducible refine (specBundle_in s _ c _ p _ (SB.out.below hb1 (Nat.le_refl _)) (VB.out.below hb1 (Nat.le_refl _)) hsh).mono ?_); rintro e w2 ⟨rfl, hb2⟩; have B2 := B1.trans (hb2.mono B1.size); have hbw : w.heap.size < w1.heap.size := Nat.lt_of_lt_of_le zb hb1.size; have d0 := (hb2.cell (p := ⟨w.heap.size, 0, none⟩) hbw).trans c0; have d1 := (hb2.cell (p := ⟨w.heap.size, 1, none⟩) hbw).trans c1))
      go_ret
      exact ⟨by rw [fin.out] <;> rfl, B2⟩
    · go_enter Try.func14, Try.ntmps14
      go_wp2_with (first | (go_at_call 48; (with_reducible refine (specShop_in s _ _ SB.out).mono ?_); rintro e w1 ⟨rfl, hb1⟩; have c0 := (hb1.cell (p := ⟨w.heap.size, 0, none⟩) zb).trans q0; have c1 := (hb1.cell (p := ⟨w.heap.size, 1, none⟩) zb).trans q1; have B1 := b0.trans (hb1.mono b0.size)) | (go_at_call 49; (with_reducible refine (specBundle_in s _ c _ p _ (SB.out.below hb1 (Nat.le_refl _)) (VB.out.below hb1 (Nat.le_refl _)) hsh).mono ?_); rintro e w2 ⟨rfl, hb2⟩; have B2 := B1.trans (hb2.mono B1.size); have hbw : w.heap.size < w1.heap.size := Nat.lt_of_lt_of_le zb hb1.size; have d0 := (hb2.cell (p := ⟨w.heap.size, 0, none⟩) hbw).trans c0; have d1 := (hb2.cell (p := ⟨w.heap.size, 1, none⟩) hbw).trans c1) | (go_at_call 50; (with_reducible refine (specGain_in s _ c _ p _ (HS.out.below B2 (Nat.le_refl _)) (HV.out.below B2 (Nat.le_refl _)) hp).mono ?_); rintro e w3 ⟨rfl, hb3⟩))
      go_ret
      exact ⟨rfl, B2.trans (hb3.mono B2.size)⟩

end Go.Proofs.Ytomapdedajdkkab
