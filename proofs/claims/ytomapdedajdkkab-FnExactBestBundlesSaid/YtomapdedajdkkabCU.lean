/- Walks: totals, bundles and gains. Conditions: none. -/
import Derived.Test.YtomapdedajdkkabCT
import Derived.Deep.RegionHeld3
namespace Go.Proofs.Ytomapdedajdkkab
open Go.RowKit

set_option maxHeartbeats 400000 in
theorem money_any (n : Int) (w : World) :
    Calls Try.prog 79 #[.int .i64 n] w fun e w' => e = .returned (.bool (wi n 0 1000000)) ∧ w' = w := by
  go_enter Try.func79, Try.ntmps79
  go_wp2_with (go_at_call 89; refine (within_any _ _ _ _).mono ?_; rintro e w1 ⟨rfl, rfl⟩)
  go_ret
  exact ⟨rfl, rfl⟩

set_option maxHeartbeats 1000000 in
theorem implTotal_any (s : List Art) (u : Value) (c : List (Int × Int)) (v : Value) (w : World) (hs : Rd w 4 u s.length (ar s)) (hv : Rd w 2 v c.length (pr c)) :
    Calls Try.prog 25 #[u, v] w fun e w' => e = .returned (.int .i64 (fTot s c)) ∧ Below w.heap.size w w' := by
  have HV := Lib.hid hv
  have HS := Lib.hid hs
  clear hv hs
  cases hp : vCart s c
  · have fin := Lib.hid (fTot_no hp)
    go_enter Try.func25, Try.ntmps25
    go_wp2_with (go_at_call 57; refine (implCart_any s _ c _ _ HS.out HV.out).mono ?_; rintro e w1 ⟨rfl, hb1⟩)
    go_ret
    exact ⟨by rw [fin.out] <;> rfl, hb1⟩
  · have fin := Lib.hid (fTot_yes hp)
    have hbd : ∀ j, j < (amK s c c.length).length → 0 ≤ iG (amK s c c.length) j ∧ iG (amK s c c.length) j ≤ 1000000 := fun j hj => by
      rw [amK_len] at hj
      rw [amK_get s c _ j hj]
      have := amt_bd hp hj
      omega
    have hle : (amK s c c.length).length ≤ 1000000 := by
      rw [amK_len]
      have := (vLines_all (vCart_pr hp).2).2
      omega
    have hsum : sumT (amK s c c.length) (amK s c c.length).length = totK s c c.length := by
      rw [sumT_am s c c.length _ (Nat.le_of_eq (amK_len s c _)), amK_len]
    go_enter Try.func25, Try.ntmps25
    go_wp2_with (first | (go_at_call 57; (with_reducible refine (implCart_any s _ c _ _ HS.out HV.out).mono ?_); rintro e w1 ⟨rfl, hb1⟩) | (go_at_call 67; (with_reducible refine (implAmounts_any s _ c _ _ (HS.out.below hb1 (Nat.le_refl _)) (HV.out.below hb1 (Nat.le_refl _)) hp).mono ?_); rintro e w2 ⟨o, rfl, ho, hb2⟩) | (go_at_call 66; (with_reducible refine (total_any _ _ _ (Rd.of_owns ho) hle hbd).mono ?_); rintro e w3 ⟨rfl, rfl⟩; rw [hsum]))
    go_ret
    exact ⟨by rw [fin.out] <;> rfl, hb1.trans (hb2.mono hb1.size)⟩

set_option maxHeartbeats 2000000 in
theorem implBundle_any (s : List Art) (u : Value) (c : List (Int × Int)) (v : Value) (p : Int) (w : World) (hs : Rd w 4 u s.length (ar s)) (hv : Rd w 2 v c.length (pr c)) :
    Calls Try.prog 52 #[u, .agg #[v, .int .i64 p]] w fun e w' => e = .returned (.bool (bOk s c p)) ∧ Below w.heap.size w w' := by
  have HV := Lib.hid hv
  have HS := Lib.hid hs
  have hm := hs.len
  have hm2 := hv.len
  unfold maxLen at hm hm2
  obtain ⟨so, scap, rfl, _⟩ := hs.arts
  obtain ⟨ao, cap, rfl, _⟩ := hv.pairs
  have b0 : Below w.heap.size w (w.alloc (.cells #[.slice ao c.length cap, .int .i64 p] 33)) := (Below.refl _ _).alloc (Nat.le_refl _) _
  have q0 : (w.alloc (.cells #[.slice ao c.length cap, .int .i64 p] 33)).cell? ⟨w.heap.size, 0, none⟩ = some (.slice ao c.length cap) := cell_of_row _ _ _ _ _ _ (heap_alloc_new w _)
  have q1 : (w.alloc (.cells #[.slice ao c.length cap, .int .i64 p] 33)).cell? ⟨w.heap.size, 1, none⟩ = some (.int .i64 p) := cell_of_row _ _ _ _ _ _ (heap_alloc_new w _)
  have VB := Lib.hid (hv.below b0 (Nat.le_refl _))
  have SB := Lib.hid (hs.below b0 (Nat.le_refl _))
  have zb : w.heap.size < (w.alloc (.cells #[.slice ao c.length cap, .int .i64 p] 33)).heap.size := by simp
  clear hv hs
  cases hp : vCart s c
  · have fin : Hid (bOk s c p = false) := by unfold Hid bOk; rw [hp]; rfl
    go_enter Try.func52, Try.ntmps52
    go_wp2_with (go_at_call 57; (with_reducible refine (implCart_any s _ c _ _ SB.out VB.out).mono ?_); rintro e w1 ⟨rfl, hb1⟩; have c0 := (hb1.cell (p := ⟨w.heap.size, 0, none⟩) zb).trans q0; have c1 := (hb1.cell (p := ⟨w.heap.size, 1, none⟩) zb).trans q1)
    go_ret
    exact ⟨by rw [fin.out] <;> rfl, b0.trans (hb1.mono b0.size)⟩
  · rcases Nat.eq_zero_or_pos c.length with hz | hz
    · have fin : Hid (bOk s c p = false) := by simp [Hid, bOk, hz]
      have h0 : decide ((0 : Int) < (c.length : Int)) = false := by rw [decide_eq_false_iff_not]; omega
      have h0' : decide (0 < c.length) = false := by rw [decide_eq_false_iff_not]; omega
      have HZ := Lib.hid hz
      clear hz
      go_enter Try.func52, Try.ntmps52
      go_wp2_with (go_at_call 57; (with_reducible refine (implCart_any s _ c _ _ SB.out VB.out).mono ?_); rintro e w1 ⟨rfl, hb1⟩; have c0 := (hb1.cell (p := ⟨w.heap.size, 0, none⟩) zb).trans q0; have c1 := (hb1.cell (p := ⟨w.heap.size, 1, none⟩) zb).trans q1)
      go_ret
      exact ⟨by rw [fin.out] <;> rfl, b0.trans (hb1.mono b0.size)⟩
    · have fin : Hid (bOk s c p = wi p 0 1000000) := by simp [Hid, bOk, hz, hp]
      have h0 : decide ((0 : Int) < (c.length : Int)) = true := by rw [decide_eq_true_eq]; omega
      go_enter Try.func52, Try.ntmps52
      go_wp2_with (first | (go_at_call 57; (with_reducible refine (implCart_any s _ c _ _ SB.out VB.out).mono ?_); rintro e w1 ⟨rfl, hb1⟩; have c0 := (hb1.cell (p := ⟨w.heap.size, 0, none⟩) zb).trans q0; have c1 := (hb1.cell (p := ⟨w.heap.size, 1, none⟩) zb).trans q1) | (go_at_call 79; (with_reducible refine (money_any _ _).mono ?_); rintro e w2 ⟨rfl, rfl⟩))
      go_ret
      exact ⟨by rw [fin.out] <;> rfl, b0.trans (hb1.mono b0.size)⟩

set_option maxHeartbeats 4000000 in
set_option maxRecDepth 100000 in
theorem implGain_any (s : List Art) (u : Value) (c : List (Int × Int)) (v : Value) (p : Int) (w : World) (hs : Rd w 4 u s.length (ar s)) (hv : Rd w 2 v c.length (pr c)) :
    Calls Try.prog 17 #[u, .agg #[v, .int .i64 p]] w fun e w' => e = .returned (.int .i64 (fGain s c p)) ∧ Below w.heap.size w w' := by
  have HV := Lib.hid hv
  have HS := Lib.hid hs
  have hm := hs.len
  have hm2 := hv.len
  unfold maxLen at hm hm2
  obtain ⟨so, scap, rfl, _⟩ := hs.arts
  obtain ⟨ao, cap, rfl, _⟩ := hv.pairs
  have b0 : Below w.heap.size w (w.alloc (.cells #[.slice ao c.length cap, .int .i64 p] 33)) := (Below.refl _ _).alloc (Nat.le_refl _) _
  have q0 : (w.alloc (.cells #[.slice ao c.length cap, .int .i64 p] 33)).cell? ⟨w.heap.size, 0, none⟩ = some (.slice ao c.length cap) := cell_of_row _ _ _ _ _ _ (heap_alloc_new w _)
  have q1 : (w.alloc (.cells #[.slice ao c.length cap, .int .i64 p] 33)).cell? ⟨w.heap.size, 1, none⟩ = some (.int .i64 p) := cell_of_row _ _ _ _ _ _ (heap_alloc_new w _)
  have VB := Lib.hid (hv.below b0 (Nat.le_refl _))
  have SB := Lib.hid (hs.below b0 (Nat.le_refl _))
  have zb : w.heap.size < (w.alloc (.cells #[.slice ao c.length cap, .int .i64 p] 33)).heap.size := by simp
  clear hv hs
  cases hp : bOk s c p
  · have fin := Lib.hid (fGain_no hp)
    go_enter Try.func17, Try.ntmps17
    go_wp2_with (go_at_call 52; refine (implBundle_any s _ c _ p _ SB.out VB.out).mono ?_; rintro e w1 ⟨rfl, hb1⟩)
    go_ret
    exact ⟨by rw [fin.out] <;> rfl, b0.trans (hb1.mono b0.size)⟩
  · have fin := Lib.hid (fGain_yes hp)
    obtain ⟨h1, h2, h3, h4⟩ := bOk_pr hp
    have h5 := totK_bd h1 c.length (Nat.le_refl _)
    obtain ⟨h51, h52⟩ := h5
    have h6 := (vLines_all (vCart_pr h1).2).2
    have h7 := fTot_yes h1
    have e1 : IntKind.i64.wrap (totK s c c.length - p) = totK s c c.length - p := IntWalk.i64_in _ (by omega)
    obtain ⟨T, hT⟩ : ∃ T, T = totK s c c.length := ⟨_, rfl⟩
    rw [← hT] at fin h51 h52 h7 e1
    clear h1 h2 hT
    go_enter Try.func17, Try.ntmps17
    go_wp2_with (go_at_call 52; refine (implBundle_any s _ c _ p _ SB.out VB.out).mono ?_; rintro e w1 ⟨rfl, hb1⟩; have c0 := (hb1.cell (p := ⟨w.heap.size, 0, none⟩) zb).trans q0; have c1 := (hb1.cell (p := ⟨w.heap.size, 1, none⟩) zb).trans q1)
    have hbw : w.heap.size < w1.heap.size := Nat.lt_of_lt_of_le zb hb1.size
    have B1 := b0.trans (hb1.mono b0.size)
    go_region_held3 (fun w' => w'.cell? ⟨w.heap.size, 0, none⟩ = some (.slice ao c.length cap) ∧ w'.cell? ⟨w.heap.size, 1, none⟩ = some (.int .i64 p) ∧ Below w.heap.size w w')
      (first
        | exact ⟨c0, c1, B1.drew⟩
        | (refine ⟨(hb2.cell (p := ⟨w.heap.size, 0, none⟩) hbw).trans c0, (hb2.cell (p := ⟨w.heap.size, 1, none⟩) hbw).trans c1, B1.drew.trans (hb2.mono B1.drew.size)⟩)
        | (go_keep; done)
        | (refine ⟨(hb2.cell (p := ⟨w.heap.size, 0, none⟩) hbw).trans c0, (hb2.cell (p := ⟨w.heap.size, 1, none⟩) hbw).trans c1, B1.trans (hb2.mono B1.size)⟩))
      ((go_at_call 25; (with_reducible refine (implTotal_any s _ c _ _ (HS.out.below B1.drew (Nat.le_refl _)) (HV.out.below B1.drew (Nat.le_refl _))).mono ?_); rintro e w2 ⟨rfl, hb2⟩; rw [h7]))
    have hB := B1.drew.trans (hb2.mono B1.drew.size)
    go_wp2
    go_ret
    exact ⟨by rw [fin.out, Int.max_comm] <;> rfl, hB⟩

end Go.Proofs.Ytomapdedajdkkab
