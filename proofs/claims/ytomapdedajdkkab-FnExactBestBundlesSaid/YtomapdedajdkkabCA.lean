/- Walks: valid shops and carts. Conditions: none. -/
import Derived.Test.YtomapdedajdkkabWA
import Derived.Test.YtomapdedajdkkabCartFns
namespace Go.Proofs.Ytomapdedajdkkab
open Go.RowKit

set_option maxHeartbeats 8000000 in
theorem implShop_any (l : List Art) (v : Value) (w : World) (hv : Rd w 4 v l.length (ar l)) :
    Calls Try.prog 84 #[v] w fun e w' => e = .returned (.bool (vShop l)) ∧ Below w.heap.size w w' := by
  have hm := hv.len
  unfold maxLen at hm
  obtain ⟨ao, cap, rfl, hl, hc, hr⟩ := hv.arts
  have HR := Lib.hid hr
  clear hr hv hl hc
  go_enter Try.func84, Try.ntmps84
  go_wp2
  go_loopw [7] (fun i wr => ∃ k : Nat, k ≤ l.length ∧ i = .int .i64 k ∧ Below w.heap.size w wr ∧ Hid (∀ j, j < k → atOk (aT l j) = true)) (fun i _ => l.length - (intOf i).toNat)
  case atStart => exact ⟨0, Nat.zero_le _, rfl, Below.refl _ _, fun j hj => absurd hj (Nat.not_lt_zero _)⟩
  case round =>
    obtain ⟨k, hk, rfl, hbl, hall⟩ := hrel
    by_cases hlt : k < l.length
    · obtain ⟨b, off, rfl, hb, hcell⟩ := HR.out (by omega)
      have HC := Lib.hid hcell
      clear hcell
      have h0 := (hbl.cell (p := ⟨b, off + k*4, none⟩) hb).trans (HC.out k hlt).1
      have h1 := (hbl.cell (p := ⟨b, off + k*4+1, none⟩) hb).trans (HC.out k hlt).2.1
      have h2 := (hbl.cell (p := ⟨b, off + k*4+2, none⟩) hb).trans (HC.out k hlt).2.2.1
      have h3 := (hbl.cell (p := ⟨b, off + k*4+3, none⟩) hb).trans (HC.out k hlt).2.2.2
      have hbw : b < wr.heap.size := Nat.lt_of_lt_of_le hb hbl.size
      cases hA : wi (aT l k).p 1 5000
      · have fin := Lib.hid (vShop_bad hlt (atOk_a hA))
        go_wp2_with (go_at_call 89; refine (within_any _ _ _ _).mono ?_; rintro e w2 ⟨rfl, hw2⟩; subst hw2)
        go_ret
        exact ⟨by rw [fin.out]; rfl, hbl.alloc hbl.size _⟩
      cases hB : wi (aT l k).g 0 2
      · have fin := Lib.hid (vShop_bad hlt (atOk_b hB))
        go_wp2_with (go_at_call 89; refine (within_any _ _ _ _).mono ?_; rintro e w2 ⟨rfl, hw2⟩; subst hw2)
        go_ret
        exact ⟨by rw [fin.out]; rfl, hbl.alloc hbl.size _⟩
      cases hC : wi (aT l k).r 0 300
      · have fin := Lib.hid (vShop_bad hlt (atOk_c hC))
        go_wp2_with (go_at_call 89; refine (within_any _ _ _ _).mono ?_; rintro e w2 ⟨rfl, hw2⟩; subst hw2)
        go_ret
        exact ⟨by rw [fin.out]; rfl, hbl.alloc hbl.size _⟩
      cases hD : wi (aT l k).w 0 5000
      · have fin := Lib.hid (vShop_bad hlt (atOk_d hD))
        go_wp2_with (go_at_call 89; refine (within_any _ _ _ _).mono ?_; rintro e w2 ⟨rfl, hw2⟩; subst hw2)
        go_ret
        exact ⟨by rw [fin.out]; rfl, hbl.alloc hbl.size _⟩
      have fin := Lib.hid (atOk_y hA hB hC hD)
      go_wp2_with (go_at_call 89; refine (within_any _ _ _ _).mono ?_; rintro e w2 ⟨rfl, hw2⟩; subst hw2)
      go_roundw
      case rel => exact ⟨k+1, by omega, by go_num, hbl.alloc hbl.size _, all_snoc hall.out fin.out⟩
      case measure => simp [intOf]; omega
    · have fin := Lib.hid (vShop_end (l := l) fun j hj => hall.out j (by omega))
      go_wp2_with (go_at_call 89; refine (within_any _ _ _ _).mono ?_; rintro e w2 ⟨rfl, hw2⟩; subst hw2)
      go_ret
      exact ⟨by rw [fin.out]; rfl, hbl⟩

set_option maxHeartbeats 8000000 in
theorem specShop_in (l : List Art) (v : Value) (w : World) (hv : Rd w 4 v l.length (ar l)) :
    Calls Try.prog 48 #[v] w fun e w' => e = .returned (.bool (vShop l)) ∧ Below w.heap.size w w' := by
  have hm := hv.len
  unfold maxLen at hm
  obtain ⟨ao, cap, rfl, hl, hc, hr⟩ := hv.arts
  have HR := Lib.hid hr
  clear hr hv hl hc
  go_enter Try.func48, Try.ntmps48
  go_wp2
  go_loopw [3] (fun i wr => ∃ k : Nat, k ≤ l.length ∧ i = .int .i64 k ∧ Below w.heap.size w wr ∧ Hid (∀ j, j < k → atOk (aT l j) = true)) (fun i _ => l.length - (intOf i).toNat)
  case atStart => exact ⟨0, Nat.zero_le _, rfl, Below.refl _ _, fun j hj => absurd hj (Nat.not_lt_zero _)⟩
  case round =>
    obtain ⟨k, hk, rfl, hbl, hall⟩ := hrel
    by_cases hlt : k < l.length
    · obtain ⟨b, off, rfl, hb, hcell⟩ := HR.out (by omega)
      have HC := Lib.hid hcell
      clear hcell
      have h0 := (hbl.cell (p := ⟨b, off + k*4, none⟩) hb).trans (HC.out k hlt).1
      have h1 := (hbl.cell (p := ⟨b, off + k*4+1, none⟩) hb).trans (HC.out k hlt).2.1
      have h2 := (hbl.cell (p := ⟨b, off + k*4+2, none⟩) hb).trans (HC.out k hlt).2.2.1
      have h3 := (hbl.cell (p := ⟨b, off + k*4+3, none⟩) hb).trans (HC.out k hlt).2.2.2
      have hbw : b < wr.heap.size := Nat.lt_of_lt_of_le hb hbl.size
      cases hA : wi (aT l k).p 1 5000
      · have fin := Lib.hid (vShop_bad hlt (atOk_a hA))
        go_wp2_with (go_at_call 76; refine (inRange_any _ _ _ _).mono ?_; rintro e w2 ⟨rfl, hw2⟩; subst hw2)
        go_ret
        exact ⟨by rw [fin.out]; rfl, hbl.alloc hbl.size _⟩
      cases hB : wi (aT l k).g 0 2
      · have fin := Lib.hid (vShop_bad hlt (atOk_b hB))
        go_wp2_with (go_at_call 76; refine (inRange_any _ _ _ _).mono ?_; rintro e w2 ⟨rfl, hw2⟩; subst hw2)
        go_ret
        exact ⟨by rw [fin.out]; rfl, hbl.alloc hbl.size _⟩
      cases hC : wi (aT l k).r 0 300
      · have fin := Lib.hid (vShop_bad hlt (atOk_c hC))
        go_wp2_with (go_at_call 76; refine (inRange_any _ _ _ _).mono ?_; rintro e w2 ⟨rfl, hw2⟩; subst hw2)
        go_ret
        exact ⟨by rw [fin.out]; rfl, hbl.alloc hbl.size _⟩
      cases hD : wi (aT l k).w 0 5000
      · have fin := Lib.hid (vShop_bad hlt (atOk_d hD))
        go_wp2_with (go_at_call 76; refine (inRange_any _ _ _ _).mono ?_; rintro e w2 ⟨rfl, hw2⟩; subst hw2)
        go_ret
        exact ⟨by rw [fin.out]; rfl, hbl.alloc hbl.size _⟩
      have fin := Lib.hid (atOk_y hA hB hC hD)
      go_wp2_with (go_at_call 76; refine (inRange_any _ _ _ _).mono ?_; rintro e w2 ⟨rfl, hw2⟩; subst hw2)
      go_roundw
      case rel => exact ⟨k+1, by omega, by go_num, hbl.alloc hbl.size _, all_snoc hall.out fin.out⟩
      case measure => simp [intOf]; omega
    · have fin := Lib.hid (vShop_end (l := l) fun j hj => hall.out j (by omega))
      go_wp2_with (go_at_call 76; refine (inRange_any _ _ _ _).mono ?_; rintro e w2 ⟨rfl, hw2⟩; subst hw2)
      go_ret
      exact ⟨by rw [fin.out]; rfl, hbl⟩

set_option maxHeartbeats 8000000 in
theorem linesOk_any (n : Int) (l : List (Int × Int)) (v : Value) (w : World) (hv : Rd w 2 v l.length (pr l)) (hn : 0 ≤ n) (hn2 : n ≤ 9223372036854775807) :
    Calls Try.prog 85 #[.int .i64 n, v] w fun e w' => e = .returned (.bool (vLines n l)) ∧ Below w.heap.size w w' := by
  have hm := hv.len
  unfold maxLen at hm
  obtain ⟨ao, cap, rfl, hl, hc, hr⟩ := hv.pairs
  have HR := Lib.hid hr
  clear hr hv hl hc
  have hw0 : IntKind.i64.wrap (n - 1) = n - 1 := IntWalk.i64_in _ (by omega)
  go_enter Try.func85, Try.ntmps85
  go_wp2
  go_loopw [9] (fun i wr => ∃ k : Nat, k ≤ l.length ∧ i = .int .i64 k ∧ Below w.heap.size w wr ∧ Hid (∀ j, j < k → lnOk n l j = true)) (fun i _ => l.length - (intOf i).toNat)
  case atStart => exact ⟨0, Nat.zero_le _, rfl, Below.refl _ _, fun j hj => absurd hj (Nat.not_lt_zero _)⟩
  case round =>
    obtain ⟨k, hk, rfl, hbl, hall⟩ := hrel
    by_cases hlt : k < l.length
    · obtain ⟨b, off, rfl, hb, hcell⟩ := HR.out (by omega)
      have HC := Lib.hid hcell
      clear hcell
      have h0 := (hbl.cell (p := ⟨b, off + k*2, none⟩) hb).trans (HC.out k hlt).1
      have h1 := (hbl.cell (p := ⟨b, off + k*2+1, none⟩) hb).trans (HC.out k hlt).2
      have hbw : b < wr.heap.size := Nat.lt_of_lt_of_le hb hbl.size
      cases hA : wi (pA l k) 0 (n - 1)
      · have fin := Lib.hid (vLines_bad (n := n) hlt (lnOk_a hA))
        go_wp2
        go_quiet ((go_at_call 89; exact Calls.quiet_of_same (within_any _ _ _ _)))
        go_wp2
        go_ret
        exact ⟨by rw [fin.out]; rfl, below_drewN (hbl.alloc hbl.size _) _⟩
      · cases hB : wi (pB l k) 1 20
        · have fin := Lib.hid (vLines_bad (n := n) hlt (lnOk_b hB))
          go_wp2
          go_quiet ((go_at_call 89; exact Calls.quiet_of_same (within_any _ _ _ _)))
          go_wp2
          go_ret
          exact ⟨by rw [fin.out]; rfl, below_drewN (hbl.alloc hbl.size _) _⟩
        · by_cases hz : 0 < k
          · obtain ⟨j, rfl⟩ : ∃ j, k = j + 1 := ⟨k - 1, by omega⟩
            have g0 := (hbl.cell (p := ⟨b, off + j*2, none⟩) hb).trans (HC.out j (by omega)).1
            have hw : IntKind.i64.wrap (j : Int) = (j : Int) := IntWalk.i64_in _ (by omega)
            have hj : j < l.length := by omega
            by_cases hD : (pA l (j + 1)) ≤ (pA l j)
            · have fin := Lib.hid (vLines_bad (n := n) hlt (lnOk_c hD))
              go_wp2
              go_quiet ((go_at_call 89; exact Calls.quiet_of_same (within_any _ _ _ _)))
              go_wp2
              go_ret
              exact ⟨by rw [fin.out]; rfl, below_drewN (hbl.alloc hbl.size _) _⟩
            · have fin := Lib.hid (lnOk_s hA hB hD)
              go_wp2
              go_quiet ((go_at_call 89; exact Calls.quiet_of_same (within_any _ _ _ _)))
              go_wp2
              go_roundw
              case rel => exact ⟨j+1+1, by omega, by go_num, below_drewN (hbl.alloc hbl.size _) _, all_snoc hall.out fin.out⟩
              case measure => simp [intOf]; omega
          · have fin := Lib.hid (lnOk_0 hz hA hB)
            go_wp2
            go_quiet ((go_at_call 89; exact Calls.quiet_of_same (within_any _ _ _ _)))
            go_wp2
            go_roundw
            case rel => exact ⟨k+1, by omega, by go_num, below_drewN (hbl.alloc hbl.size _) _, all_snoc hall.out fin.out⟩
            case measure => simp [intOf]; omega
    · have fin := Lib.hid (vLines_end (n := n) (l := l) fun j hj => hall.out j (by omega))
      go_wp2
      go_ret
      exact ⟨by rw [fin.out]; rfl, hbl⟩

set_option maxHeartbeats 8000000 in
theorem specCart_in (so : Option Addr) (n cap0 : Nat) (l : List (Int × Int)) (v : Value) (w : World) (hv : Rd w 2 v l.length (pr l)) (hn : n ≤ 9223372036854775807) :
    Calls Try.prog 62 #[.slice so n cap0, v] w fun e w' => e = .returned (.bool (vLines (n : Int) l)) ∧ Below w.heap.size w w' := by
  have hm := hv.len
  unfold maxLen at hm
  obtain ⟨ao, cap, rfl, hl, hc, hr⟩ := hv.pairs
  have HR := Lib.hid hr
  clear hr hv hl hc
  have hw0 : IntKind.i64.wrap ((n : Int) - 1) = (n : Int) - 1 := IntWalk.i64_in _ (by omega)
  go_enter Try.func62, Try.ntmps62
  go_wp2
  go_loopw [5] (fun i wr => ∃ k : Nat, k ≤ l.length ∧ i = .int .i64 k ∧ Below w.heap.size w wr ∧ Hid (∀ j, j < k → lnOk (n : Int) l j = true)) (fun i _ => l.length - (intOf i).toNat)
  case atStart => exact ⟨0, Nat.zero_le _, rfl, Below.refl _ _, fun j hj => absurd hj (Nat.not_lt_zero _)⟩
  case round =>
    obtain ⟨k, hk, rfl, hbl, hall⟩ := hrel
    by_cases hlt : k < l.length
    · obtain ⟨b, off, rfl, hb, hcell⟩ := HR.out (by omega)
      have HC := Lib.hid hcell
      clear hcell
      have h0 := (hbl.cell (p := ⟨b, off + k*2, none⟩) hb).trans (HC.out k hlt).1
      have h1 := (hbl.cell (p := ⟨b, off + k*2+1, none⟩) hb).trans (HC.out k hlt).2
      have hbw : b < wr.heap.size := Nat.lt_of_lt_of_le hb hbl.size
      cases hA : wi (pA l k) 0 ((n : Int) - 1)
      · have fin := Lib.hid (vLines_bad (n := (n : Int)) hlt (lnOk_a hA))
        go_wp2
        go_quiet ((go_at_call 76; exact Calls.quiet_of_same (inRange_any _ _ _ _)))
        go_wp2
        go_ret
        exact ⟨by rw [fin.out]; rfl, below_drewN hbl _⟩
      · cases hB : wi (pB l k) 1 20
        · have fin := Lib.hid (vLines_bad (n := (n : Int)) hlt (lnOk_b hB))
          go_wp2
          go_quiet ((go_at_call 76; exact Calls.quiet_of_same (inRange_any _ _ _ _)))
          go_wp2
          go_ret
          exact ⟨by rw [fin.out]; rfl, below_drewN hbl _⟩
        · by_cases hz : 0 < k
          · obtain ⟨j, rfl⟩ : ∃ j, k = j + 1 := ⟨k - 1, by omega⟩
            have g0 := (hbl.cell (p := ⟨b, off + j*2, none⟩) hb).trans (HC.out j (by omega)).1
            have hw : IntKind.i64.wrap (j : Int) = (j : Int) := IntWalk.i64_in _ (by omega)
            have hj : j < l.length := by omega
            by_cases hD : (pA l (j + 1)) ≤ (pA l j)
            · have fin := Lib.hid (vLines_bad (n := (n : Int)) hlt (lnOk_c hD))
              go_wp2
              go_quiet ((go_at_call 76; exact Calls.quiet_of_same (inRange_any _ _ _ _)))
              go_wp2
              go_ret
              exact ⟨by rw [fin.out]; rfl, below_drewN hbl _⟩
            · have fin := Lib.hid (lnOk_s hA hB hD)
              go_wp2
              go_quiet ((go_at_call 76; exact Calls.quiet_of_same (inRange_any _ _ _ _)))
              go_wp2
              go_roundw
              case rel => exact ⟨j+1+1, by omega, by go_num, below_drewN hbl _, all_snoc hall.out fin.out⟩
              case measure => simp [intOf]; omega
          · have fin := Lib.hid (lnOk_0 hz hA hB)
            go_wp2
            go_quiet ((go_at_call 76; exact Calls.quiet_of_same (inRange_any _ _ _ _)))
            go_wp2
            go_roundw
            case rel => exact ⟨k+1, by omega, by go_num, below_drewN hbl _, all_snoc hall.out fin.out⟩
            case measure => simp [intOf]; omega
    · have fin := Lib.hid (vLines_end (n := (n : Int)) (l := l) fun j hj => hall.out j (by omega))
      go_wp2
      go_ret
      exact ⟨by rw [fin.out]; rfl, hbl⟩

set_option maxHeartbeats 1000000 in
theorem implCart_any (s : List Art) (u : Value) (l : List (Int × Int)) (v : Value) (w : World) (hs : Rd w 4 u s.length (ar s)) (hv : Rd w 2 v l.length (pr l)) :
    Calls Try.prog 57 #[u, v] w fun e w' => e = .returned (.bool (vCart s l)) ∧ Below w.heap.size w w' := by
  have HV := Lib.hid hv
  have HS := Lib.hid hs
  have hm := hs.len
  unfold maxLen at hm
  obtain ⟨ao, cap, rfl, _⟩ := hs.arts
  clear hv hs
  cases hp : vShop s
  · have fin := Lib.hid (vCart_s (c := l) hp)
    go_enter Try.func57, Try.ntmps57
    go_wp2_with (go_at_call 84; refine (implShop_any s _ _ HS.out).mono ?_; rintro e w1 ⟨rfl, hb1⟩)
    go_ret
    exact ⟨by rw [fin.out]; rfl, hb1⟩
  · have fin : Hid (vCart s l = vLines s.length l) := by rw [Hid, vCart, hp, Bool.true_and]
    go_enter Try.func57, Try.ntmps57
    go_wp2_with (first | (go_at_call 84; refine (implShop_any s _ _ HS.out).mono ?_; rintro e w1 ⟨rfl, hb1⟩) | (go_at_call 85; refine (linesOk_any _ l _ _ (HV.out.below hb1 (Nat.le_refl _)) (by omega) (by omega)).mono ?_; rintro e w2 ⟨rfl, hb2⟩))
    go_ret
    exact ⟨by rw [fin.out]; rfl, hb1.trans (hb2.mono hb1.size)⟩

end Go.Proofs.Ytomapdedajdkkab
