/- Walks: valid stocks. Conditions: none. -/
import Derived.Test.YtomapdedajdkkabCA
import Derived.Test.YtomapdedajdkkabStkFns
namespace Go.Proofs.Ytomapdedajdkkab
open Go.RowKit

set_option maxHeartbeats 2000000 in
theorem implStock_any (l : List (Int × Int)) (v : Value) (w : World) (hv : Rd w 2 v l.length (pr l)) :
    Calls Try.prog 88 #[v] w fun e w' => e = .returned (.bool (vStock l)) ∧ Below w.heap.size w w' := by
  have hm := hv.len
  unfold maxLen at hm
  obtain ⟨ao, cap, rfl, hl, hc, hr⟩ := hv.pairs
  have HR := Lib.hid hr
  clear hr hv hl hc
  go_enter Try.func88, Try.ntmps88
  go_wp2
  go_loopw [7] (fun i wr => ∃ k : Nat, k ≤ l.length ∧ i = .int .i64 k ∧ Below w.heap.size w wr ∧ Hid (∀ j, j < k → stOk l j = true)) (fun i _ => l.length - (intOf i).toNat)
  case atStart => exact ⟨0, Nat.zero_le _, rfl, Below.refl _ _, fun j hj => absurd hj (Nat.not_lt_zero _)⟩
  case round =>
    obtain ⟨k, hk, rfl, hbl, hall⟩ := hrel
    by_cases hlt : k < l.length
    · obtain ⟨b, off, rfl, hb, hcell⟩ := HR.out (by omega)
      have h0 := (hbl.cell (p := ⟨b, off + k*2, none⟩) hb).trans (hcell k hlt).1
      have h1 := (hbl.cell (p := ⟨b, off + k*2+1, none⟩) hb).trans (hcell k hlt).2
      have hbw : b < wr.heap.size := Nat.lt_of_lt_of_le hb hbl.size
      clear hcell
      cases hA : wi (pA l k) 0 100
      · have fin := Lib.hid (vStock_bad hlt (stOk_a hA))
        go_wp2_with (go_at_call 89; refine (within_any _ _ _ _).mono ?_; rintro e w2 ⟨rfl, hw2⟩; subst hw2)
        go_ret
        exact ⟨by rw [fin.out]; rfl, hbl.alloc hbl.size _⟩
      cases hB : wi (pB l k) 0 100
      · have fin := Lib.hid (vStock_bad hlt (stOk_b hB))
        go_wp2_with (go_at_call 89; refine (within_any _ _ _ _).mono ?_; rintro e w2 ⟨rfl, hw2⟩; subst hw2)
        go_ret
        exact ⟨by rw [fin.out]; rfl, hbl.alloc hbl.size _⟩
      have fin := Lib.hid (stOk_y hA hB)
      go_wp2_with (go_at_call 89; refine (within_any _ _ _ _).mono ?_; rintro e w2 ⟨rfl, hw2⟩; subst hw2)
      go_roundw
      case rel => exact ⟨k+1, by omega, by go_num, hbl.alloc hbl.size _, all_snoc hall.out fin.out⟩
      case measure => simp [intOf]; omega
    · have fin := Lib.hid (vStock_end (l := l) fun j hj => hall.out j (by omega))
      go_wp2_with (go_at_call 89; refine (within_any _ _ _ _).mono ?_; rintro e w2 ⟨rfl, hw2⟩; subst hw2)
      go_ret
      exact ⟨by rw [fin.out]; rfl, hbl⟩

set_option maxHeartbeats 2000000 in
theorem specStock_in (l : List (Int × Int)) (v : Value) (w : World) (hv : Rd w 2 v l.length (pr l)) :
    Calls Try.prog 70 #[v] w fun e w' => e = .returned (.bool (vStock l)) ∧ Below w.heap.size w w' := by
  have hm := hv.len
  unfold maxLen at hm
  obtain ⟨ao, cap, rfl, hl, hc, hr⟩ := hv.pairs
  have HR := Lib.hid hr
  clear hr hv hl hc
  go_enter Try.func70, Try.ntmps70
  go_wp2
  go_loopw [3] (fun i wr => ∃ k : Nat, k ≤ l.length ∧ i = .int .i64 k ∧ Below w.heap.size w wr ∧ Hid (∀ j, j < k → stOk l j = true)) (fun i _ => l.length - (intOf i).toNat)
  case atStart => exact ⟨0, Nat.zero_le _, rfl, Below.refl _ _, fun j hj => absurd hj (Nat.not_lt_zero _)⟩
  case round =>
    obtain ⟨k, hk, rfl, hbl, hall⟩ := hrel
    by_cases hlt : k < l.length
    · obtain ⟨b, off, rfl, hb, hcell⟩ := HR.out (by omega)
      have h0 := (hbl.cell (p := ⟨b, off + k*2, none⟩) hb).trans (hcell k hlt).1
      have h1 := (hbl.cell (p := ⟨b, off + k*2+1, none⟩) hb).trans (hcell k hlt).2
      have hbw : b < wr.heap.size := Nat.lt_of_lt_of_le hb hbl.size
      clear hcell
      cases hA : wi (pA l k) 0 100
      · have fin := Lib.hid (vStock_bad hlt (stOk_a hA))
        go_wp2_with (go_at_call 76; refine (inRange_any _ _ _ _).mono ?_; rintro e w2 ⟨rfl, hw2⟩; subst hw2)
        go_ret
        exact ⟨by rw [fin.out]; rfl, hbl⟩
      cases hB : wi (pB l k) 0 100
      · have fin := Lib.hid (vStock_bad hlt (stOk_b hB))
        go_wp2_with (go_at_call 76; refine (inRange_any _ _ _ _).mono ?_; rintro e w2 ⟨rfl, hw2⟩; subst hw2)
        go_ret
        exact ⟨by rw [fin.out]; rfl, hbl⟩
      have fin := Lib.hid (stOk_y hA hB)
      go_wp2_with (go_at_call 76; refine (inRange_any _ _ _ _).mono ?_; rintro e w2 ⟨rfl, hw2⟩; subst hw2)
      go_roundw
      case rel => exact ⟨k+1, by omega, by go_num, hbl, all_snoc hall.out fin.out⟩
      case measure => simp [intOf]; omega
    · have fin := Lib.hid (vStock_end (l := l) fun j hj => hall.out j (by omega))
      go_wp2_with (go_at_call 76; refine (inRange_any _ _ _ _).mono ?_; rintro e w2 ⟨rfl, hw2⟩; subst hw2)
      go_ret
      exact ⟨by rw [fin.out]; rfl, hbl⟩

set_option maxHeartbeats 8000000 in
theorem fits_in (so : Option Addr) (n cap0 : Nat) (l : List (Int × Int)) (v : Value) (w : World) (hv : Rd w 2 v l.length (pr l)) (hn : n ≤ 9223372036854775807) :
    Calls Try.prog 71 #[.slice so n cap0, v] w fun e w' => e = .returned (.bool (vLines (n : Int) l)) ∧ Below w.heap.size w w' := by
  have hm := hv.len
  unfold maxLen at hm
  obtain ⟨ao, cap, rfl, hl, hc, hr⟩ := hv.pairs
  have HR := Lib.hid hr
  clear hr hv hl hc
  have hw0 : IntKind.i64.wrap ((n : Int) - 1) = (n : Int) - 1 := IntWalk.i64_in _ (by omega)
  go_enter Try.func71, Try.ntmps71
  go_wp2
  go_loopw [5] (fun i wr => ∃ k : Nat, k ≤ l.length ∧ i = .int .i64 k ∧ Below w.heap.size w wr ∧ Hid (∀ j, j < k → lnOk (n : Int) l j = true)) (fun i _ => l.length - (intOf i).toNat)
  case atStart => exact ⟨0, Nat.zero_le _, rfl, Below.refl _ _, fun j hj => absurd hj (Nat.not_lt_zero _)⟩
  case round =>
    obtain ⟨k, hk, rfl, hbl, hall⟩ := hrel
    by_cases hlt : k < l.length
    · obtain ⟨b, off, rfl, hb, hcell⟩ := HR.out (by omega)
      have HC := Lib.hid hcell
      clear hcell
      have h0 := (hbl.cell (p := ⟨b, off + k*2, none⟩) hb).trans (HC.out k hlt).1
      have h1 := (hbl.cell (p := ⟨b, off + k*2+1, none⟩) hb).trans (HC.out k hlt).2
      have hbw : b < wr.heap.size := Nat.lt_of_lt_of_le hb hbl.size
      cases hA : wi (pA l k) 0 ((n : Int) - 1)
      · have fin := Lib.hid (vLines_bad (n := (n : Int)) hlt (lnOk_a hA))
        go_wp2
        go_quiet ((go_at_call 76; exact Calls.quiet_of_same (inRange_any _ _ _ _)))
        go_wp2
        go_ret
        exact ⟨by rw [fin.out]; rfl, below_drewN hbl _⟩
      · cases hB : wi (pB l k) 1 20
        · have fin := Lib.hid (vLines_bad (n := (n : Int)) hlt (lnOk_b hB))
          go_wp2
          go_quiet ((go_at_call 76; exact Calls.quiet_of_same (inRange_any _ _ _ _)))
          go_wp2
          go_ret
          exact ⟨by rw [fin.out]; rfl, below_drewN hbl _⟩
        · by_cases hz : 0 < k
          · obtain ⟨j, rfl⟩ : ∃ j, k = j + 1 := ⟨k - 1, by omega⟩
            have g0 := (hbl.cell (p := ⟨b, off + j*2, none⟩) hb).trans (HC.out j (by omega)).1
            have hw : IntKind.i64.wrap (j : Int) = (j : Int) := IntWalk.i64_in _ (by omega)
            have hj : j < l.length := by omega
            by_cases hD : (pA l (j + 1)) ≤ (pA l j)
            · have fin := Lib.hid (vLines_bad (n := (n : Int)) hlt (lnOk_c hD))
              go_wp2
              go_quiet ((go_at_call 76; exact Calls.quiet_of_same (inRange_any _ _ _ _)))
              go_wp2
              go_ret
              exact ⟨by rw [fin.out]; rfl, below_drewN hbl _⟩
            · have fin := Lib.hid (lnOk_s hA hB hD)
              go_wp2
              go_quiet ((go_at_call 76; exact Calls.quiet_of_same (inRange_any _ _ _ _)))
              go_wp2
              go_roundw
              case rel => exact ⟨j+1+1, by omega, by go_num, below_drewN hbl _, all_snoc hall.out fin.out⟩
              case measure => simp [intOf]; omega
          · have fin := Lib.hid (lnOk_0 hz hA hB)
            go_wp2
            go_quiet ((go_at_call 76; exact Calls.quiet_of_same (inRange_any _ _ _ _)))
            go_wp2
            go_roundw
            case rel => exact ⟨k+1, by omega, by go_num, below_drewN hbl _, all_snoc hall.out fin.out⟩
            case measure => simp [intOf]; omega
    · have fin := Lib.hid (vLines_end (n := (n : Int)) (l := l) fun j hj => hall.out j (by omega))
      go_wp2
      go_ret
      exact ⟨by rw [fin.out]; rfl, hbl⟩

end Go.Proofs.Ytomapdedajdkkab
