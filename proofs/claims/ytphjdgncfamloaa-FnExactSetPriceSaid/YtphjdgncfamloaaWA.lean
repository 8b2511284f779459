/- Walks: ranges and valid histories. Conditions: none. -/
import Derived.Test.YtphjdgncfamloaaRows
import Derived.Test.YtphjdgncfamloaaPure
import Derived.Deep.QuietTactic
import Derived.BigQuiet
import Derived.Handy
namespace Go.Proofs.Ytphjdgncfamloaa
open Go.RowKit

set_option maxHeartbeats 400000 in
theorem within_any (n lo hi : Int) (w : World) :
    Calls Try.prog 35 #[.int .i64 n, .int .i64 lo, .int .i64 hi] w fun e w' => e = .returned (.bool (wi n lo hi)) ∧ w' = w := by
  go_enter Try.func35, Try.ntmps35
  go_wp2
  all_goals go_ret
  · have h : lo ≤ n := by assumption
    exact ⟨by simp [wi, h], rfl⟩
  · have h : n < lo := by assumption
    exact ⟨by simp [wi, show ¬ lo ≤ n by omega], rfl⟩

set_option maxHeartbeats 400000 in
theorem inRange_any (n lo hi : Int) (w : World) :
    Calls Try.prog 39 #[.int .i64 n, .int .i64 lo, .int .i64 hi] w fun e w' => e = .returned (.bool (wi n lo hi)) ∧ w' = w := by
  go_enter Try.func39, Try.ntmps39
  go_wp2
  all_goals go_ret
  · have h : lo ≤ n := by assumption
    exact ⟨by simp [wi, h], rfl⟩
  · have h : n < lo := by assumption
    exact ⟨by simp [wi, show ¬ lo ≤ n by omega], rfl⟩

set_option maxHeartbeats 1000000 in
theorem implValidPrices_any (l : List (Int × Int)) (v : Value) (w : World) (hv : Rd w 2 v l.length (pr l)) :
    Calls Try.prog 14 #[v] w fun e w' => e = .returned (.bool (vPrices l)) ∧ Below w.heap.size w w' := by
  have hm := hv.len
  unfold maxLen at hm
  obtain ⟨ao, cap, rfl, hl, hc, hr⟩ := hv.pairs
  have HR := Lib.hid hr
  clear hr hv hl hc
  go_enter Try.func14, Try.ntmps14
  go_wp2
  go_loopw [7] (fun i wr => ∃ k : Nat, k ≤ l.length ∧ i = .int .i64 k ∧ Below w.heap.size w wr ∧ Hid (∀ j, j < k → chOk l j = true)) (fun i _ => l.length - (intOf i).toNat)
  case atStart => exact ⟨0, Nat.zero_le _, rfl, Below.refl _ _, fun j hj => absurd hj (Nat.not_lt_zero _)⟩
  case round =>
    obtain ⟨k, hk, rfl, hbl, hall⟩ := hrel
    by_cases hlt : k < l.length
    · obtain ⟨b, off, rfl, hb, hcell⟩ := HR.out (by omega)
      have HC := Lib.hid hcell
      clear hcell
      have h0 := (hbl.cell (p := ⟨b, off + k*2, none⟩) hb).trans (HC.out k hlt).1
      have h1 := (hbl.cell (p := ⟨b, off + k*2+1, none⟩) hb).trans (HC.out k hlt).2
      have hbw : b < wr.heap.size := Nat.lt_of_lt_of_le hb hbl.size
      cases hA : wi (pA l k) 0 999
      · have fin := Lib.hid (vPrices_bad hlt (chOk_a hA))
        go_wp2
        go_quiet ((go_at_call 35; exact Calls.quiet_of_same (within_any _ _ _ _)))
        go_wp2
        go_ret
        exact ⟨by rw [fin.out]; rfl, below_drewN (hbl.alloc hbl.size _) _⟩
      · cases hB : wi (pB l k) 1 5000
        · have fin := Lib.hid (vPrices_bad hlt (chOk_b hB))
          go_wp2
          go_quiet ((go_at_call 35; exact Calls.quiet_of_same (within_any _ _ _ _)))
          go_wp2
          go_ret
          exact ⟨by rw [fin.out]; rfl, below_drewN (hbl.alloc hbl.size _) _⟩
        · by_cases hz : 0 < k
          · obtain ⟨j, rfl⟩ : ∃ j, k = j + 1 := ⟨k - 1, by omega⟩
            have g0 := (hbl.cell (p := ⟨b, off + j*2, none⟩) hb).trans (HC.out j (by omega)).1
            have hw : IntKind.i64.wrap (j : Int) = (j : Int) := IntWalk.i64_in _ (by omega)
            have hj : j < l.length := by omega
            by_cases hD : (pA l (j + 1)) ≤ (pA l j)
            · have fin := Lib.hid (vPrices_bad hlt (chOk_c hD))
              go_wp2
              go_quiet ((go_at_call 35; exact Calls.quiet_of_same (within_any _ _ _ _)))
              go_wp2
              go_ret
              exact ⟨by rw [fin.out]; rfl, below_drewN (hbl.alloc hbl.size _) _⟩
            · have fin := Lib.hid (chOk_s hA hB (by omega))
              go_wp2
              go_quiet ((go_at_call 35; exact Calls.quiet_of_same (within_any _ _ _ _)))
              go_wp2
              go_roundw
              case rel => exact ⟨j+1+1, by omega, by go_num, below_drewN (hbl.alloc hbl.size _) _, all_snoc hall.out fin.out⟩
              case measure => simp [intOf]; omega
          · have fin := Lib.hid (chOk_0 hz hA hB)
            go_wp2
            go_quiet ((go_at_call 35; exact Calls.quiet_of_same (within_any _ _ _ _)))
            go_wp2
            go_roundw
            case rel => exact ⟨k+1, by omega, by go_num, below_drewN (hbl.alloc hbl.size _) _, all_snoc hall.out fin.out⟩
            case measure => simp [intOf]; omega
    · have fin := Lib.hid (vPrices_end (l := l) fun j hj => hall.out j (by omega))
      go_wp2
      go_ret
      exact ⟨by rw [fin.out]; rfl, hbl⟩

end Go.Proofs.Ytphjdgncfamloaa
