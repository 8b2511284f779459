/- Walks: money, and valid bands. Conditions: none. -/
import Derived.Test.YteeehgicegmbjaaWA
import Derived.Test.YteeehgicegmbjaaBandFns
namespace Go.Proofs.Yteeehgicegmbjaa
open Go.RowKit

set_option maxHeartbeats 400000 in
theorem money_any (n : Int) (w : World) :
    Calls Try.prog 40 #[.int .i64 n] w fun e w' => e = .returned (.bool (mny n)) ∧ w' = w := by
  go_enter Try.func40, Try.ntmps40
  go_wp2_with (go_at_call 39; refine (within_any _ _ _ _).mono ?_; rintro e w2 ⟨rfl, hw2⟩; subst hw2)
  go_ret
  exact ⟨rfl, rfl⟩

set_option maxHeartbeats 2000000 in
theorem implValidBands_any (l : List (Int × Int)) (v : Value) (w : World) (hv : Rd w 2 v l.length (pr l)) :
    Calls Try.prog 16 #[v] w fun e w' => e = .returned (.bool (vBands l)) ∧ Below w.heap.size w w' := by
  have hm := hv.len
  unfold maxLen at hm
  obtain ⟨ao, cap, rfl, hl, hc, hr⟩ := hv.pairs
  have HR := Lib.hid hr
  clear hr hv hl hc
  go_enter Try.func16, Try.ntmps16
  go_wp2
  go_loopw [7] (fun i wr => ∃ k : Nat, k ≤ l.length ∧ i = .int .i64 k ∧ Below w.heap.size w wr ∧ Hid (∀ j, j < k → bdOk l j = true)) (fun i _ => l.length - (intOf i).toNat)
  case atStart => exact ⟨0, Nat.zero_le _, rfl, Below.refl _ _, fun j hj => absurd hj (Nat.not_lt_zero _)⟩
  case round =>
    obtain ⟨k, hk, rfl, hbl, hall⟩ := hrel
    by_cases hlt : k < l.length
    · obtain ⟨b, off, rfl, hb, hcell⟩ := HR.out (by omega)
      have HC := Lib.hid hcell
      clear hcell
      have h0 := (hbl.cell (p := ⟨b, off + k*2, none⟩) hb).trans (HC.out k hlt).1
      have h1 := (hbl.cell (p := ⟨b, off + k*2+1, none⟩) hb).trans (HC.out k hlt).2
      have hbw : b < wr.heap.size := Nat.lt_of_lt_of_le hb hbl.size
      cases hA : wi (pA l k) 1 800000
      · have fin := Lib.hid (vBands_bad hlt (bdOk_a hA))
        go_wp2
        go_quiet (first | (go_at_call 39; exact Calls.quiet_of_same (within_any _ _ _ _)) | (go_at_call 40; exact Calls.quiet_of_same (money_any _ _)))
        go_wp2
        go_ret
        exact ⟨by rw [fin.out]; rfl, below_drewN (hbl.alloc hbl.size _) _⟩
      · cases hB : mny (pB l k)
        · have fin := Lib.hid (vBands_bad hlt (bdOk_b hB))
          go_wp2
          go_quiet (first | (go_at_call 39; exact Calls.quiet_of_same (within_any _ _ _ _)) | (go_at_call 40; exact Calls.quiet_of_same (money_any _ _)))
          go_wp2
          go_ret
          exact ⟨by rw [fin.out]; rfl, below_drewN (hbl.alloc hbl.size _) _⟩
        · by_cases hz : 0 < k
          · obtain ⟨j, rfl⟩ : ∃ j, k = j + 1 := ⟨k - 1, by omega⟩
            have g0 := (hbl.cell (p := ⟨b, off + j*2, none⟩) hb).trans (HC.out j (by omega)).1
            have g1 := (hbl.cell (p := ⟨b, off + j*2+1, none⟩) hb).trans (HC.out j (by omega)).2
            have hw : IntKind.i64.wrap (j : Int) = (j : Int) := IntWalk.i64_in _ (by omega)
            have hj : j < l.length := by omega
            by_cases hD : (pA l (j + 1)) ≤ (pA l j)
            · have fin := Lib.hid (vBands_bad hlt (bdOk_c hD))
              go_wp2
              go_quiet (first | (go_at_call 39; exact Calls.quiet_of_same (within_any _ _ _ _)) | (go_at_call 40; exact Calls.quiet_of_same (money_any _ _)))
              go_wp2
              go_ret
              exact ⟨by rw [fin.out]; rfl, below_drewN (hbl.alloc hbl.size _) _⟩
            · by_cases hE : pB l (j + 1) < pB l j
              · have fin := Lib.hid (vBands_bad hlt (bdOk_d hE))
                go_wp2
                go_quiet (first | (go_at_call 39; exact Calls.quiet_of_same (within_any _ _ _ _)) | (go_at_call 40; exact Calls.quiet_of_same (money_any _ _)))
                go_wp2
                go_ret
                exact ⟨by rw [fin.out]; rfl, below_drewN (hbl.alloc hbl.size _) _⟩
              · have fin := Lib.hid (bdOk_s hA hB hD hE)
                go_wp2
                go_quiet (first | (go_at_call 39; exact Calls.quiet_of_same (within_any _ _ _ _)) | (go_at_call 40; exact Calls.quiet_of_same (money_any _ _)))
                go_wp2
                go_roundw
                case rel => exact ⟨j+1+1, by omega, by go_num, below_drewN (hbl.alloc hbl.size _) _, all_snoc hall.out fin.out⟩
                case measure => simp [intOf]; omega
          · have fin := Lib.hid (bdOk_0 hz hA hB)
            go_wp2
            go_quiet (first | (go_at_call 39; exact Calls.quiet_of_same (within_any _ _ _ _)) | (go_at_call 40; exact Calls.quiet_of_same (money_any _ _)))
            go_wp2
            go_roundw
            case rel => exact ⟨k+1, by omega, by go_num, below_drewN (hbl.alloc hbl.size _) _, all_snoc hall.out fin.out⟩
            case measure => simp [intOf]; omega
    · have fin := Lib.hid (vBands_end (l := l) fun j hj => hall.out j (by omega))
      go_wp2_with (go_at_call 39; refine (within_any _ _ _ _).mono ?_; rintro e w2 ⟨rfl, hw2⟩; subst hw2)
      go_ret
      exact ⟨by rw [fin.out]; rfl, hbl⟩

set_option maxHeartbeats 2000000 in
theorem specValidBands_in (l : List (Int × Int)) (v : Value) (w : World) (hv : Rd w 2 v l.length (pr l)) :
    Calls Try.prog 41 #[v] w fun e w' => e = .returned (.bool (vBands l)) ∧ Below w.heap.size w w' := by
  have hm := hv.len
  unfold maxLen at hm
  obtain ⟨ao, cap, rfl, hl, hc, hr⟩ := hv.pairs
  have HR := Lib.hid hr
  clear hr hv hl hc
  go_enter Try.func41, Try.ntmps41
  go_wp2
  go_loopw [3] (fun i wr => ∃ k : Nat, k ≤ l.length ∧ i = .int .i64 k ∧ Below w.heap.size w wr ∧ Hid (∀ j, j < k → bdOk l j = true)) (fun i _ => l.length - (intOf i).toNat)
  case atStart => exact ⟨0, Nat.zero_le _, rfl, Below.refl _ _, fun j hj => absurd hj (Nat.not_lt_zero _)⟩
  case round =>
    obtain ⟨k, hk, rfl, hbl, hall⟩ := hrel
    by_cases hlt : k < l.length
    · obtain ⟨b, off, rfl, hb, hcell⟩ := HR.out (by omega)
      have HC := Lib.hid hcell
      clear hcell
      have h0 := (hbl.cell (p := ⟨b, off + k*2, none⟩) hb).trans (HC.out k hlt).1
      have h1 := (hbl.cell (p := ⟨b, off + k*2+1, none⟩) hb).trans (HC.out k hlt).2
      have hbw : b < wr.heap.size := Nat.lt_of_lt_of_le hb hbl.size
      cases hA : wi (pA l k) 1 800000
      · have fin := Lib.hid (vBands_bad hlt (bdOk_a hA))
        go_wp2
        go_quiet ((go_at_call 46; exact Calls.quiet_of_same (inRange_any _ _ _ _)))
        go_wp2
        go_ret
        exact ⟨by rw [fin.out]; rfl, below_drewN hbl _⟩
      · cases hB : wi (pB l k) 0 1000000
        · have fin := Lib.hid (vBands_bad hlt (bdOk_b hB))
          go_wp2
          go_quiet ((go_at_call 46; exact Calls.quiet_of_same (inRange_any _ _ _ _)))
          go_wp2
          go_ret
          exact ⟨by rw [fin.out]; rfl, below_drewN hbl _⟩
        · by_cases hz : 0 < k
          · obtain ⟨j, rfl⟩ : ∃ j, k = j + 1 := ⟨k - 1, by omega⟩
            have g0 := (hbl.cell (p := ⟨b, off + j*2, none⟩) hb).trans (HC.out j (by omega)).1
            have g1 := (hbl.cell (p := ⟨b, off + j*2+1, none⟩) hb).trans (HC.out j (by omega)).2
            have hw : IntKind.i64.wrap (j : Int) = (j : Int) := IntWalk.i64_in _ (by omega)
            have hj : j < l.length := by omega
            by_cases hD : (pA l (j + 1)) ≤ (pA l j)
            · have fin := Lib.hid (vBands_bad hlt (bdOk_c hD))
              go_wp2
              go_quiet ((go_at_call 46; exact Calls.quiet_of_same (inRange_any _ _ _ _)))
              go_wp2
              go_ret
              exact ⟨by rw [fin.out]; rfl, below_drewN hbl _⟩
            · have hDb : decide (pA l (j + 1) ≤ pA l j) = false := by simpa using hD
              by_cases hE : pB l (j + 1) < pB l j
              · have fin := Lib.hid (vBands_bad hlt (bdOk_d hE))
                go_wp2
                go_quiet ((go_at_call 46; exact Calls.quiet_of_same (inRange_any _ _ _ _)))
                go_wp2
                go_ret
                exact ⟨by rw [fin.out]; rfl, below_drewN hbl _⟩
              · have fin := Lib.hid (bdOk_s hA hB hD hE)
                go_wp2
                go_quiet ((go_at_call 46; exact Calls.quiet_of_same (inRange_any _ _ _ _)))
                go_wp2
                go_roundw
                case rel => exact ⟨j+1+1, by omega, by go_num, below_drewN hbl _, all_snoc hall.out fin.out⟩
                case measure => simp [intOf]; omega
          · have fin := Lib.hid (bdOk_0 hz hA hB)
            go_wp2
            go_quiet ((go_at_call 46; exact Calls.quiet_of_same (inRange_any _ _ _ _)))
            go_wp2
            go_roundw
            case rel => exact ⟨k+1, by omega, by go_num, below_drewN hbl _, all_snoc hall.out fin.out⟩
            case measure => simp [intOf]; omega
    · have fin := Lib.hid (vBands_end (l := l) fun j hj => hall.out j (by omega))
      go_wp2_with (go_at_call 46; refine (inRange_any _ _ _ _).mono ?_; rintro e w2 ⟨rfl, hw2⟩; subst hw2)
      go_ret
      exact ⟨by rw [fin.out]; rfl, hbl⟩

set_option maxHeartbeats 400000 in
theorem specValidBands_any (l : List (Int × Int)) (v : Value) (w : World) (hv : Rd w 2 v l.length (pr l)) :
    Calls Try.prog 17 #[v] w fun e w' => e = .returned (.bool (vBands l)) ∧ Below w.heap.size w w' := by
  have HV := Lib.hid hv
  clear hv
  go_enter Try.func17, Try.ntmps17
  go_wp2_with (go_at_call 41; refine (specValidBands_in l _ _ HV.out).mono ?_; rintro e w1 ⟨rfl, hb1⟩)
  go_ret
  exact ⟨rfl, hb1⟩

end Go.Proofs.Yteeehgicegmbjaa
