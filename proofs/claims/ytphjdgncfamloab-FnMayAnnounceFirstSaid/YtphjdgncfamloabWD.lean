/- Walks: prices on days and lows. Conditions: none. -/
import Derived.Test.YtphjdgncfamloabWB
import Derived.Test.YtphjdgncfamloabPriceFns
namespace Go.Proofs.Ytphjdgncfamloab
open Go.RowKit

theorem pOn_yes {l : List (Int × Int)} {d : Int} {k : Nat} (h : pA l k ≤ d) : pOn l d (k + 1) = pB l k := by rw [pOn, if_pos h]
theorem pOn_no {l : List (Int × Int)} {d : Int} {k : Nat} (h : ¬ pA l k ≤ d) : pOn l d (k + 1) = pOn l d k := by rw [pOn, if_neg h]

set_option maxHeartbeats 1000000 in
theorem specPriceOn_in (l : List (Int × Int)) (v : Value) (d : Int) (w : World) (hv : Rd w 2 v l.length (pr l)) :
    Calls Try.prog 40 #[v, .int .i64 d] w fun e w' => e = .returned (.int .i64 (pDay l d)) ∧ Below w.heap.size w w' := by
  have hm := hv.len
  unfold maxLen at hm
  obtain ⟨ao, cap, rfl, hl, hc, hr⟩ := hv.pairs
  have HR := Lib.hid hr
  clear hr hv hl hc
  go_enter Try.func40, Try.ntmps40
  go_wp2
  go_loopw [5, 6] (fun n i wr => ∃ k : Nat, k ≤ l.length ∧ i = .int .i64 k ∧ n = .int .i64 (pOn l d k) ∧ Below w.heap.size w wr) (fun _ i _ => l.length - (intOf i).toNat)
  case atStart => exact ⟨0, Nat.zero_le _, rfl, rfl, Below.refl _ _⟩
  case round =>
    obtain ⟨k, hk, rfl, rfl, hbl⟩ := hrel
    by_cases hlt : k < l.length
    · obtain ⟨b, off, rfl, hb, hcell⟩ := HR.out (by omega)
      have h0 := (hbl.cell (p := ⟨b, off + k*2, none⟩) hb).trans (hcell k hlt).1
      have h1 := (hbl.cell (p := ⟨b, off + k*2+1, none⟩) hb).trans (hcell k hlt).2
      clear hcell
      by_cases hD : pA l k ≤ d
      · have fin := Lib.hid (pOn_yes hD)
        go_wp2
        go_roundw
        case rel => exact ⟨k+1, by omega, by go_num, by rw [fin.out], hbl⟩
        case measure => simp [intOf]; omega
      · have fin := Lib.hid (pOn_no hD)
        go_wp2
        go_roundw
        case rel => exact ⟨k+1, by omega, by go_num, by rw [fin.out], hbl⟩
        case measure => simp [intOf]; omega
    · obtain rfl : k = l.length := by omega
      go_wp2
      go_ret
      exact ⟨rfl, hbl⟩

set_option maxHeartbeats 2000000 in
theorem implPriceOn_any (l : List (Int × Int)) (v : Value) (d : Int) (w : World) (hv : Rd w 2 v l.length (pr l)) :
    Calls Try.prog 15 #[v, .int .i64 d] w fun e w' => e = .returned (.int .i64 (fPriceOn l d)) ∧ Below w.heap.size w w' := by
  have hm := hv.len
  unfold maxLen at hm
  obtain ⟨ao, cap, rfl, hl, hc, hr⟩ := hv.pairs
  have HR := Lib.hid hr
  have HV := Lib.hid hv
  clear hr hv hl hc
  cases hp : vPrices l
  · have fin : Hid (fPriceOn l d = -1) := by simp [Hid, fPriceOn, hp]
    go_enter Try.func15, Try.ntmps15
    go_wp2_with (go_at_call 20; refine (implValidPrices_any l _ _ HV.out).mono ?_; rintro e w1 ⟨rfl, hb1⟩)
    go_ret
    exact ⟨by rw [fin.out]; rfl, hb1⟩
  · cases hd : wi d 0 999
    · have fin : Hid (fPriceOn l d = -1) := by simp [Hid, fPriceOn, hd]
      go_enter Try.func15, Try.ntmps15
      go_wp2_with (first
        | (go_at_call 20; refine (implValidPrices_any l _ _ HV.out).mono ?_; rintro e w1 ⟨rfl, hb1⟩)
        | (go_at_call 31; refine (within_any _ _ _ _).mono ?_; rintro e w2 ⟨rfl, hw2⟩; subst hw2))
      go_ret
      exact ⟨by rw [fin.out]; rfl, hb1⟩
    · have fin : Hid (fPriceOn l d = pDay l d) := by simp [Hid, fPriceOn, hp, hd]
      go_enter Try.func15, Try.ntmps15
      go_wp2_with (first
        | (go_at_call 20; refine (implValidPrices_any l _ _ HV.out).mono ?_; rintro e w1 ⟨rfl, hb1⟩)
        | (go_at_call 31; refine (within_any _ _ _ _).mono ?_; rintro e w2 ⟨rfl, hw2⟩; subst hw2))
      go_loopw [5, 18] (fun n i wr => ∃ k : Nat, k ≤ l.length ∧ i = .int .i64 k ∧ n = .int .i64 (pOn l d k) ∧ Below w.heap.size w wr) (fun _ i _ => l.length - (intOf i).toNat)
      case atStart => exact ⟨0, Nat.zero_le _, rfl, rfl, hb1⟩
      case round =>
        clear hb1
        obtain ⟨k, hk, rfl, rfl, hbl⟩ := hrel
        by_cases hlt : k < l.length
        · obtain ⟨b, off, rfl, hb, hcell⟩ := HR.out (by omega)
          have h0 := (hbl.cell (p := ⟨b, off + k*2, none⟩) hb).trans (hcell k hlt).1
          have h1 := (hbl.cell (p := ⟨b, off + k*2+1, none⟩) hb).trans (hcell k hlt).2
          clear hcell
          by_cases hD : pA l k ≤ d
          · have fin := Lib.hid (pOn_yes hD)
            go_wp2
            go_roundw
            case rel => exact ⟨k+1, by omega, by go_num, by rw [fin.out], hbl.alloc hbl.size _⟩
            case measure => simp [intOf]; omega
          · have fin := Lib.hid (pOn_no hD)
            go_wp2
            go_roundw
            case rel => exact ⟨k+1, by omega, by go_num, by rw [fin.out], hbl.alloc hbl.size _⟩
            case measure => simp [intOf]; omega
        · obtain rfl : k = l.length := by omega
          go_wp2
          go_ret
          exact ⟨by rw [fin.out]; rfl, hbl⟩

end Go.Proofs.Ytphjdgncfamloab
