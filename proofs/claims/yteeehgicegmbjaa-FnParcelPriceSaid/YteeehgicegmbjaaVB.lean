/- Walks: parcels and shipping. Conditions: none. -/
import Derived.Test.YteeehgicegmbjaaVA
namespace Go.Proofs.Yteeehgicegmbjaa
open Go.RowKit

set_option maxHeartbeats 1000000 in
theorem specParcel_in (l : List (Int × Int)) (v : Value) (x : Int) (w : World) (hv : Rd w 2 v l.length (pr l)) :
    Calls Try.prog 44 #[v, .int .i64 x] w fun e w' => e = .returned (.int .i64 (pcl l x)) ∧ Below w.heap.size w w' := by
  have hm := hv.len
  unfold maxLen at hm
  obtain ⟨ao, cap, rfl, hl, hc, hr⟩ := hv.pairs
  have HR := Lib.hid hr
  clear hr hv hl hc
  go_enter Try.func44, Try.ntmps44
  go_wp2
  go_loopw [5] (fun i wr => ∃ k : Nat, k ≤ l.length ∧ i = .int .i64 k ∧ Below w.heap.size w wr ∧ Hid (∀ j, j < k → pA l j < x)) (fun i _ => l.length - (intOf i).toNat)
  case atStart => exact ⟨0, Nat.zero_le _, rfl, Below.refl _ _, fun j hj => absurd hj (Nat.not_lt_zero _)⟩
  case round =>
    skip
    obtain ⟨k, hk, rfl, hbl, hall⟩ := hrel
    by_cases hlt : k < l.length
    · obtain ⟨b, off, rfl, hb, hcell⟩ := HR.out (by omega)
      have h0 := (hbl.cell (p := ⟨b, off + k*2, none⟩) hb).trans (hcell k hlt).1
      have h1 := (hbl.cell (p := ⟨b, off + k*2+1, none⟩) hb).trans (hcell k hlt).2
      clear hcell
      by_cases hD : x ≤ pA l k
      · have fin := Lib.hid (pcl_hit hlt hall.out hD)
        go_wp2
        go_ret
        exact ⟨by rw [fin.out]; rfl, hbl⟩
      · have hD2 : pA l k < x := by omega
        clear hD
        go_wp2
        go_roundw
        case rel => exact ⟨k+1, by omega, by go_num, hbl, all_snoc hall.out hD2⟩
        case measure => simp [intOf]; omega
    · obtain rfl : k = l.length := by omega
      have fin := Lib.hid (pcl_none hall.out)
      go_wp2
      go_ret
      exact ⟨by rw [fin.out]; rfl, hbl⟩

set_option maxHeartbeats 1000000 in
theorem specParcelPrice_any (l : List (Int × Int)) (v : Value) (x : Int) (w : World) (hv : Rd w 2 v l.length (pr l)) :
    Calls Try.prog 21 #[v, .int .i64 x] w fun e w' => e = .returned (.int .i64 (fParcel l x)) ∧ Below w.heap.size w w' := by
  have HV := Lib.hid hv
  clear hv
  cases hp : vBands l
  · have fin := Lib.hid (fParcel_v (w := x) hp)
    go_enter Try.func21, Try.ntmps21
    go_wp2_with (go_at_call 41; refine (specValidBands_in l _ _ HV.out).mono ?_; rintro e w1 ⟨rfl, hb1⟩)
    go_ret
    exact ⟨by rw [fin.out]; rfl, hb1⟩
  · by_cases hx : x < 0
    · have fin := Lib.hid (fParcel_w (l := l) hx)
      go_enter Try.func21, Try.ntmps21
      go_wp2_with (go_at_call 41; refine (specValidBands_in l _ _ HV.out).mono ?_; rintro e w1 ⟨rfl, hb1⟩)
      go_ret
      exact ⟨by rw [fin.out]; rfl, hb1⟩
    · have fin := Lib.hid (fParcel_in (w := x) hp (by omega))
      have hx0 : 0 ≤ x := by omega
      go_enter Try.func21, Try.ntmps21
      go_wp2_with (first | (go_at_call 41; refine (specValidBands_in l _ _ HV.out).mono ?_; rintro e w1 ⟨rfl, hb1⟩) | (go_at_call 44; refine (specParcel_in l _ _ _ (HV.out.below hb1 (Nat.le_refl _))).mono ?_; rintro e w2 ⟨rfl, hb2⟩))
      go_ret
      exact ⟨by rw [fin.out]; rfl, hb1.trans (hb2.mono hb1.size)⟩

set_option maxHeartbeats 1000000 in
theorem implParcelPrice_any (l : List (Int × Int)) (v : Value) (x : Int) (w : World) (hv : Rd w 2 v l.length (pr l)) :
    Calls Try.prog 22 #[v, .int .i64 x] w fun e w' => e = .returned (.int .i64 (fParcel l x)) ∧ Below w.heap.size w w' := by
  have HV := Lib.hid hv
  have hm := hv.len
  unfold maxLen at hm
  obtain ⟨ao, cap, rfl, hl, hc, hr⟩ := hv.pairs
  have HR := Lib.hid hr
  clear hr hv hl hc
  cases hp : vBands l
  · have fin := Lib.hid (fParcel_v (w := x) hp)
    go_enter Try.func22, Try.ntmps22
    go_wp2_with (go_at_call 16; refine (implValidBands_any l _ _ HV.out).mono ?_; rintro e w1 ⟨rfl, hb1⟩)
    go_ret
    exact ⟨by rw [fin.out]; rfl, hb1⟩
  · by_cases hx : x < 0
    · have fin := Lib.hid (fParcel_w (l := l) hx)
      go_enter Try.func22, Try.ntmps22
      go_wp2_with (go_at_call 16; refine (implValidBands_any l _ _ HV.out).mono ?_; rintro e w1 ⟨rfl, hb1⟩)
      go_ret
      exact ⟨by rw [fin.out]; rfl, hb1⟩
    · have finB := Lib.hid (fParcel_in (w := x) hp (by omega))
      have hx0 : 0 ≤ x := by omega
      go_enter Try.func22, Try.ntmps22
      go_wp2_with (go_at_call 16; refine (implValidBands_any l _ _ HV.out).mono ?_; rintro e w1 ⟨rfl, hb1⟩)
      go_loopw [16] (fun i wr => ∃ k : Nat, k ≤ l.length ∧ i = .int .i64 k ∧ Below w.heap.size w wr ∧ Hid (∀ j, j < k → pA l j < x)) (fun i _ => l.length - (intOf i).toNat)
      case atStart => exact ⟨0, Nat.zero_le _, rfl, hb1, fun j hj => absurd hj (Nat.not_lt_zero _)⟩
      case round =>
        clear hb1
        obtain ⟨k, hk, rfl, hbl, hall⟩ := hrel
        by_cases hlt : k < l.length
        · obtain ⟨b, off, rfl, hb, hcell⟩ := HR.out (by omega)
          have h0 := (hbl.cell (p := ⟨b, off + k*2, none⟩) hb).trans (hcell k hlt).1
          have h1 := (hbl.cell (p := ⟨b, off + k*2+1, none⟩) hb).trans (hcell k hlt).2
          clear hcell
          by_cases hD : x ≤ pA l k
          · have fin := Lib.hid (pcl_hit hlt hall.out hD)
            go_wp2
            go_ret
            exact ⟨by rw [finB.out, fin.out]; rfl, hbl.alloc hbl.size _⟩
          · have hD2 : pA l k < x := by omega
            clear hD
            go_wp2
            go_roundw
            case rel => exact ⟨k+1, by omega, by go_num, hbl.alloc hbl.size _, all_snoc hall.out hD2⟩
            case measure => simp [intOf]; omega
        · obtain rfl : k = l.length := by omega
          have fin := Lib.hid (pcl_none hall.out)
          go_wp2
          go_ret
          exact ⟨by rw [finB.out, fin.out]; rfl, hbl⟩

theorem sh_yes {l : List (Int × Int)} {x a m : Int} (h1 : vBands l = true) (h2 : wi x 0 800000 = true) (h3 : mny a = true) (h4 : mny m = true) (h5 : 0 < pcl l x) (h6 : m ≤ a) : fShip l x a m = 0 := by rw [fShip_in h1 h2 h3 h4, if_pos ⟨h5, h6⟩]
theorem sh_no {l : List (Int × Int)} {x a m : Int} (h1 : vBands l = true) (h2 : wi x 0 800000 = true) (h3 : mny a = true) (h4 : mny m = true) (h5 : ¬ (0 < pcl l x ∧ m ≤ a)) : fShip l x a m = pcl l x := by rw [fShip_in h1 h2 h3 h4, if_neg h5]
theorem shp_yes {l : List (Int × Int)} {x a m : Int} (h2 : wi x 0 800000 = true) (h3 : mny a = true) (h4 : mny m = true) (h5 : 0 ≤ fParcel l x) (h6 : m ≤ a) : fShip l x a m = 0 := by rw [fShip_prog h2 h3 h4, if_pos ⟨h5, h6⟩]
theorem shp_no {l : List (Int × Int)} {x a m : Int} (h2 : wi x 0 800000 = true) (h3 : mny a = true) (h4 : mny m = true) (h5 : ¬ (0 ≤ fParcel l x ∧ m ≤ a)) : fShip l x a m = fParcel l x := by rw [fShip_prog h2 h3 h4, if_neg h5]

set_option maxHeartbeats 2000000 in
theorem specShip_any (l : List (Int × Int)) (v : Value) (x a m : Int) (w : World) (hv : Rd w 2 v l.length (pr l)) :
    Calls Try.prog 24 #[v, .int .i64 x, .int .i64 a, .int .i64 m] w fun e w' => e = .returned (.int .i64 (fShip l x a m)) ∧ Below w.heap.size w w' := by
  have HV := Lib.hid hv
  clear hv
  cases h1 : vBands l
  · have fin := Lib.hid (fShip_v (w := x) (a := a) (m := m) h1)
    go_enter Try.func24, Try.ntmps24
    go_wp2_with (go_at_call 41; refine (specValidBands_in l _ _ HV.out).mono ?_; rintro e w1 ⟨rfl, hb1⟩)
    go_ret
    exact ⟨by rw [fin.out]; rfl, hb1⟩
  cases h2 : wi x 0 800000
  · have fin := Lib.hid (fShip_w (l := l) (a := a) (m := m) h2)
    go_enter Try.func24, Try.ntmps24
    go_wp2_with (first | (go_at_call 41; refine (specValidBands_in l _ _ HV.out).mono ?_; rintro e w1 ⟨rfl, hb1⟩) | (go_at_call 46; refine (inRange_any _ _ _ _).mono ?_; rintro e w2 ⟨rfl, hw2⟩; subst hw2))
    go_ret
    exact ⟨by rw [fin.out]; rfl, hb1⟩
  cases h3 : wi a 0 1000000
  · have fin := Lib.hid (fShip_a (l := l) (w := x) (a := a) (m := m) h3)
    go_enter Try.func24, Try.ntmps24
    go_wp2_with (first | (go_at_call 41; refine (specValidBands_in l _ _ HV.out).mono ?_; rintro e w1 ⟨rfl, hb1⟩) | (go_at_call 46; refine (inRange_any _ _ _ _).mono ?_; rintro e w2 ⟨rfl, hw2⟩; subst hw2))
    go_ret
    exact ⟨by rw [fin.out]; rfl, hb1⟩
  cases h4 : wi m 0 1000000
  · have fin := Lib.hid (fShip_m (l := l) (w := x) (a := a) (m := m) h4)
    go_enter Try.func24, Try.ntmps24
    go_wp2_with (first | (go_at_call 41; refine (specValidBands_in l _ _ HV.out).mono ?_; rintro e w1 ⟨rfl, hb1⟩) | (go_at_call 46; refine (inRange_any _ _ _ _).mono ?_; rintro e w2 ⟨rfl, hw2⟩; subst hw2))
    go_ret
    exact ⟨by rw [fin.out]; rfl, hb1⟩
  by_cases h5 : 0 < pcl l x
  · by_cases h6 : m ≤ a
    · have fin := Lib.hid (sh_yes h1 h2 h3 h4 h5 h6)
      go_enter Try.func24, Try.ntmps24
      go_wp2_with (first | (go_at_call 41; refine (specValidBands_in l _ _ HV.out).mono ?_; rintro e w1 ⟨rfl, hb1⟩) | (go_at_call 46; refine (inRange_any _ _ _ _).mono ?_; rintro e w2 ⟨rfl, hw2⟩; subst hw2) | (go_at_call 44; refine (specParcel_in l _ _ _ (HV.out.below hb1 (Nat.le_refl _))).mono ?_; rintro e w3 ⟨rfl, hb3⟩))
      go_ret
      exact ⟨by rw [fin.out]; rfl, hb1.trans (hb3.mono hb1.size)⟩
    · have fin := Lib.hid (sh_no h1 h2 h3 h4 (fun h => h6 h.2))
      go_enter Try.func24, Try.ntmps24
      go_wp2_with (first | (go_at_call 41; refine (specValidBands_in l _ _ HV.out).mono ?_; rintro e w1 ⟨rfl, hb1⟩) | (go_at_call 46; refine (inRange_any _ _ _ _).mono ?_; rintro e w2 ⟨rfl, hw2⟩; subst hw2) | (go_at_call 44; refine (specParcel_in l _ _ _ (HV.out.below hb1 (Nat.le_refl _))).mono ?_; rintro e w3 ⟨rfl, hb3⟩))
      go_ret
      exact ⟨by rw [fin.out]; rfl, hb1.trans (hb3.mono hb1.size)⟩
  · have fin := Lib.hid (sh_no (a := a) (m := m) h1 h2 h3 h4 (fun h => h5 h.1))
    go_enter Try.func24, Try.ntmps24
    go_wp2_with (first | (go_at_call 41; refine (specValidBands_in l _ _ HV.out).mono ?_; rintro e w1 ⟨rfl, hb1⟩) | (go_at_call 46; refine (inRange_any _ _ _ _).mono ?_; rintro e w2 ⟨rfl, hw2⟩; subst hw2) | (go_at_call 44; refine (specParcel_in l _ _ _ (HV.out.below hb1 (Nat.le_refl _))).mono ?_; rintro e w3 ⟨rfl, hb3⟩))
    go_ret
    exact ⟨by rw [fin.out]; rfl, hb1.trans (hb3.mono hb1.size)⟩

set_option maxHeartbeats 2000000 in
theorem implShip_any (l : List (Int × Int)) (v : Value) (x a m : Int) (w : World) (hv : Rd w 2 v l.length (pr l)) :
    Calls Try.prog 25 #[v, .int .i64 x, .int .i64 a, .int .i64 m] w fun e w' => e = .returned (.int .i64 (fShip l x a m)) ∧ Below w.heap.size w w' := by
  have HV := Lib.hid hv
  clear hv
  cases h2 : wi x 0 800000
  · have fin := Lib.hid (fShip_w (l := l) (a := a) (m := m) h2)
    go_enter Try.func25, Try.ntmps25
    go_wp2_with (first | (go_at_call 39; refine (within_any _ _ _ _).mono ?_; rintro e w2 ⟨rfl, hw2⟩; subst hw2) | (go_at_call 40; refine (money_any _ _).mono ?_; rintro e w2 ⟨rfl, hw2⟩; subst hw2))
    go_ret
    exact ⟨by rw [fin.out]; rfl, Below.refl _ _⟩
  cases h3 : mny a
  · have fin := Lib.hid (fShip_a (l := l) (w := x) (a := a) (m := m) h3)
    go_enter Try.func25, Try.ntmps25
    go_wp2_with (first | (go_at_call 39; refine (within_any _ _ _ _).mono ?_; rintro e w2 ⟨rfl, hw2⟩; subst hw2) | (go_at_call 40; refine (money_any _ _).mono ?_; rintro e w2 ⟨rfl, hw2⟩; subst hw2))
    go_ret
    exact ⟨by rw [fin.out]; rfl, Below.refl _ _⟩
  cases h4 : mny m
  · have fin := Lib.hid (fShip_m (l := l) (w := x) (a := a) (m := m) h4)
    go_enter Try.func25, Try.ntmps25
    go_wp2_with (first | (go_at_call 39; refine (within_any _ _ _ _).mono ?_; rintro e w2 ⟨rfl, hw2⟩; subst hw2) | (go_at_call 40; refine (money_any _ _).mono ?_; rintro e w2 ⟨rfl, hw2⟩; subst hw2))
    go_ret
    exact ⟨by rw [fin.out]; rfl, Below.refl _ _⟩
  by_cases h5 : 0 ≤ fParcel l x
  · by_cases h6 : m ≤ a
    · have fin := Lib.hid (shp_yes h2 h3 h4 h5 h6)
      go_enter Try.func25, Try.ntmps25
      go_wp2_with (first | (go_at_call 39; refine (within_any _ _ _ _).mono ?_; rintro e w2 ⟨rfl, hw2⟩; subst hw2) | (go_at_call 40; refine (money_any _ _).mono ?_; rintro e w2 ⟨rfl, hw2⟩; subst hw2) | (go_at_call 22; refine (implParcelPrice_any l _ _ _ HV.out).mono ?_; rintro e w3 ⟨rfl, hb3⟩))
      go_ret
      exact ⟨by rw [fin.out]; rfl, hb3⟩
    · have fin := Lib.hid (shp_no (l := l) h2 h3 h4 (fun h => h6 h.2))
      go_enter Try.func25, Try.ntmps25
      go_wp2_with (first | (go_at_call 39; refine (within_any _ _ _ _).mono ?_; rintro e w2 ⟨rfl, hw2⟩; subst hw2) | (go_at_call 40; refine (money_any _ _).mono ?_; rintro e w2 ⟨rfl, hw2⟩; subst hw2) | (go_at_call 22; refine (implParcelPrice_any l _ _ _ HV.out).mono ?_; rintro e w3 ⟨rfl, hb3⟩))
      go_ret
      exact ⟨by rw [fin.out]; rfl, hb3⟩
  · have fin := Lib.hid (shp_no (a := a) (m := m) h2 h3 h4 (fun h => h5 h.1))
    go_enter Try.func25, Try.ntmps25
    go_wp2_with (first | (go_at_call 39; refine (within_any _ _ _ _).mono ?_; rintro e w2 ⟨rfl, hw2⟩; subst hw2) | (go_at_call 40; refine (money_any _ _).mono ?_; rintro e w2 ⟨rfl, hw2⟩; subst hw2) | (go_at_call 22; refine (implParcelPrice_any l _ _ _ HV.out).mono ?_; rintro e w3 ⟨rfl, hb3⟩))
    go_ret
    exact ⟨by rw [fin.out]; rfl, hb3⟩

end Go.Proofs.Yteeehgicegmbjaa
