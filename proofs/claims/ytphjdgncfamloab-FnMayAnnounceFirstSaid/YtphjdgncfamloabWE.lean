/- Walks: the lowest price before a day. Conditions: none. -/
import Derived.Test.YtphjdgncfamloabWD
import Derived.Test.YtphjdgncfamloabPriceLaws
import Derived.Lib.MinMax
namespace Go.Proofs.Ytphjdgncfamloab
open Go.RowKit

theorem lowN_take {l : List (Int × Int)} {a : Int} {k : Nat} (h : 0 < pDay l (a + k)) (h2 : lowN l a k = 0 ∨ pDay l (a + k) < lowN l a k) : lowN l a (k + 1) = pDay l (a + k) := by rw [lowN, if_pos ⟨h, h2⟩]
theorem lowN_keep {l : List (Int × Int)} {a : Int} {k : Nat} (h : ¬ (0 < pDay l (a + k) ∧ (lowN l a k = 0 ∨ pDay l (a + k) < lowN l a k))) : lowN l a (k + 1) = lowN l a k := by rw [lowN, if_neg h]
theorem start30 (d : Int) : Value.int .i64 (max (d - 30) 0) = .int .i64 (from30 d + ((0 : Nat) : Int)) := by
  congr 1; unfold from30; split <;> omega
theorem lowN_end {l : List (Int × Int)} {d : Int} {k : Nat} (h : (k : Int) = d - from30 d) : lowN l (from30 d) k = lowB l d := by
  unfold lowB; congr 1; omega

set_option maxHeartbeats 2000000 in
theorem specLowest_in (l : List (Int × Int)) (v : Value) (d : Int) (w : World) (hv : Rd w 2 v l.length (pr l)) (h0 : 0 ≤ d) (h1 : d ≤ 999) :
    Calls Try.prog 34 #[v, .int .i64 (d - 30), .int .i64 (d - 1)] w fun e w' => e = .returned (.int .i64 (lowB l d)) ∧ Below w.heap.size w w' := by
  have HV := Lib.hid hv
  clear hv
  have hf := from30_bd d h0
  obtain ⟨hf0, hf1, hf2⟩ := hf
  go_enter Try.func34, Try.ntmps34
  go_wp2
  go_loopw [7, 8] (fun n i wr => ∃ k : Nat, (k : Int) ≤ d - from30 d ∧ i = .int .i64 (from30 d + k) ∧ n = .int .i64 (lowN l (from30 d) k) ∧ Below w.heap.size w wr) (fun _ i _ => (d - intOf i).toNat)
  case atStart => exact ⟨0, by omega, start30 d, rfl, Below.refl _ _⟩
  case round =>
    obtain ⟨k, hk, rfl, rfl, hbl⟩ := hrel
    by_cases hlt : (k : Int) < d - from30 d
    · by_cases hp : 0 < pDay l (from30 d + k)
      · by_cases hz : lowN l (from30 d) k = 0
        · have hzb : (lowN l (from30 d) k == 0) = true := by simp [hz]
          have fin := Lib.hid (lowN_take hp (.inl hz))
          clear hz
          go_wp2_with (go_at_call 40; refine (specPriceOn_in l _ _ _ (HV.out.below hbl (Nat.le_refl _))).mono ?_; rintro e w2 ⟨rfl, hb2⟩)
          go_roundw
          case rel => exact ⟨k+1, by omega, by go_num, by rw [fin.out], hbl.trans (hb2.mono hbl.size)⟩
          case measure => simp [intOf]; omega
        · have hzb : (lowN l (from30 d) k == 0) = false := by simp [hz]
          by_cases hq : pDay l (from30 d + k) < lowN l (from30 d) k
          · have fin := Lib.hid (lowN_take hp (.inr hq))
            clear hz
            go_wp2_with (go_at_call 40; refine (specPriceOn_in l _ _ _ (HV.out.below hbl (Nat.le_refl _))).mono ?_; rintro e w2 ⟨rfl, hb2⟩)
            go_roundw
            case rel => exact ⟨k+1, by omega, by go_num, by rw [fin.out], hbl.trans (hb2.mono hbl.size)⟩
            case measure => simp [intOf]; omega
          · have fin := Lib.hid (lowN_keep (l := l) (a := from30 d) (k := k) (by omega))
            clear hz
            go_wp2_with (go_at_call 40; refine (specPriceOn_in l _ _ _ (HV.out.below hbl (Nat.le_refl _))).mono ?_; rintro e w2 ⟨rfl, hb2⟩)
            go_roundw
            case rel => exact ⟨k+1, by omega, by go_num, by rw [fin.out], hbl.trans (hb2.mono hbl.size)⟩
            case measure => simp [intOf]; omega
      · have fin := Lib.hid (lowN_keep (l := l) (a := from30 d) (k := k) (by omega))
        go_wp2_with (go_at_call 40; refine (specPriceOn_in l _ _ _ (HV.out.below hbl (Nat.le_refl _))).mono ?_; rintro e w2 ⟨rfl, hb2⟩)
        go_roundw
        case rel => exact ⟨k+1, by omega, by go_num, by rw [fin.out], hbl.trans (hb2.mono hbl.size)⟩
        case measure => simp [intOf]; omega
    · have fin := Lib.hid (lowN_end (l := l) (d := d) (k := k) (by omega))
      go_wp2
      go_ret
      exact ⟨by rw [← fin.out]; rfl, hbl⟩

set_option maxHeartbeats 1000000 in
theorem specLowest_any (l : List (Int × Int)) (v : Value) (d : Int) (w : World) (hv : Rd w 2 v l.length (pr l)) :
    Calls Try.prog 14 #[v, .int .i64 d] w fun e w' => e = .returned (.int .i64 (fLowest l d)) ∧ Below w.heap.size w w' := by
  have HV := Lib.hid hv
  clear hv
  cases hp : vPrices l
  · have fin : Hid (fLowest l d = -1) := by simp [Hid, fLowest, hp]
    go_enter Try.func14, Try.ntmps14
    go_wp2_with (go_at_call 32; refine (specValidPrices_in l _ _ HV.out).mono ?_; rintro e w1 ⟨rfl, hb1⟩)
    go_ret
    exact ⟨by rw [fin.out]; rfl, hb1⟩
  · cases hd : wi d 0 999
    · have fin : Hid (fLowest l d = -1) := by simp [Hid, fLowest, hd]
      go_enter Try.func14, Try.ntmps14
      go_wp2_with (first
        | (go_at_call 32; refine (specValidPrices_in l _ _ HV.out).mono ?_; rintro e w1 ⟨rfl, hb1⟩)
        | (go_at_call 33; refine (inRange_any _ _ _ _).mono ?_; rintro e w2 ⟨rfl, hw2⟩; subst hw2))
      go_ret
      exact ⟨by rw [fin.out]; rfl, hb1⟩
    · have fin : Hid (fLowest l d = lowB l d) := by simp [Hid, fLowest, hp, hd]
      have hr := wi_true.1 hd
      obtain ⟨hr0, hr1⟩ := hr
      go_enter Try.func14, Try.ntmps14
      go_wp2_with (first
        | (go_at_call 32; refine (specValidPrices_in l _ _ HV.out).mono ?_; rintro e w1 ⟨rfl, hb1⟩)
        | (go_at_call 33; refine (inRange_any _ _ _ _).mono ?_; rintro e w2 ⟨rfl, hw2⟩; subst hw2)
        | (go_at_call 34; refine (specLowest_in l _ _ _ (HV.out.below hb1 (Nat.le_refl _)) hr0 hr1).mono ?_; rintro e w3 ⟨rfl, hb3⟩))
      go_ret
      exact ⟨by rw [fin.out]; rfl, hb1.trans (hb3.mono hb1.size)⟩

theorem fPriceOn_in {l : List (Int × Int)} {d : Int} (h : vPrices l = true) (h0 : 0 ≤ d) (h1 : d ≤ 999) : fPriceOn l d = pDay l d := by
  unfold fPriceOn; rw [h, wi_true.2 ⟨h0, h1⟩]; rfl

set_option maxHeartbeats 2000000 in
theorem implLowest_any (l : List (Int × Int)) (v : Value) (d : Int) (w : World) (hv : Rd w 2 v l.length (pr l)) :
    Calls Try.prog 13 #[v, .int .i64 d] w fun e w' => e = .returned (.int .i64 (fLowest l d)) ∧ Below w.heap.size w w' := by
  have HV := Lib.hid hv
  clear hv
  cases hp : vPrices l
  · have fin : Hid (fLowest l d = -1) := by simp [Hid, fLowest, hp]
    go_enter Try.func13, Try.ntmps13
    go_wp2_with (go_at_call 20; refine (implValidPrices_any l _ _ HV.out).mono ?_; rintro e w1 ⟨rfl, hb1⟩)
    go_ret
    exact ⟨by rw [fin.out]; rfl, hb1⟩
  · cases hd : wi d 0 999
    · have fin : Hid (fLowest l d = -1) := by simp [Hid, fLowest, hd]
      go_enter Try.func13, Try.ntmps13
      go_wp2_with (first
        | (go_at_call 20; refine (implValidPrices_any l _ _ HV.out).mono ?_; rintro e w1 ⟨rfl, hb1⟩)
        | (go_at_call 31; refine (within_any _ _ _ _).mono ?_; rintro e w2 ⟨rfl, hw2⟩; subst hw2))
      go_ret
      exact ⟨by rw [fin.out]; rfl, hb1⟩
    · have finB : Hid (fLowest l d = lowB l d) := by simp [Hid, fLowest, hp, hd]
      have hr := wi_true.1 hd
      obtain ⟨h0, h1⟩ := hr
      have hf := from30_bd d h0
      obtain ⟨hf0, hf1, hf2⟩ := hf
      have HP := Lib.hid hp
      go_enter Try.func13, Try.ntmps13
      go_wp2_with (first
        | (go_at_call 20; refine (implValidPrices_any l _ _ HV.out).mono ?_; rintro e w1 ⟨rfl, hb1⟩)
        | (go_at_call 31; refine (within_any _ _ _ _).mono ?_; rintro e w2 ⟨rfl, hw2⟩; subst hw2))
      go_loopw [5, 6] (fun n i wr => ∃ k : Nat, (k : Int) ≤ d - from30 d ∧ i = .int .i64 (from30 d + k) ∧ n = .int .i64 (lowN l (from30 d) k) ∧ Below w.heap.size w wr) (fun _ i _ => (d - intOf i).toNat)
      case atStart => exact ⟨0, by omega, start30 d, rfl, hb1⟩
      case round =>
        clear hb1 hp hd
        obtain ⟨k, hk, rfl, rfl, hbl⟩ := hrel
        by_cases hlt : (k : Int) < d - from30 d
        · have hday := Lib.hid (fPriceOn_in (d := from30 d + k) HP.out (by omega) (by omega))
          by_cases hp : 0 < pDay l (from30 d + k)
          · by_cases hz : lowN l (from30 d) k = 0
            · have hzb : (lowN l (from30 d) k == 0) = true := by simp [hz]
              have fin := Lib.hid (lowN_take hp (.inl hz))
              clear hz
              go_wp2_with (go_at_call 15; refine (implPriceOn_any l _ _ _ (HV.out.below hbl (Nat.le_refl _))).mono ?_; rintro e w2 ⟨rfl, hb2⟩; rw [hday.out])
              go_roundw
              case rel => exact ⟨k+1, by omega, by go_num, by rw [fin.out], hbl.trans (hb2.mono hbl.size)⟩
              case measure => simp [intOf]; omega
            · have hzb : (lowN l (from30 d) k == 0) = false := by simp [hz]
              by_cases hq : pDay l (from30 d + k) < lowN l (from30 d) k
              · have fin := Lib.hid (lowN_take hp (.inr hq))
                clear hz
                go_wp2_with (go_at_call 15; refine (implPriceOn_any l _ _ _ (HV.out.below hbl (Nat.le_refl _))).mono ?_; rintro e w2 ⟨rfl, hb2⟩; rw [hday.out])
                go_roundw
                case rel => exact ⟨k+1, by omega, by go_num, by rw [fin.out], hbl.trans (hb2.mono hbl.size)⟩
                case measure => simp [intOf]; omega
              · have fin := Lib.hid (lowN_keep (l := l) (a := from30 d) (k := k) (by omega))
                clear hz
                go_wp2_with (go_at_call 15; refine (implPriceOn_any l _ _ _ (HV.out.below hbl (Nat.le_refl _))).mono ?_; rintro e w2 ⟨rfl, hb2⟩; rw [hday.out])
                go_roundw
                case rel => exact ⟨k+1, by omega, by go_num, by rw [fin.out], hbl.trans (hb2.mono hbl.size)⟩
                case measure => simp [intOf]; omega
          · have fin := Lib.hid (lowN_keep (l := l) (a := from30 d) (k := k) (by omega))
            go_wp2_with (go_at_call 15; refine (implPriceOn_any l _ _ _ (HV.out.below hbl (Nat.le_refl _))).mono ?_; rintro e w2 ⟨rfl, hb2⟩; rw [hday.out])
            go_roundw
            case rel => exact ⟨k+1, by omega, by go_num, by rw [fin.out], hbl.trans (hb2.mono hbl.size)⟩
            case measure => simp [intOf]; omega
        · have fin := Lib.hid (lowN_end (l := l) (d := d) (k := k) (by omega))
          go_wp2
          go_ret
          exact ⟨by rw [finB.out, ← fin.out]; rfl, hbl⟩

end Go.Proofs.Ytphjdgncfamloab
