/- Walks: announced reductions. Conditions: none. -/
import Derived.Test.YtphjdgncfamloabWE
namespace Go.Proofs.Ytphjdgncfamloab
open Go.RowKit

theorem fMay_v {l : List (Int × Int)} {d : Int} (h : vPrices l = false) : fMay l d = false := by simp [fMay, h]
theorem fMay_d {l : List (Int × Int)} {d : Int} (h : wi d 0 999 = false) : fMay l d = false := by simp [fMay, h]
theorem fMay_p {l : List (Int × Int)} {d : Int} (h : ¬ 0 < pDay l d) : fMay l d = false := by simp [fMay, h]
theorem fMay_q {l : List (Int × Int)} {d : Int} (hv : vPrices l = true) (hd : wi d 0 999 = true) (h : 0 < pDay l d) : fMay l d = decide (pDay l d < lowB l d) := by rw [fMay_iff hv hd]; simp [h]

set_option maxHeartbeats 1000000 in
theorem specMay_any (l : List (Int × Int)) (v : Value) (d : Int) (w : World) (hv : Rd w 2 v l.length (pr l)) :
    Calls Try.prog 23 #[v, .int .i64 d] w fun e w' => e = .returned (.bool (fMay l d)) ∧ Below w.heap.size w w' := by
  have HV := Lib.hid hv
  clear hv
  cases hp : vPrices l
  · have fin := Lib.hid (fMay_v (d := d) hp)
    go_enter Try.func23, Try.ntmps23
    go_wp2_with (go_at_call 32; refine (specValidPrices_in l _ _ HV.out).mono ?_; rintro e w1 ⟨rfl, hb1⟩)
    go_ret
    exact ⟨by rw [fin.out]; rfl, hb1⟩
  · cases hd : wi d 0 999
    · have fin := Lib.hid (fMay_d (l := l) hd)
      go_enter Try.func23, Try.ntmps23
      go_wp2_with (first
        | (go_at_call 32; refine (specValidPrices_in l _ _ HV.out).mono ?_; rintro e w1 ⟨rfl, hb1⟩)
        | (go_at_call 33; refine (inRange_any _ _ _ _).mono ?_; rintro e w2 ⟨rfl, hw2⟩; subst hw2))
      go_ret
      exact ⟨by rw [fin.out]; rfl, hb1⟩
    · obtain ⟨hr0, hr1⟩ := wi_true.1 hd
      by_cases hq : 0 < pDay l d
      · have fin := Lib.hid (fMay_q hp hd hq)
        go_enter Try.func23, Try.ntmps23
        go_wp2_with (first
          | (go_at_call 32; refine (specValidPrices_in l _ _ HV.out).mono ?_; rintro e w1 ⟨rfl, hb1⟩)
          | (go_at_call 33; refine (inRange_any _ _ _ _).mono ?_; rintro e w2 ⟨rfl, hw2⟩; subst hw2)
          | (go_at_call 40; refine (specPriceOn_in l _ _ _ (HV.out.below hb1 (Nat.le_refl _))).mono ?_; rintro e w3 ⟨rfl, hb3⟩; have B3 := hb1.trans (hb3.mono hb1.size))
          | (go_at_call 34; refine (specLowest_in l _ _ _ (HV.out.below B3 (Nat.le_refl _)) hr0 hr1).mono ?_; rintro e w4 ⟨rfl, hb4⟩))
        go_ret
        exact ⟨by rw [fin.out]; rfl, B3.trans (hb4.mono B3.size)⟩
      · have fin := Lib.hid (fMay_p hq)
        go_enter Try.func23, Try.ntmps23
        go_wp2_with (first
          | (go_at_call 32; refine (specValidPrices_in l _ _ HV.out).mono ?_; rintro e w1 ⟨rfl, hb1⟩)
          | (go_at_call 33; refine (inRange_any _ _ _ _).mono ?_; rintro e w2 ⟨rfl, hw2⟩; subst hw2)
          | (go_at_call 40; refine (specPriceOn_in l _ _ _ (HV.out.below hb1 (Nat.le_refl _))).mono ?_; rintro e w3 ⟨rfl, hb3⟩; have B3 := hb1.trans (hb3.mono hb1.size)))
        go_ret
        exact ⟨by rw [fin.out]; rfl, B3⟩

theorem fMay_f {l : List (Int × Int)} {d : Int} : fMay l d = (decide (0 < fPriceOn l d) && decide (0 < fLowest l d) && decide (fPriceOn l d < fLowest l d)) := by
  unfold fMay fPriceOn fLowest
  cases vPrices l && wi d 0 999 <;> simp

set_option maxHeartbeats 1000000 in
theorem implMay_any (l : List (Int × Int)) (v : Value) (d : Int) (w : World) (hv : Rd w 2 v l.length (pr l)) :
    Calls Try.prog 22 #[v, .int .i64 d] w fun e w' => e = .returned (.bool (fMay l d)) ∧ Below w.heap.size w w' := by
  have HV := Lib.hid hv
  clear hv
  have fin := Lib.hid (fMay_f (l := l) (d := d))
  generalize hx : fPriceOn l d = x at fin
  generalize hy : fLowest l d = y at fin
  have HX := Lib.hid hx
  have HY := Lib.hid hy
  clear hx hy
  have H1 : Hid (∀ w1, Below w.heap.size w w1 → Calls Try.prog 15 #[v, .int .i64 d] w1 fun e w' => e = .returned (.int .i64 x) ∧ Below w.heap.size w w') := fun w1 hb =>
    (implPriceOn_any l v d w1 (HV.out.below hb (Nat.le_refl _))).mono fun e w' ⟨he, hb'⟩ => ⟨by rw [he, HX.out], hb.trans (hb'.mono hb.size)⟩
  have H2 : Hid (∀ w1, Below w.heap.size w w1 → Calls Try.prog 13 #[v, .int .i64 d] w1 fun e w' => e = .returned (.int .i64 y) ∧ Below w.heap.size w w') := fun w1 hb =>
    (implLowest_any l v d w1 (HV.out.below hb (Nat.le_refl _))).mono fun e w' ⟨he, hb'⟩ => ⟨by rw [he, HY.out], hb.trans (hb'.mono hb.size)⟩
  by_cases hp : 0 < x
  · by_cases hq : 0 < y
    · go_enter Try.func22, Try.ntmps22
      go_wp2_with (first
        | (go_at_call 15; refine (H1.out _ (Below.refl _ _)).mono ?_; rintro e w1 ⟨rfl, hb1⟩)
        | (go_at_call 13; refine (H2.out _ hb1).mono ?_; rintro e w2 ⟨rfl, hb2⟩))
      go_ret
      exact ⟨by rw [fin.out]; simp [hp, hq], hb2⟩
    · have fin2 := Lib.hid (show fMay l d = false by rw [fin.out]; simp [hq])
      go_enter Try.func22, Try.ntmps22
      go_wp2_with (first
        | (go_at_call 15; refine (H1.out _ (Below.refl _ _)).mono ?_; rintro e w1 ⟨rfl, hb1⟩)
        | (go_at_call 13; refine (H2.out _ hb1).mono ?_; rintro e w2 ⟨rfl, hb2⟩))
      go_ret
      exact ⟨by rw [fin2.out]; rfl, hb2⟩
  · have fin2 := Lib.hid (show fMay l d = false by rw [fin.out]; simp [hp])
    go_enter Try.func22, Try.ntmps22
    go_wp2_with (first
      | (go_at_call 15; refine (H1.out _ (Below.refl _ _)).mono ?_; rintro e w1 ⟨rfl, hb1⟩)
      | (go_at_call 13; refine (H2.out _ hb1).mono ?_; rintro e w2 ⟨rfl, hb2⟩))
    go_ret
    exact ⟨by rw [fin2.out]; rfl, hb2⟩

theorem fRed_no {l : List (Int × Int)} {d : Int} (h : fMay l d = false) : fRed l d = 0 := by simp [fRed, h]
theorem fRed_yes {l : List (Int × Int)} {d : Int} (h : fMay l d = true) : fRed l d = 1000 * (lowB l d - pDay l d) / lowB l d := by simp [fRed, h]
theorem fMay_pos {l : List (Int × Int)} {d : Int} (h : fMay l d = true) : vPrices l = true ∧ wi d 0 999 = true ∧ 0 < pDay l d ∧ 0 < lowB l d ∧ pDay l d < lowB l d := by
  simp only [fMay, Bool.and_eq_true, decide_eq_true_eq] at h
  exact ⟨h.1.1, h.1.2, h.2.1.1, h.2.1.2, h.2.2⟩

set_option maxHeartbeats 1000000 in
theorem specRed_any (l : List (Int × Int)) (v : Value) (d : Int) (w : World) (hv : Rd w 2 v l.length (pr l)) :
    Calls Try.prog 25 #[v, .int .i64 d] w fun e w' => e = .returned (.int .i64 (fRed l d)) ∧ Below w.heap.size w w' := by
  have HV := Lib.hid hv
  clear hv
  cases hm : fMay l d
  · have fin := Lib.hid (fRed_no hm)
    go_enter Try.func25, Try.ntmps25
    go_wp2_with (go_at_call 23; refine (specMay_any l _ _ _ HV.out).mono ?_; rintro e w1 ⟨rfl, hb1⟩)
    go_ret
    exact ⟨by rw [fin.out]; rfl, hb1⟩
  · have fin := Lib.hid (fRed_yes hm)
    obtain ⟨hv1, hd1, hp1, hp2, hp3⟩ := fMay_pos hm
    obtain ⟨hr0, hr1⟩ := wi_true.1 hd1
    have hl := (lowB_bd hv1 d).2
    clear hv1 hd1
    go_enter Try.func25, Try.ntmps25
    go_wp2_with (first
      | (go_at_call 23; refine (specMay_any l _ _ _ HV.out).mono ?_; rintro e w1 ⟨rfl, hb1⟩)
      | (go_at_call 34; refine (specLowest_in l _ _ _ (HV.out.below hb1 (Nat.le_refl _)) hr0 hr1).mono ?_; rintro e w4 ⟨rfl, hb4⟩; have B4 := hb1.trans (hb4.mono hb1.size))
      | (go_at_call 40; refine (specPriceOn_in l _ _ _ (HV.out.below B4 (Nat.le_refl _))).mono ?_; rintro e w3 ⟨rfl, hb3⟩))
    go_ret
    exact ⟨by rw [fin.out]; rfl, B4.trans (hb3.mono B4.size)⟩

theorem fLow_in {l : List (Int × Int)} {d : Int} (h : vPrices l = true) (h2 : wi d 0 999 = true) : fLowest l d = lowB l d := by unfold fLowest; rw [h, h2]; rfl
set_option maxHeartbeats 1000000 in
theorem implRed_any (l : List (Int × Int)) (v : Value) (d : Int) (w : World) (hv : Rd w 2 v l.length (pr l)) :
    Calls Try.prog 27 #[v, .int .i64 d] w fun e w' => e = .returned (.int .i64 (fRed l d)) ∧ Below w.heap.size w w' := by
  have HV := Lib.hid hv
  clear hv
  cases hm : fMay l d
  · have fin := Lib.hid (fRed_no hm)
    go_enter Try.func27, Try.ntmps27
    go_wp2_with (go_at_call 22; refine (implMay_any l _ _ _ HV.out).mono ?_; rintro e w1 ⟨rfl, hb1⟩)
    go_ret
    exact ⟨by rw [fin.out]; rfl, hb1⟩
  · have fin := Lib.hid (fRed_yes hm)
    obtain ⟨hv1, hd1, hp1, hp2, hp3⟩ := fMay_pos hm
    obtain ⟨hr0, hr1⟩ := wi_true.1 hd1
    have hl := (lowB_bd hv1 d).2
    have hA := Lib.hid (fLow_in hv1 hd1)
    have hB := Lib.hid (fPriceOn_in hv1 hr0 hr1)
    clear hv1 hd1
    go_enter Try.func27, Try.ntmps27
    go_wp2_with (first
      | (go_at_call 22; refine (implMay_any l _ _ _ HV.out).mono ?_; rintro e w1 ⟨rfl, hb1⟩)
      | (go_at_call 13; refine (implLowest_any l _ _ _ (HV.out.below hb1 (Nat.le_refl _))).mono ?_; rintro e w4 ⟨rfl, hb4⟩; rw [hA.out]; have B4 := hb1.trans (hb4.mono hb1.size))
      | (go_at_call 15; refine (implPriceOn_any l _ _ _ (HV.out.below B4 (Nat.le_refl _))).mono ?_; rintro e w3 ⟨rfl, hb3⟩; rw [hB.out]))
    go_ret
    exact ⟨by rw [fin.out]; rfl, B4.trans (hb3.mono B4.size)⟩

end Go.Proofs.Ytphjdgncfamloab
