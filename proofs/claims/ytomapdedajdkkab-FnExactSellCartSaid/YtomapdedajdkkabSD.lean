/- Walks: holding and selling the pieces of a cart. Conditions: none. -/
import Derived.Test.YtomapdedajdkkabSB
namespace Go.Proofs.Ytomapdedajdkkab
open Go.RowKit

theorem owns_baseS {w : World} {base base' e sz n : Nat} {v : Value} {xs : List Value} (h : w.ownsRow base e sz v n xs) (hb : base' ≤ base) : w.ownsRow base' e sz v n xs := by
  refine ⟨h.1, ?_⟩
  rcases h.2 with hn | ⟨g, cap, cur, rfl, hg, rest⟩
  · exact .inl hn
  · exact .inr ⟨g, cap, cur, rfl, by omega, rest⟩

set_option maxHeartbeats 1000000 in
theorem implHold_any (base0 : Nat) (l : List (Int × Int)) (u : Value) (c : List (Int × Int)) (v : Value) (w : World) (hu : w.ownsRow base0 99 2 u l.length (pr l)) (hv : Rd w 2 v c.length (pr c)) :
    Calls Try.prog 42 #[u, v] w (MovedPost l c (-1) 1 w) := by
  have HU := Lib.hid hu
  have HV := Lib.hid hv
  clear hu hv
  go_enter Try.func42, Try.ntmps42
  go_wp2_with fail
  refine (implMoved_any base0 l _ c _ (-1) 1 _ HU.out HV.out (by omega) (by omega)).mono ?_
  rintro e w1 ⟨v1, rfl, ho, hb⟩
  have HO := Lib.hid ho
  clear ho
  go_wp2
  go_ret2
  exact ⟨v1, rfl, HO.out, hb⟩

set_option maxHeartbeats 1000000 in
theorem specHold_any (base0 : Nat) (l : List (Int × Int)) (u : Value) (c : List (Int × Int)) (v : Value) (w : World) (hu : w.ownsRow base0 99 2 u l.length (pr l)) (hv : Rd w 2 v c.length (pr c)) :
    Calls Try.prog 40 #[u, v] w (MovedPost l c (-1) 1 w) := by
  obtain ⟨uo, ucap, rfl, ⟨hu1, hu2⟩, _⟩ := owns_shape_cap hu
  have HU := Lib.hid hu
  have HV := Lib.hid hv
  clear hu hv
  cases hp : vStock l
  · have fin := Lib.hid (moved_s (c := c) (f := (-1)) (h := 1) hp)
    go_enter Try.func40, Try.ntmps40
    go_wp2_with (go_at_call 70; refine (specStock_in l _ _ (Rd.of_owns HU.out)).mono ?_; rintro e w1 ⟨rfl, hb1⟩)
    go_ret2
    exact movedPost_nil fin.out hb1
  cases hq : vLines l.length c
  · have fin := Lib.hid (moved_c (f := (-1)) (h := 1) hq)
    go_enter Try.func40, Try.ntmps40
    go_wp2_with (first | (go_at_call 70; refine (specStock_in l _ _ (Rd.of_owns HU.out)).mono ?_; rintro e w1 ⟨rfl, hb1⟩) | (go_at_call 71; refine (fits_in _ _ _ c _ _ (HV.out.below hb1 (Nat.le_refl _)) (by omega)).mono ?_; rintro e w2 ⟨rfl, hb2⟩; have B2 := hb1.trans (hb2.mono hb1.size)))
    go_ret2
    exact movedPost_nil fin.out B2
  · have HP := Lib.hid hp
    have HQ := Lib.hid hq
    go_enter Try.func40, Try.ntmps40
    go_wp2_with (first | (go_at_call 70; refine (specStock_in l _ _ (Rd.of_owns HU.out)).mono ?_; rintro e w1 ⟨rfl, hb1⟩) | (go_at_call 71; refine (fits_in _ _ _ c _ _ (HV.out.below hb1 (Nat.le_refl _)) (by omega)).mono ?_; rintro e w2 ⟨rfl, hb2⟩; have B2 := hb1.trans (hb2.mono hb1.size)))
    refine (specMoved_y base0 l _ c _ (-1) 1 _ (ownsRow_below HU.out B2 (Nat.le_refl _)) (HV.out.below B2 (Nat.le_refl _)) (by omega) (by omega) HP.out HQ.out).mono ?_
    rintro e w3 ⟨v1, rfl, ho, hb3⟩
    have HO := Lib.hid (owns_baseS ho B2.size)
    have B3 := B2.trans (hb3.mono B2.size)
    clear ho hb3
    go_wp2
    go_ret2
    exact ⟨v1, rfl, HO.out, B3⟩

set_option maxHeartbeats 1000000 in
theorem implSell_any (base0 : Nat) (l : List (Int × Int)) (u : Value) (c : List (Int × Int)) (v : Value) (w : World) (hu : w.ownsRow base0 99 2 u l.length (pr l)) (hv : Rd w 2 v c.length (pr c)) :
    Calls Try.prog 47 #[u, v] w (MovedPost l c 0 (-1) w) := by
  have HU := Lib.hid hu
  have HV := Lib.hid hv
  clear hu hv
  go_enter Try.func47, Try.ntmps47
  go_wp2_with fail
  refine (implMoved_any base0 l _ c _ 0 (-1) _ HU.out HV.out (by omega) (by omega)).mono ?_
  rintro e w1 ⟨v1, rfl, ho, hb⟩
  have HO := Lib.hid ho
  clear ho
  go_wp2
  go_ret2
  exact ⟨v1, rfl, HO.out, hb⟩

set_option maxHeartbeats 1000000 in
theorem specSell_any (base0 : Nat) (l : List (Int × Int)) (u : Value) (c : List (Int × Int)) (v : Value) (w : World) (hu : w.ownsRow base0 99 2 u l.length (pr l)) (hv : Rd w 2 v c.length (pr c)) :
    Calls Try.prog 46 #[u, v] w (MovedPost l c 0 (-1) w) := by
  obtain ⟨uo, ucap, rfl, ⟨hu1, hu2⟩, _⟩ := owns_shape_cap hu
  have HU := Lib.hid hu
  have HV := Lib.hid hv
  clear hu hv
  cases hp : vStock l
  · have fin := Lib.hid (moved_s (c := c) (f := 0) (h := (-1)) hp)
    go_enter Try.func46, Try.ntmps46
    go_wp2_with (go_at_call 70; refine (specStock_in l _ _ (Rd.of_owns HU.out)).mono ?_; rintro e w1 ⟨rfl, hb1⟩)
    go_ret2
    exact movedPost_nil fin.out hb1
  cases hq : vLines l.length c
  · have fin := Lib.hid (moved_c (f := 0) (h := (-1)) hq)
    go_enter Try.func46, Try.ntmps46
    go_wp2_with (first | (go_at_call 70; refine (specStock_in l _ _ (Rd.of_owns HU.out)).mono ?_; rintro e w1 ⟨rfl, hb1⟩) | (go_at_call 71; refine (fits_in _ _ _ c _ _ (HV.out.below hb1 (Nat.le_refl _)) (by omega)).mono ?_; rintro e w2 ⟨rfl, hb2⟩; have B2 := hb1.trans (hb2.mono hb1.size)))
    go_ret2
    exact movedPost_nil fin.out B2
  · have HP := Lib.hid hp
    have HQ := Lib.hid hq
    go_enter Try.func46, Try.ntmps46
    go_wp2_with (first | (go_at_call 70; refine (specStock_in l _ _ (Rd.of_owns HU.out)).mono ?_; rintro e w1 ⟨rfl, hb1⟩) | (go_at_call 71; refine (fits_in _ _ _ c _ _ (HV.out.below hb1 (Nat.le_refl _)) (by omega)).mono ?_; rintro e w2 ⟨rfl, hb2⟩; have B2 := hb1.trans (hb2.mono hb1.size)))
    refine (specMoved_y base0 l _ c _ 0 (-1) _ (ownsRow_below HU.out B2 (Nat.le_refl _)) (HV.out.below B2 (Nat.le_refl _)) (by omega) (by omega) HP.out HQ.out).mono ?_
    rintro e w3 ⟨v1, rfl, ho, hb3⟩
    have HO := Lib.hid (owns_baseS ho B2.size)
    have B3 := B2.trans (hb3.mono B2.size)
    clear ho hb3
    go_wp2
    go_ret2
    exact ⟨v1, rfl, HO.out, B3⟩

end Go.Proofs.Ytomapdedajdkkab
