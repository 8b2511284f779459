/- Only real reductions are announced: MayAnnounce exactly if PriceOn the day is less than LowestBefore, for every code. Conditions: none. -/
import Derived.Test.YtphjdgncfamloabWF
import Derived.Test.YtphjdgncfamloabWH
import Derived.Test.YtphjdgncfamloabPriceLaws
import Derived.Test.YtphjdgncfamloabOpen
import Derived.Test.YtphjdgncfamloabHead
namespace Go.Proofs.Ytphjdgncfamloab
open Go.RowKit

theorem fPriceOn_neg {l : List (Int × Int)} {d : Int} (h : ¬ fPriceOn l d < 0) : vPrices l = true ∧ wi d 0 999 = true := by
  cases hc : vPrices l && wi d 0 999
  · exfalso; apply h; unfold fPriceOn; rw [hc]; simp
  · rwa [Bool.and_eq_true] at hc

set_option maxHeartbeats 2000000 in
theorem lawMayAnnounce (z : List Int) (v : Value) (w : World) (hv : Rd w 1 v z.length (z.map (Value.int .u8)) ∧ ∀ x ∈ z, 0 ≤ x ∧ x ≤ 255) :
    Calls Try.prog 7 #[v] w fun e w' => e = .returned (.bool true) ∧ Below w.heap.size w w' := by
  have hm := hv.1.len
  unfold maxLen at hm
  obtain ⟨_, ao, cap, rfl, _⟩ := hv.1
  have HV := Lib.hid hv
  clear hv
  by_cases hn : 1048576 < z.length
  · go_enter Try.func7, Try.ntmps7
    go_wp2
    go_ret
    exact ⟨rfl, Below.refl _ _⟩
  · go_enter Try.func7, Try.ntmps7
    go_wp2_with fail
    refine (drawMayAnnounce_any z _ _ HV.out.1 HV.out.2).mono ?_
    rintro e w1 ⟨l, u, d, rfl, ho1, _, hl1, hd1, hd2, hb1⟩
    obtain ⟨bo, cap1, rfl, ⟨hcap1, hcap2⟩, hg⟩ := owns_shape_cap ho1
    have R1 := Lib.hid (Rd.of_owns ho1)
    have HG := Lib.hid hg
    clear ho1 hg
    go_wp2_with fail
    refine (implMay_any l _ _ _ R1.out).mono ?_
    rintro e w2 ⟨rfl, hb2⟩
    have B2 := hb1.trans (hb2.mono hb1.size)
    have R2 := Lib.hid (R1.out.below hb2 (Nat.le_refl _))
    clear hb1 hb2 R1
    have hne : (fMay l d != fMay l d) = false := by simp
    go_wp2_with fail
    refine (specMay_any l _ _ _ R2.out).mono ?_
    rintro e w3 ⟨rfl, hb3⟩
    have B3 := B2.trans (hb3.mono B2.size)
    have R3 := Lib.hid (R2.out.below hb3 (Nat.le_refl _))
    clear B2 hb3 R2
    have K1 : Hid (∀ w', Below w3.heap.size w3 w' → Calls Try.prog 15 #[.slice bo l.length cap1, .int .i64 d] w' fun e w'' => e = .returned (.int .i64 (fPriceOn l d)) ∧ Below w3.heap.size w3 w'') := fun w' hb => (implPriceOn_any l _ d w' (R3.out.below hb (Nat.le_refl _))).mono fun e w'' ⟨he, hb'⟩ => ⟨by rw [he], hb.trans (hb'.mono hb.size)⟩
    have K5 : Hid (∀ w', Below w3.heap.size w3 w' → Calls Try.prog 23 #[.slice bo l.length cap1, .int .i64 d] w' fun e w'' => e = .returned (.bool (fMay l d)) ∧ Below w3.heap.size w3 w'') := fun w' hb => (specMay_any l _ d w' (R3.out.below hb (Nat.le_refl _))).mono fun e w'' ⟨he, hb'⟩ => ⟨by rw [he], hb.trans (hb'.mono hb.size)⟩
    have hb0 := Below.refl w3.heap.size w3
    by_cases hp : fPriceOn l d < 0
    · go_wp2_with (first | (go_at_call 15; (with_reducible refine (K1.out _ (by assumption)).mono ?_); rintro e w4 ⟨rfl, hb4⟩) | (go_at_call 23; (with_reducible refine (K5.out _ (by assumption)).mono ?_); rintro e w4 ⟨rfl, hb4⟩))
      go_ret
      exact ⟨ret_b (by simp), B3.trans (hb4.mono B3.size)⟩
    · have hvp := fPriceOn_neg hp
      obtain ⟨hw0, hw1⟩ := wi_true.1 hvp.2
      have hp2 : 0 ≤ fPriceOn l d := by omega
      have e1 := fPriceOn_in hvp.1 hw0 hw1
      have e2 := fMay_iff hvp.1 hvp.2
      have e3 := fun hm => red_pos hvp.1 (d := d) hm
      have b1 := (lowB_bd hvp.1 d)
      have b2 := (pDay_bd hvp.1 d)
      have K2 : Hid (∀ w', Below w3.heap.size w3 w' → Calls Try.prog 13 #[.slice bo l.length cap1, .int .i64 d] w' fun e w'' => e = .returned (.int .i64 (lowB l d)) ∧ Below w3.heap.size w3 w'') := fun w' hb => (implLowest_any l _ d w' (R3.out.below hb (Nat.le_refl _))).mono fun e w'' ⟨he, hb'⟩ => ⟨by rw [he, fLow_in hvp.1 hvp.2], hb.trans (hb'.mono hb.size)⟩
      have K3 : Hid (∀ w', Below w3.heap.size w3 w' → Calls Try.prog 27 #[.slice bo l.length cap1, .int .i64 d] w' fun e w'' => e = .returned (.int .i64 (fRed l d)) ∧ Below w3.heap.size w3 w'') := fun w' hb => (implRed_any l _ d w' (R3.out.below hb (Nat.le_refl _))).mono fun e w'' ⟨he, hb'⟩ => ⟨by rw [he], hb.trans (hb'.mono hb.size)⟩
      have e4 : fMay l d = false → fRed l d = 0 := fRed_no
      rw [e1] at K1 hp2 hp
      clear hvp e1 hp
      generalize fMay l d = ok at *
      generalize pDay l d = p at *
      generalize lowB l d = q at *
      generalize fRed l d = r at *
      have E2 := Lib.hid e2
      have E3 := Lib.hid e3
      have E4 := Lib.hid e4
      clear e2 e3 e4
      obtain ⟨b11, b12⟩ := b1
      obtain ⟨b21, b22⟩ := b2
      by_cases hp0 : 0 < p
      · by_cases hpq : p < q
        · have hok : ok = true := by rw [E2.out]; simp [hp0, hpq]
          subst hok
          by_cases hr : 0 < r
          · go_wp2_with (first | (go_at_call 15; (with_reducible refine (K1.out _ (by assumption)).mono ?_); rintro e w4 ⟨rfl, hb4⟩) | (go_at_call 13; (with_reducible refine (K2.out _ (by assumption)).mono ?_); rintro e w4 ⟨rfl, hb4⟩) | (go_at_call 27; (with_reducible refine (K3.out _ (by assumption)).mono ?_); rintro e w4 ⟨rfl, hb4⟩))
            go_ret
            exact ⟨ret_b (by simp), B3.trans (hb4.mono B3.size)⟩
          · have hr2 : 1000 * (q - p) < q := by rcases E3.out rfl with h | h <;> omega
            go_wp2_with (first | (go_at_call 15; (with_reducible refine (K1.out _ (by assumption)).mono ?_); rintro e w4 ⟨rfl, hb4⟩) | (go_at_call 13; (with_reducible refine (K2.out _ (by assumption)).mono ?_); rintro e w4 ⟨rfl, hb4⟩) | (go_at_call 27; (with_reducible refine (K3.out _ (by assumption)).mono ?_); rintro e w4 ⟨rfl, hb4⟩))
            go_ret
            exact ⟨ret_b (by simp), B3.trans (hb4.mono B3.size)⟩
        · have hok : ok = false := by rw [E2.out]; simp [hpq]
          have hr := E4.out hok
          subst hok
          have hr2 : ¬ 0 < r := by omega
          clear hr
          go_wp2_with (first | (go_at_call 15; (with_reducible refine (K1.out _ (by assumption)).mono ?_); rintro e w4 ⟨rfl, hb4⟩) | (go_at_call 13; (with_reducible refine (K2.out _ (by assumption)).mono ?_); rintro e w4 ⟨rfl, hb4⟩) | (go_at_call 27; (with_reducible refine (K3.out _ (by assumption)).mono ?_); rintro e w4 ⟨rfl, hb4⟩))
          go_ret
          exact ⟨ret_b (by simp; omega), B3.trans (hb4.mono B3.size)⟩
      · have hok : ok = false := by rw [E2.out]; simp [hp0]
        have hr := E4.out hok
        subst hok
        have hr2 : ¬ 0 < r := by omega
        clear hr
        go_wp2_with (first | (go_at_call 15; (with_reducible refine (K1.out _ (by assumption)).mono ?_); rintro e w4 ⟨rfl, hb4⟩) | (go_at_call 13; (with_reducible refine (K2.out _ (by assumption)).mono ?_); rintro e w4 ⟨rfl, hb4⟩) | (go_at_call 27; (with_reducible refine (K3.out _ (by assumption)).mono ?_); rintro e w4 ⟨rfl, hb4⟩))
        go_ret
        exact ⟨ret_b (by simp; omega), B3.trans (hb4.mono B3.size)⟩


open Go.ChangeShapes Go.WideShapes Go.ChangeAt

theorem lawOwn : ownKnob Try.prog.godebug = none := by kernel_rfl
theorem lawOut : laidOutB Try.prog = true := by kernel_rfl

set_option linter.unusedVariables false in
set_option maxRecDepth 100000 in
theorem liftedMayAnnounce (os : Os) (started : os.Started) (H : Type) (enc : TypeId × Value → H) :
    ReturnsInHanded {} Try.checked os 7 .any (Rows.fnMayAnnounceSpec.pre6 enc Try.prog Try.f7 Rows.fnMayAnnounceRow.domain false) (Rows.fnMayAnnounceSpec.post enc Try.prog Try.f7 false true false false) := by
  refine returnsInHanded_of_change (C := Try.checked) lawOwn started (by kernel_rfl) Try.func7
    (ChangeSpec.witness6 (enc := enc) (C := Try.checked) false ⟨#[], #[.slice none 0 0], []⟩ 8 (by kernel_rfl) (by kernel_rfl) (by kernel_rfl) (by kernel_rfl)) ?_
  intro W base args ds gs before hval0 hW hcnd _
  have hval : ∀ (j : Nat) t v, Try.f7.params[j]? = some t → args[j]? = some v → Value.okWide Try.prog W .any base t v := hval0
  have hW' := hW
  obtain ⟨p, q, hA0, hV, rfl, hfz, hnd⟩ := hW
  have hA : DataW.TrodAll enc Try.prog W 0 (fun _ => true) true Try.f7.params.toList args.toList ds p := hA0
  rw [Try.params7] at hA hval
  obtain ⟨v0, vs0, d0, ds0, p0, q0, hargs, rfl, rfl, h0, r0⟩ := trodAll_cons hA
  obtain ⟨rfl, rfl, rfl⟩ := trodAll_nil r0
  obtain rfl : args = #[v0] := by cases args; simp_all
  obtain ⟨rfl, rfl⟩ := trodVars_none hV
  have k0 := h0
  have lt0 : ∀ x ∈ p0, x.block < W.heap.size := by obtain ⟨m, hm⟩ := k0; exact DataW.trod_lt m _ _ _ hm
  clear hA0 hval0
  obtain ⟨z0, w0⟩ : ∃ z : List Int, Rd W 1 v0 z.length (z.map (Value.int .u8)) ∧ ∀ x ∈ z, 0 ≤ x ∧ x ≤ 255 := by
    obtain ⟨a0, n0, c0, rfl⟩ := okWide_slice Try.underlying22 (hval 0 22 v0 rfl rfl)
    obtain ⟨fuel, hf⟩ := h0
    exact open_bytes Try.underlying22 Try.underlying5 (by kernel_rfl) hf
  refine (lawMayAnnounce z0 v0 W w0).mono fun e W' ⟨he, bel⟩ => ?_
  subst he
  exact ⟨_, rfl, _, _, _, [], _, [], hW', trodAll_mk1 (shut_bool Try.underlying4 _), (trodAll_cons_mk (Below.trod lawOut (by kernel_rfl) (of_decide_eq_true (by kernel_rfl)) k0 bel lt0) trodAll_mk0), rfl, bel.frame _, fun h => by cases h⟩

theorem closedMayAnnounce : joinedFacts Try.pinned.checked.prog 7 Try.f7 Rows.fnMayAnnounceSpec Rows.fnMayAnnounceRow = true := by
  unfold joinedFacts
  rw [headEnters, headMake, headFinal]
  kernel_rfl

theorem holdsMayAnnounce : Rows.FnMayAnnounceSaid :=
  OpenClaim.holds_of_wide 7 Try.f7 rfl rfl rfl rfl rfl rfl rfl ⟨rfl, rfl, rfl, rfl, rfl⟩ rfl rfl rfl rfl rfl (by kernel_rfl) Try.func7 closedMayAnnounce
    (of_decide_eq_true (by kernel_rfl)) (by unfold Func.isWrapper; first | (rw [if_pos (by decide +kernel)]; kernel_rfl) | (rw [if_neg (by decide +kernel)]; exact ⟨rfl, rfl⟩))
    (fun os started H enc _ => liftedMayAnnounce os started H enc)

#print axioms holdsMayAnnounce

end Go.Proofs.Ytphjdgncfamloab
