/- Lows last: LowestBefore the next day is at most the price of today, if there is one, for every code. Conditions: none. -/
import Derived.Test.YtphjdgncfamloabWE
import Derived.Test.YtphjdgncfamloabWH
import Derived.Test.YtphjdgncfamloabPriceLaws
import Derived.Test.YtphjdgncfamloabOpen
import Derived.Test.YtphjdgncfamloabHead
namespace Go.Proofs.Ytphjdgncfamloab
open Go.RowKit

theorem fLowest_neg {l : List (Int × Int)} {d : Int} (h : ¬ fLowest l d < 0) : vPrices l = true ∧ wi d 0 999 = true := by
  cases hc : vPrices l && wi d 0 999
  · exfalso; apply h; unfold fLowest; rw [hc]; simp
  · rwa [Bool.and_eq_true] at hc

theorem fLow_is {l : List (Int × Int)} {d : Int} (h : vPrices l = true ∧ wi d 0 999 = true) : fLowest l d = lowB l d := by unfold fLowest; rw [h.1, h.2]; rfl

set_option maxHeartbeats 2000000 in
theorem lawLowestBeforeNext (z : List Int) (v : Value) (w : World) (hv : Rd w 1 v z.length (z.map (Value.int .u8)) ∧ ∀ x ∈ z, 0 ≤ x ∧ x ≤ 255) :
    Calls Try.prog 3 #[v] w fun e w' => e = .returned (.bool true) ∧ Below w.heap.size w w' := by
  have hm := hv.1.len
  unfold maxLen at hm
  obtain ⟨_, ao, cap, rfl, _⟩ := hv.1
  have HV := Lib.hid hv
  clear hv
  by_cases hn : 1048576 < z.length
  · go_enter Try.func3, Try.ntmps3
    go_wp2
    go_ret
    exact ⟨rfl, Below.refl _ _⟩
  · go_enter Try.func3, Try.ntmps3
    go_wp2_with fail
    refine (drawLowestBefore_any z _ _ HV.out.1 HV.out.2).mono ?_
    rintro e w1 ⟨l, u, d, rfl, ho1, _, hl1, hd1, hd2, hb1⟩
    obtain ⟨bo, cap1, rfl, ⟨hcap1, hcap2⟩, hg⟩ := owns_shape_cap ho1
    have R1 := Lib.hid (Rd.of_owns ho1)
    have HG := Lib.hid hg
    clear ho1 hg
    go_wp2_with fail
    refine (implLowest_any l _ _ _ R1.out).mono ?_
    rintro e w2 ⟨rfl, hb2⟩
    have B2 := hb1.trans (hb2.mono hb1.size)
    have R2 := Lib.hid (R1.out.below hb2 (Nat.le_refl _))
    clear hb1 hb2 R1
    have hne : (fLowest l d != fLowest l d) = false := by simp
    go_wp2_with fail
    refine (specLowest_any l _ _ _ R2.out).mono ?_
    rintro e w3 ⟨rfl, hb3⟩
    have B3 := B2.trans (hb3.mono B2.size)
    have R3 := Lib.hid (R2.out.below hb3 (Nat.le_refl _))
    clear B2 hb3 R2
    by_cases hp : fLowest l d < 0
    · go_wp2_with fail
      refine (specLowest_any l _ _ _ R3.out).mono ?_
      rintro e w4 ⟨rfl, hb4⟩
      go_wp2
      go_ret
      exact ⟨ret_b (by simp), B3.trans (hb4.mono B3.size)⟩
    · have hvp := fLowest_neg hp
      obtain ⟨hw0, hw1⟩ := wi_true.1 hvp.2
      have HVP := Lib.hid hvp
      have hp2 : 0 ≤ fLowest l d := by omega
      clear hvp hp
      by_cases h9 : d = 999
      · have h9b : (d == 999) = true := by simp [h9]
        have H9 := Lib.hid h9
        clear h9
        go_wp2_with fail
        refine (specLowest_any l _ _ _ R3.out).mono ?_
        rintro e w4 ⟨rfl, hb4⟩
        go_wp2
        go_ret
        exact ⟨ret_b (by simp), B3.trans (hb4.mono B3.size)⟩
      · have h9b : (d == 999) = false := by simp [h9]
        have h9c : d ≤ 998 := by omega
        have hq := lowB_next HVP.out.1 hw0
        have hp0 := (pDay_bd HVP.out.1 d).1
        have K1 : Hid (∀ w', Below w3.heap.size w3 w' → Calls Try.prog 15 #[.slice bo l.length cap1, .int .i64 d] w' fun e w'' => e = .returned (.int .i64 (pDay l d)) ∧ Below w3.heap.size w3 w'') := fun w' hb => (implPriceOn_any l _ d w' (R3.out.below hb (Nat.le_refl _))).mono fun e w'' ⟨he, hb'⟩ => ⟨by rw [he, fPriceOn_in HVP.out.1 hw0 hw1], hb.trans (hb'.mono hb.size)⟩
        have K2 : Hid (∀ w', Below w3.heap.size w3 w' → Calls Try.prog 13 #[.slice bo l.length cap1, .int .i64 (d + 1)] w' fun e w'' => e = .returned (.int .i64 (lowB l (d + 1))) ∧ Below w3.heap.size w3 w'') := fun w' hb => (implLowest_any l _ (d + 1) w' (R3.out.below hb (Nat.le_refl _))).mono fun e w'' ⟨he, hb'⟩ => ⟨by rw [he, fLow_is ⟨HVP.out.1, wi_true.2 (by omega)⟩], hb.trans (hb'.mono hb.size)⟩
        have hb0 := Below.refl w3.heap.size w3
        generalize pDay l d = p at K1 hq hp0
        generalize lowB l (d + 1) = q at K2 hq
        by_cases hz : p = 0
        · have hzb : (p == 0) = true := by simp [hz]
          clear hz hq h9
          go_wp2_with (first | (go_at_call 15; (with_reducible refine (K1.out _ (by assumption)).mono ?_); rintro e w4 ⟨rfl, hb4⟩) | (go_at_call 13; (with_reducible refine (K2.out _ (by assumption)).mono ?_); rintro e w4 ⟨rfl, hb4⟩))
          go_ret
          exact ⟨rfl, B3.trans (hb4.mono B3.size)⟩
        · have hzb : (p == 0) = false := by simp [hz]
          obtain ⟨hq1, hq2⟩ := hq (by omega)
          clear hz h9
          go_wp2_with (first | (go_at_call 15; (with_reducible refine (K1.out _ (by assumption)).mono ?_); rintro e w4 ⟨rfl, hb4⟩) | (go_at_call 13; (with_reducible refine (K2.out _ (by assumption)).mono ?_); rintro e w4 ⟨rfl, hb4⟩))
          go_ret
          exact ⟨ret_b (by simp), B3.trans (hb4.mono B3.size)⟩


open Go.ChangeShapes Go.WideShapes Go.ChangeAt

theorem lawOwn : ownKnob Try.prog.godebug = none := by kernel_rfl
theorem lawOut : laidOutB Try.prog = true := by kernel_rfl

set_option linter.unusedVariables false in
set_option maxRecDepth 100000 in
theorem liftedLowestBeforeNext (os : Os) (started : os.Started) (H : Type) (enc : TypeId × Value → H) :
    ReturnsInHanded {} Try.checked os 3 .any (Rows.fnLowestBeforeNextSpec.pre6 enc Try.prog Try.f3 Rows.fnLowestBeforeNextRow.domain false) (Rows.fnLowestBeforeNextSpec.post enc Try.prog Try.f3 false true false false) := by
  refine returnsInHanded_of_change (C := Try.checked) lawOwn started (by kernel_rfl) Try.func3
    (ChangeSpec.witness6 (enc := enc) (C := Try.checked) false ⟨#[], #[.slice none 0 0], []⟩ 8 (by kernel_rfl) (by kernel_rfl) (by kernel_rfl) (by kernel_rfl)) ?_
  intro W base args ds gs before hval0 hW hcnd _
  have hval : ∀ (j : Nat) t v, Try.f3.params[j]? = some t → args[j]? = some v → Value.okWide Try.prog W .any base t v := hval0
  have hW' := hW
  obtain ⟨p, q, hA0, hV, rfl, hfz, hnd⟩ := hW
  have hA : DataW.TrodAll enc Try.prog W 0 (fun _ => true) true Try.f3.params.toList args.toList ds p := hA0
  rw [Try.params3] at hA hval
  obtain ⟨v0, vs0, d0, ds0, p0, q0, hargs, rfl, rfl, h0, r0⟩ := trodAll_cons hA
  obtain ⟨rfl, rfl, rfl⟩ := trodAll_nil r0
  obtain rfl : args = #[v0] := by cases args; simp_all
  obtain ⟨rfl, rfl⟩ := trodVars_none hV
  have k0 := h0
  have lt0 : ∀ x ∈ p0, x.block < W.heap.size := by obtain ⟨m, hm⟩ := k0; exact DataW.trod_lt m _ _ _ hm
  clear hA0 hval0
  obtain ⟨z0, w0⟩ : ∃ z : List Int, Rd W 1 v0 z.length (z.map (Value.int .u8)) ∧ ∀ x ∈ z, 0 ≤ x ∧ x ≤ 255 := by
    obtain ⟨a0, n0, c0, rfl⟩ := okWide_slice Try.underlying22 (hval 0 22 v0 rfl rfl)
    obtain ⟨fuel, hf⟩ := h0
    exact open_bytes Try.underlying22 Try.underlying5 (by kernel_rfl) hf
  refine (lawLowestBeforeNext z0 v0 W w0).mono fun e W' ⟨he, bel⟩ => ?_
  subst he
  exact ⟨_, rfl, _, _, _, [], _, [], hW', trodAll_mk1 (shut_bool Try.underlying4 _), (trodAll_cons_mk (Below.trod lawOut (by kernel_rfl) (of_decide_eq_true (by kernel_rfl)) k0 bel lt0) trodAll_mk0), rfl, bel.frame _, fun h => by cases h⟩

theorem closedLowestBeforeNext : joinedFacts Try.pinned.checked.prog 3 Try.f3 Rows.fnLowestBeforeNextSpec Rows.fnLowestBeforeNextRow = true := by
  unfold joinedFacts
  rw [headEnters, headMake, headFinal]
  kernel_rfl

theorem holdsLowestBeforeNext : Rows.FnLowestBeforeNextSaid :=
  OpenClaim.holds_of_wide 3 Try.f3 rfl rfl rfl rfl rfl rfl rfl ⟨rfl, rfl, rfl, rfl, rfl⟩ rfl rfl rfl rfl rfl (by kernel_rfl) Try.func3 closedLowestBeforeNext
    (of_decide_eq_true (by kernel_rfl)) (by unfold Func.isWrapper; first | (rw [if_pos (by decide +kernel)]; kernel_rfl) | (rw [if_neg (by decide +kernel)]; exact ⟨rfl, rfl⟩))
    (fun os started H enc _ => liftedLowestBeforeNext os started H enc)

#print axioms holdsLowestBeforeNext

end Go.Proofs.Ytphjdgncfamloab
