/- The program's HoldCart returns what the reference's returns, for all arguments, leaves its arguments unmodified, and shares no memory. Conditions: none. -/
import Derived.Test.YtomapdedajdkkabSD
import Derived.Test.YtomapdedajdkkabSK
import Derived.Test.YtomapdedajdkkabOpen
import Derived.Test.YtomapdedajdkkabHead
namespace Go.Proofs.Ytomapdedajdkkab
open Go.RowKit

set_option maxHeartbeats 8000000 in
theorem lawExactHoldCart (l : List (Int × Int)) (u : Value) (c : List (Int × Int)) (v : Value) (w : World) (hu : Rd w 2 u l.length (pr l)) (hv : Rd w 2 v c.length (pr c)) :
    Calls Try.prog 10 #[u, v] w fun e w' => e = .returned (.bool true) ∧ Below w.heap.size w w' := by
  have hm := hu.len
  have hm2 := hv.len
  unfold maxLen at hm hm2
  obtain ⟨ao, cap, rfl, _⟩ := hu.pairs
  obtain ⟨bo, cap2, rfl, _⟩ := hv.pairs
  have HV := Lib.hid hu
  have HW := Lib.hid hv
  have hne : (movedOk l c (-1) 1 != movedOk l c (-1) 1) = false := by simp
  have hlen := movedR_len l c (-1) 1
  clear hu hv
  by_cases hn : l.length ≤ 1048576
  · have hsz : Hid (szL 1048576 l.length = 1048576 - l.length) := by rw [Hid, szL, if_neg (by omega)]
    by_cases hc0 : c.length ≤ 1048576 - l.length
    · have hsz2 : Hid (szL (1048576 - l.length) c.length = 1048576 - l.length - c.length) := by rw [Hid, szL, if_neg (by omega)]
      have hc : c.length ≤ 1048576 := by omega
      go_enter Try.func10, Try.ntmps10
      go_wp2_with fail
      refine (szStockS_any _ _ _ _ _ (by omega) (by omega) (by omega)).mono ?_
      rintro e w0 ⟨rfl, rfl⟩
      rw [hsz.out]
      go_wp2_with fail
      refine (szLineS_any _ _ _ _ _ (by omega) (by omega) (by omega)).mono ?_
      rintro e w0 ⟨rfl, rfl⟩
      rw [hsz2.out]
      go_wp2_with fail
      refine (toStockS_any l _ _ HV.out hn).mono ?_
      rintro e w1 ⟨v_s0, rfl, ho, hb⟩
      have B1 := hb
      have Z1 := hb.size
      have s0_1 := Lib.hid ho
      have L_s0 := Lib.hid (fun k hk => ho.lt k hk)
      clear ho hb
      go_wp2_with fail
      refine (toLineS_any c _ _ (HW.out.below B1 (Nat.le_refl _)) hc).mono ?_
      rintro e w2 ⟨v_s1, rfl, ho, hb⟩
      have s0_2 := Lib.hid (ownsRow_below s0_1.out hb (Nat.le_refl _))
      have B2 := B1.trans (hb.mono B1.size)
      have Z2 := hb.size
      have s1_2 := Lib.hid ho
      have L_s1 := Lib.hid (fun k hk => ho.lt k hk)
      clear ho hb s0_1 B1
      go_wp2_with fail
      refine (specHold_any _ l _ c _ _ s0_2.out (Rd.of_owns s1_2.out)).mono ?_
      rintro e w3 ⟨v_g1, rfl, ho, hb⟩
      have s0_3 := Lib.hid (ownsRow_below s0_2.out hb (Nat.le_refl _))
      have s1_3 := Lib.hid (ownsRow_below s1_2.out hb (Nat.le_refl _))
      have B3 := B2.trans (hb.mono B2.size)
      have Z3 := hb.size
      have g1_3 := Lib.hid ho
      have L_g1 := Lib.hid (fun k hk => ho.lt k hk)
      clear ho hb s0_2 s1_2 B2
      go_wp2_with fail
      refine (toStockS_any l _ _ (HV.out.below B3 (Nat.le_refl _)) hn).mono ?_
      rintro e w4 ⟨v_x0, rfl, ho, hb⟩
      have g1_4 := Lib.hid (ownsRow_below g1_3.out hb (Nat.le_refl _))
      have B4 := B3.trans (hb.mono B3.size)
      have Z4 := hb.size
      have x0_4 := Lib.hid ho
      have L_x0 := Lib.hid (fun k hk => ho.lt k hk)
      clear ho hb g1_3 B3
      go_wp2_with fail
      refine (toLineS_any c _ _ (HW.out.below B4 (Nat.le_refl _)) hc).mono ?_
      rintro e w5 ⟨v_x1, rfl, ho, hb⟩
      have g1_5 := Lib.hid (ownsRow_below g1_4.out hb (Nat.le_refl _))
      have x0_5 := Lib.hid (ownsRow_below x0_4.out hb (Nat.le_refl _))
      have B5 := B4.trans (hb.mono B4.size)
      have Z5 := hb.size
      have x1_5 := Lib.hid ho
      have L_x1 := Lib.hid (fun k hk => ho.lt k hk)
      clear ho hb g1_4 x0_4 B4
      go_wp2_with fail
      refine (implHold_any _ l _ c _ _ x0_5.out (Rd.of_owns x1_5.out)).mono ?_
      rintro e w6 ⟨v_g0, rfl, ho, hb⟩
      have g1_6 := Lib.hid (ownsRow_below g1_5.out hb (Nat.le_refl _))
      have x0_6 := Lib.hid (ownsRow_below x0_5.out hb (Nat.le_refl _))
      have x1_6 := Lib.hid (ownsRow_below x1_5.out hb (Nat.le_refl _))
      have B6 := B5.trans (hb.mono B5.size)
      have Z6 := hb.size
      have g0_6 := Lib.hid ho
      have L_g0 := Lib.hid (fun k hk => ho.lt k hk)
      clear ho hb g1_5 x0_5 x1_5 B5
      go_wp2_with fail
      refine (eqStockS_any _ _ _ _ _ (Rd.of_owns g0_6.out) (Rd.of_owns g1_6.out)).mono ?_
      rintro e w7 ⟨rfl, hb⟩
      rw [show decide (movedR l c (-1) 1 = movedR l c (-1) 1) = true by simp]
      have g1_7 := Lib.hid (ownsRow_below g1_6.out hb (Nat.le_refl _))
      have x0_7 := Lib.hid (ownsRow_below x0_6.out hb (Nat.le_refl _))
      have x1_7 := Lib.hid (ownsRow_below x1_6.out hb (Nat.le_refl _))
      have g0_7 := Lib.hid (ownsRow_below g0_6.out hb (Nat.le_refl _))
      have B7 := B6.trans (hb.mono B6.size)
      have Z7 := hb.size
      clear hb g1_6 x0_6 x1_6 g0_6 B6
      go_wp2_with fail
      refine (toStockS_any l _ _ (HV.out.below B7 (Nat.le_refl _)) hn).mono ?_
      rintro e w8 ⟨v_t0, rfl, ho, hb⟩
      have g1_8 := Lib.hid (ownsRow_below g1_7.out hb (Nat.le_refl _))
      have x0_8 := Lib.hid (ownsRow_below x0_7.out hb (Nat.le_refl _))
      have x1_8 := Lib.hid (ownsRow_below x1_7.out hb (Nat.le_refl _))
      have g0_8 := Lib.hid (ownsRow_below g0_7.out hb (Nat.le_refl _))
      have B8 := B7.trans (hb.mono B7.size)
      have Z8 := hb.size
      have t0_8 := Lib.hid ho
      have L_t0 := Lib.hid (fun k hk => ho.lt k hk)
      clear ho hb g1_7 x0_7 x1_7 g0_7 B7
      go_wp2_with fail
      refine (eqStockS_any _ _ _ _ _ (Rd.of_owns x0_8.out) (Rd.of_owns t0_8.out)).mono ?_
      rintro e w9 ⟨rfl, hb⟩
      rw [show decide (l = l) = true by simp]
      have g1_9 := Lib.hid (ownsRow_below g1_8.out hb (Nat.le_refl _))
      have x0_9 := Lib.hid (ownsRow_below x0_8.out hb (Nat.le_refl _))
      have x1_9 := Lib.hid (ownsRow_below x1_8.out hb (Nat.le_refl _))
      have g0_9 := Lib.hid (ownsRow_below g0_8.out hb (Nat.le_refl _))
      have t0_9 := Lib.hid (ownsRow_below t0_8.out hb (Nat.le_refl _))
      have B9 := B8.trans (hb.mono B8.size)
      have Z9 := hb.size
      clear hb g1_8 x0_8 x1_8 g0_8 t0_8 B8
      go_wp2_with fail
      refine (toLineS_any c _ _ (HW.out.below B9 (Nat.le_refl _)) hc).mono ?_
      rintro e w10 ⟨v_t1, rfl, ho, hb⟩
      have g1_10 := Lib.hid (ownsRow_below g1_9.out hb (Nat.le_refl _))
      have x0_10 := Lib.hid (ownsRow_below x0_9.out hb (Nat.le_refl _))
      have x1_10 := Lib.hid (ownsRow_below x1_9.out hb (Nat.le_refl _))
      have g0_10 := Lib.hid (ownsRow_below g0_9.out hb (Nat.le_refl _))
      have B10 := B9.trans (hb.mono B9.size)
      have Z10 := hb.size
      have t1_10 := Lib.hid ho
      have L_t1 := Lib.hid (fun k hk => ho.lt k hk)
      clear ho hb g1_9 x0_9 x1_9 g0_9 B9
      go_wp2_with fail
      refine (eqLineS_any _ _ _ _ _ (Rd.of_owns x1_10.out) (Rd.of_owns t1_10.out)).mono ?_
      rintro e w11 ⟨rfl, hb⟩
      rw [show decide (c = c) = true by simp]
      have g1_11 := Lib.hid (ownsRow_below g1_10.out hb (Nat.le_refl _))
      have x0_11 := Lib.hid (ownsRow_below x0_10.out hb (Nat.le_refl _))
      have x1_11 := Lib.hid (ownsRow_below x1_10.out hb (Nat.le_refl _))
      have g0_11 := Lib.hid (ownsRow_below g0_10.out hb (Nat.le_refl _))
      have t1_11 := Lib.hid (ownsRow_below t1_10.out hb (Nat.le_refl _))
      have B11 := B10.trans (hb.mono B10.size)
      have Z11 := hb.size
      clear hb g1_10 x0_10 x1_10 g0_10 t1_10 B10
      go_wp2_with fail
      refine (markStockS_any _ _ _ 1 _ x0_11.out (by omega) (by omega) (by omega)).mono ?_
      rintro e w12 ⟨rfl, ho, hg⟩
      have g1_12 := Lib.hid (owns_apart g1_11.out hg (fun k k' h1 h2 => by have := L_g1.out k h1; have := L_x0.out k' h2; omega))
      have x1_12 := Lib.hid (owns_apart x1_11.out hg (fun k k' h1 h2 => by have := L_x1.out k h1; have := L_x0.out k' h2; omega))
      have g0_12 := Lib.hid (owns_apart g0_11.out hg (fun k k' h1 h2 => by have := L_g0.out k h1; have := L_x0.out k' h2; omega))
      have B12 := B11.grown hg B11.size (fun k hk => by have := L_x0.out k hk; omega)
      have Z12 := hg.size
      clear ho hg g1_11 x1_11 g0_11 B11 x0_11
      go_wp2_with fail
      refine (markLineS_any _ _ _ _ _ x1_12.out (by omega) (by omega) (by omega)).mono ?_
      rintro e w13 ⟨rfl, ho, hg⟩
      have g1_13 := Lib.hid (owns_apart g1_12.out hg (fun k k' h1 h2 => by have := L_g1.out k h1; have := L_x1.out k' h2; omega))
      have g0_13 := Lib.hid (owns_apart g0_12.out hg (fun k k' h1 h2 => by have := L_g0.out k h1; have := L_x1.out k' h2; omega))
      have B13 := B12.grown hg B12.size (fun k hk => by have := L_x1.out k hk; omega)
      have Z13 := hg.size
      clear ho hg g1_12 g0_12 B12 x1_12
      go_wp2_with fail
      refine (eqStockS_any _ _ _ _ _ (Rd.of_owns g0_13.out) (Rd.of_owns g1_13.out)).mono ?_
      rintro e w14 ⟨rfl, hb⟩
      rw [show decide (movedR l c (-1) 1 = movedR l c (-1) 1) = true by simp]
      have g1_14 := Lib.hid (ownsRow_below g1_13.out hb (Nat.le_refl _))
      have g0_14 := Lib.hid (ownsRow_below g0_13.out hb (Nat.le_refl _))
      have B14 := B13.trans (hb.mono B13.size)
      have Z14 := hb.size
      clear hb g1_13 g0_13 B13
      go_wp2_with fail
      refine (markStockS_any _ _ _ 1 _ g0_14.out (by omega) (by omega) (by omega)).mono ?_
      rintro e w15 ⟨rfl, ho, hg⟩
      have g1_15 := Lib.hid (owns_apart g1_14.out hg (fun k k' h1 h2 => by have := L_g1.out k h1; have := L_g0.out k' h2; omega))
      have B15 := B14.grown hg B14.size (fun k hk => by have := L_g0.out k hk; omega)
      have Z15 := hg.size
      have g0_15 : Hid (Rd w15 2 v_g0 (marks 1 (movedR l c (-1) 1).length).length (pr (marks 1 (movedR l c (-1) 1).length))) := by
        rw [Hid, marks_len]; exact Rd.of_owns ho
      clear ho hg g1_14 B14 g0_14
      have HML := Lib.hid (marks_len 1 (movedR l c (-1) 1).length)
      have HMK : Hid (marks 1 (movedR l c (-1) 1).length = marks 1 (marks 1 (movedR l c (-1) 1).length).length) := by rw [Hid, HML.out]
      go_wp2_with fail
      refine (heldStockS_any _ _ 1 _ g0_15.out (by rw [HML.out]; omega) (by omega) (by omega) HMK.out).mono ?_
      rintro e wh ⟨rfl, rfl⟩
      rw [HML.out]
      go_wp2_with fail
      refine (toStockS_any l _ _ (HV.out.below B15 (Nat.le_refl _)) hn).mono ?_
      rintro e w16 ⟨v_y0, rfl, ho, hb⟩
      have g1_16 := Lib.hid (ownsRow_below g1_15.out hb (Nat.le_refl _))
      have g0_16 := Lib.hid (g0_15.out.below hb (Nat.le_refl _))
      have B16 := B15.trans (hb.mono B15.size)
      have Z16 := hb.size
      have y0_16 := Lib.hid ho
      have L_y0 := Lib.hid (fun k hk => ho.lt k hk)
      clear ho hb g1_15 g0_15 B15
      go_wp2_with fail
      refine (toLineS_any c _ _ (HW.out.below B16 (Nat.le_refl _)) hc).mono ?_
      rintro e w17 ⟨v_y1, rfl, ho, hb⟩
      have g1_17 := Lib.hid (ownsRow_below g1_16.out hb (Nat.le_refl _))
      have g0_17 := Lib.hid (g0_16.out.below hb (Nat.le_refl _))
      have y0_17 := Lib.hid (ownsRow_below y0_16.out hb (Nat.le_refl _))
      have B17 := B16.trans (hb.mono B16.size)
      have Z17 := hb.size
      have y1_17 := Lib.hid ho
      have L_y1 := Lib.hid (fun k hk => ho.lt k hk)
      clear ho hb g1_16 g0_16 y0_16 B16
      go_wp2_with fail
      refine (implHold_any _ l _ c _ _ y0_17.out (Rd.of_owns y1_17.out)).mono ?_
      rintro e w18 ⟨v_h0, rfl, ho, hb⟩
      have g1_18 := Lib.hid (ownsRow_below g1_17.out hb (Nat.le_refl _))
      have g0_18 := Lib.hid (g0_17.out.below hb (Nat.le_refl _))
      have y0_18 := Lib.hid (ownsRow_below y0_17.out hb (Nat.le_refl _))
      have y1_18 := Lib.hid (ownsRow_below y1_17.out hb (Nat.le_refl _))
      have B18 := B17.trans (hb.mono B17.size)
      have Z18 := hb.size
      have h0_18 := Lib.hid ho
      have L_h0 := Lib.hid (fun k hk => ho.lt k hk)
      clear ho hb g1_17 g0_17 y0_17 y1_17 B17
      go_wp2_with fail
      refine (eqStockS_any _ _ _ _ _ (Rd.of_owns h0_18.out) (Rd.of_owns g1_18.out)).mono ?_
      rintro e w19 ⟨rfl, hb⟩
      rw [show decide (movedR l c (-1) 1 = movedR l c (-1) 1) = true by simp]
      have g1_19 := Lib.hid (ownsRow_below g1_18.out hb (Nat.le_refl _))
      have g0_19 := Lib.hid (g0_18.out.below hb (Nat.le_refl _))
      have h0_19 := Lib.hid (ownsRow_below h0_18.out hb (Nat.le_refl _))
      have B19 := B18.trans (hb.mono B18.size)
      have Z19 := hb.size
      clear hb g1_18 g0_18 h0_18 B18
      go_wp2_with fail
      refine (heldStockS_any _ _ 1 _ g0_19.out (by rw [HML.out]; omega) (by omega) (by omega) HMK.out).mono ?_
      rintro e wh ⟨rfl, rfl⟩
      rw [HML.out]
      go_wp2
      go_ret
      exact ⟨rfl, B19⟩
    · have hsz2 : Hid (szL (1048576 - l.length) c.length = -1) := by rw [Hid, szL, if_pos (by omega)]
      go_enter Try.func10, Try.ntmps10
      go_wp2_with fail
      refine (szStockS_any _ _ _ _ _ (by omega) (by omega) (by omega)).mono ?_
      rintro e w0 ⟨rfl, rfl⟩
      rw [hsz.out]
      go_wp2_with fail
      refine (szLineS_any _ _ _ _ _ (by omega) (by omega) (by omega)).mono ?_
      rintro e w0 ⟨rfl, rfl⟩
      rw [hsz2.out]
      go_wp2
      go_ret
      exact ⟨rfl, Below.refl _ _⟩
  · have hsz : Hid (szL 1048576 l.length = -1) := by rw [Hid, szL, if_pos (by omega)]
    go_enter Try.func10, Try.ntmps10
    go_wp2_with fail
    refine (szStockS_any _ _ _ _ _ (by omega) (by omega) (by omega)).mono ?_
    rintro e w0 ⟨rfl, rfl⟩
    rw [hsz.out]
    go_wp2
    go_ret
    exact ⟨rfl, Below.refl _ _⟩

open Go.ChangeShapes Go.WideShapes Go.ChangeAt

theorem lawOwn : ownKnob Try.prog.godebug = none := by kernel_rfl
theorem lawOut : laidOutB Try.prog = true := by kernel_rfl

set_option linter.unusedVariables false in
set_option maxRecDepth 100000 in
theorem liftedExactHoldCart (os : Os) (started : os.Started) (H : Type) (enc : TypeId × Value → H) :
    ReturnsInHanded {} Try.checked os 10 .any (Rows.fnExactHoldCartSpec.pre6 enc Try.prog Try.f10 Rows.fnExactHoldCartRow.domain false) (Rows.fnExactHoldCartSpec.post enc Try.prog Try.f10 false true false false) := by
  refine returnsInHanded_of_change (C := Try.checked) lawOwn started (by kernel_rfl) Try.func10
    (ChangeSpec.witness6 (enc := enc) (C := Try.checked) false ⟨#[], #[.slice none 0 0, .slice none 0 0], []⟩ 8 (by kernel_rfl) (by kernel_rfl) (by kernel_rfl) (by kernel_rfl)) ?_
  intro W base args ds gs before hval0 hW hcnd _
  have hval : ∀ (j : Nat) t v, Try.f10.params[j]? = some t → args[j]? = some v → Value.okWide Try.prog W .any base t v := hval0
  have hW' := hW
  obtain ⟨p, q, hA0, hV, rfl, hfz, hnd⟩ := hW
  have hA : DataW.TrodAll enc Try.prog W 0 (fun _ => true) true Try.f10.params.toList args.toList ds p := hA0
  rw [Try.params10] at hA hval
  obtain ⟨v0, vs0, d0, ds0, p0, q0, hargs, rfl, rfl, h0, r0⟩ := trodAll_cons hA
  obtain ⟨v1, vs1, d1, ds1, p1, q1, rfl, rfl, rfl, h1, r1⟩ := trodAll_cons r0
  obtain ⟨rfl, rfl, rfl⟩ := trodAll_nil r1
  obtain rfl : args = #[v0, v1] := by cases args; simp_all
  obtain ⟨rfl, rfl⟩ := trodVars_none hV
  have k0 := h0
  have lt0 : ∀ x ∈ p0, x.block < W.heap.size := by obtain ⟨m, hm⟩ := k0; exact DataW.trod_lt m _ _ _ hm
  have k1 := h1
  have lt1 : ∀ x ∈ p1, x.block < W.heap.size := by obtain ⟨m, hm⟩ := k1; exact DataW.trod_lt m _ _ _ hm
  clear hA0 hval0
  obtain ⟨z0, w0⟩ : ∃ z : List (Int × Int), Rd W 2 v0 z.length (pr z) := by
    obtain ⟨a0, n0, c0, rfl⟩ := okWide_slice Try.underlying63 (hval 0 63 v0 rfl rfl)
    obtain ⟨fuel, hf⟩ := h0
    exact open_prs Try.underlying63 Try.underlying101 (by kernel_rfl) rfl rfl (by kernel_rfl) (by kernel_rfl) Try.underlying3 Try.underlying3 hf
  obtain ⟨z1, w1⟩ : ∃ z : List (Int × Int), Rd W 2 v1 z.length (pr z) := by
    obtain ⟨a0, n0, c0, rfl⟩ := okWide_slice Try.underlying23 (hval 1 23 v1 rfl rfl)
    obtain ⟨fuel, hf⟩ := h1
    exact open_prs Try.underlying23 Try.underlying93 (by kernel_rfl) rfl rfl (by kernel_rfl) (by kernel_rfl) Try.underlying3 Try.underlying3 hf
  refine (lawExactHoldCart z0 v0 z1 v1 W w0 w1).mono fun e W' ⟨he, bel⟩ => ?_
  subst he
  exact ⟨_, rfl, _, _, _, [], _, [], hW', trodAll_mk1 (shut_bool Try.underlying4 _), (trodAll_cons_mk (Below.trod lawOut (by kernel_rfl) (of_decide_eq_true (by kernel_rfl)) k0 bel lt0) (trodAll_cons_mk (Below.trod lawOut (by kernel_rfl) (of_decide_eq_true (by kernel_rfl)) k1 bel lt1) trodAll_mk0)), rfl, bel.frame _, fun h => by cases h⟩

theorem closedExactHoldCart : joinedFacts Try.pinned.checked.prog 10 Try.f10 Rows.fnExactHoldCartSpec Rows.fnExactHoldCartRow = true := by
  unfold joinedFacts
  rw [headEnters, headMake, headFinal]
  kernel_rfl

theorem holdsExactHoldCart : Rows.FnExactHoldCartSaid :=
  OpenClaim.holds_of_wide 10 Try.f10 rfl rfl rfl rfl rfl rfl rfl ⟨rfl, rfl, rfl, rfl, rfl⟩ rfl rfl rfl rfl rfl (by kernel_rfl) Try.func10 closedExactHoldCart
    (of_decide_eq_true (by kernel_rfl)) (by unfold Func.isWrapper; first | (rw [if_pos (by decide +kernel)]; kernel_rfl) | (rw [if_neg (by decide +kernel)]; exact ⟨rfl, rfl⟩))
    (fun os started H enc _ => liftedExactHoldCart os started H enc)

#print axioms holdsExactHoldCart

end Go.Proofs.Ytomapdedajdkkab
