/- The program's ShippingOf returns what the reference's returns, for all arguments. Conditions: none. -/
import Derived.Test.YteeehgicegmbjaaVC
import Derived.Test.YteeehgicegmbjaaVB
import Derived.Test.YteeehgicegmbjaaOpen
import Derived.Test.YteeehgicegmbjaaHead
namespace Go.Proofs.Yteeehgicegmbjaa
open Go.RowKit

set_option maxHeartbeats 1000000 in
theorem walkExactShippingOf (l : List (Int × Int)) (v : Value) (d0 d1 d2 : Int) (w : World) (hv : Rd w 2 v l.length (pr l)) :
    Calls Try.prog 8 #[v, .int .i64 d0, .int .i64 d1, .int .i64 d2] w fun e w' => e = .returned (.bool true) ∧ Below w.heap.size w w' := by
  have hm := hv.len
  unfold maxLen at hm
  obtain ⟨ao, cap, rfl, _⟩ := hv.pairs
  have HV := Lib.hid hv
  clear hv
  by_cases hn : l.length ≤ 1048576
  · have hsz : Hid (szL 1048576 l.length = 1048576 - l.length) := by rw [Hid, szL, if_neg (by omega)]
    go_enter Try.func8, Try.ntmps8
    go_wp2_with fail
    refine (szBandS_any _ _ _ _ _ (by omega) (by omega) (by omega)).mono ?_
    rintro e w1 ⟨rfl, rfl⟩
    rw [hsz.out]
    go_wp2_with fail
    refine (toBandS_any l _ _ HV.out hn).mono ?_
    rintro e w1 ⟨u1, rfl, ho1, hb1⟩
    have R1 := Lib.hid (Rd.of_owns ho1)
    clear ho1
    go_wp2_with fail
    refine (specShip_any l _ _ _ _ _ R1.out).mono ?_
    rintro e w2 ⟨rfl, hb2⟩
    have B2 := hb1.trans (hb2.mono hb1.size)
    clear hb1 hb2
    go_wp2_with fail
    refine (toBandS_any l _ _ (HV.out.below B2 (Nat.le_refl _)) hn).mono ?_
    rintro e w3 ⟨u3, rfl, ho3, hb3⟩
    have B3 := B2.trans (hb3.mono B2.size)
    have R3 := Lib.hid (Rd.of_owns ho3)
    clear B2 hb3 ho3
    go_wp2_with fail
    refine (implShip_any l _ _ _ _ _ R3.out).mono ?_
    rintro e w4 ⟨rfl, hb4⟩
    have B4 := B3.trans (hb4.mono B3.size)
    have R4 := Lib.hid (R3.out.below hb4 (Nat.le_refl _))
    clear B3 hb4 R3 R1
    have hb : (fShip l d0 d1 d2 != fShip l d0 d1 d2) = false := by simp
    go_wp2_with fail
    refine (toBandS_any l _ _ (HV.out.below B4 (Nat.le_refl _)) hn).mono ?_
    rintro e w5 ⟨u5, rfl, ho5, hb5⟩
    have B5 := B4.trans (hb5.mono B4.size)
    have R5 := Lib.hid (Rd.of_owns ho5)
    have R4' := Lib.hid (R4.out.below hb5 (Nat.le_refl _))
    clear B4 hb5 R4 ho5
    go_wp2_with fail
    refine (eqBandS_any l l _ _ _ R4'.out R5.out).mono ?_
    rintro e w6 ⟨rfl, hb6⟩
    have B6 := B5.trans (hb6.mono B5.size)
    rw [show decide (l = l) = true by simp]
    go_wp2
    go_ret
    exact ⟨rfl, B6⟩
  · have hsz : Hid (szL 1048576 l.length = -1) := by rw [Hid, szL, if_pos (by omega)]
    go_enter Try.func8, Try.ntmps8
    go_wp2_with fail
    refine (szBandS_any _ _ _ _ _ (by omega) (by omega) (by omega)).mono ?_
    rintro e w1 ⟨rfl, rfl⟩
    rw [hsz.out]
    go_wp2
    go_ret
    exact ⟨rfl, Below.refl _ _⟩

theorem lawExactShippingOf (l : List (Int × Int)) (v : Value) (d0 : Int) (v1 : Value) (d1 : Int) (v2 : Value) (d2 : Int) (v3 : Value) (w : World) (hv : Rd w 2 v l.length (pr l)) (e0 : v1 = .int .i64 d0 ∧ -9223372036854775808 ≤ d0 ∧ d0 ≤ 9223372036854775807) (e1 : v2 = .int .i64 d1 ∧ -9223372036854775808 ≤ d1 ∧ d1 ≤ 9223372036854775807) (e2 : v3 = .int .i64 d2 ∧ -9223372036854775808 ≤ d2 ∧ d2 ≤ 9223372036854775807) :
    Calls Try.prog 8 #[v, v1, v2, v3] w fun e w' => e = .returned (.bool true) ∧ Below w.heap.size w w' := by
  obtain ⟨rfl, _⟩ := e0
  obtain ⟨rfl, _⟩ := e1
  obtain ⟨rfl, _⟩ := e2
  exact walkExactShippingOf l v d0 d1 d2 w hv

open Go.ChangeShapes Go.WideShapes Go.ChangeAt

theorem lawOwn : ownKnob Try.prog.godebug = none := by kernel_rfl
theorem lawOut : laidOutB Try.prog = true := by kernel_rfl

set_option linter.unusedVariables false in
set_option maxRecDepth 100000 in
theorem liftedExactShippingOf (os : Os) (started : os.Started) (H : Type) (enc : TypeId × Value → H) :
    ReturnsInHanded {} Try.checked os 8 .any (Rows.fnExactShippingOfSpec.pre6 enc Try.prog Try.f8 Rows.fnExactShippingOfRow.domain false) (Rows.fnExactShippingOfSpec.post enc Try.prog Try.f8 false true false false) := by
  refine returnsInHanded_of_change (C := Try.checked) lawOwn started (by kernel_rfl) Try.func8
    (ChangeSpec.witness6 (enc := enc) (C := Try.checked) false ⟨#[], #[.slice none 0 0, .int .i64 0, .int .i64 0, .int .i64 0], []⟩ 8 (by kernel_rfl) (by kernel_rfl) (by kernel_rfl) (by kernel_rfl)) ?_
  intro W base args ds gs before hval0 hW hcnd _
  have hval : ∀ (j : Nat) t v, Try.f8.params[j]? = some t → args[j]? = some v → Value.okWide Try.prog W .any base t v := hval0
  have hW' := hW
  obtain ⟨p, q, hA0, hV, rfl, hfz, hnd⟩ := hW
  have hA : DataW.TrodAll enc Try.prog W 0 (fun _ => true) true Try.f8.params.toList args.toList ds p := hA0
  rw [Try.params8] at hA hval
  obtain ⟨v0, vs0, d0, ds0, p0, q0, hargs, rfl, rfl, h0, r0⟩ := trodAll_cons hA
  obtain ⟨v1, vs1, d1, ds1, p1, q1, rfl, rfl, rfl, h1, r1⟩ := trodAll_cons r0
  obtain ⟨v2, vs2, d2, ds2, p2, q2, rfl, rfl, rfl, h2, r2⟩ := trodAll_cons r1
  obtain ⟨v3, vs3, d3, ds3, p3, q3, rfl, rfl, rfl, h3, r3⟩ := trodAll_cons r2
  obtain ⟨rfl, rfl, rfl⟩ := trodAll_nil r3
  obtain rfl : args = #[v0, v1, v2, v3] := by cases args; simp_all
  obtain ⟨rfl, rfl⟩ := trodVars_none hV
  have k0 := h0
  have lt0 : ∀ x ∈ p0, x.block < W.heap.size := by obtain ⟨m, hm⟩ := k0; exact DataW.trod_lt m _ _ _ hm
  have k1 := h1
  have lt1 : ∀ x ∈ p1, x.block < W.heap.size := by obtain ⟨m, hm⟩ := k1; exact DataW.trod_lt m _ _ _ hm
  have k2 := h2
  have lt2 : ∀ x ∈ p2, x.block < W.heap.size := by obtain ⟨m, hm⟩ := k2; exact DataW.trod_lt m _ _ _ hm
  have k3 := h3
  have lt3 : ∀ x ∈ p3, x.block < W.heap.size := by obtain ⟨m, hm⟩ := k3; exact DataW.trod_lt m _ _ _ hm
  clear hA0 hval0
  obtain ⟨z0, w0⟩ : ∃ z : List (Int × Int), Rd W 2 v0 z.length (pr z) := by
    obtain ⟨a0, n0, c0, rfl⟩ := okWide_slice Try.underlying27 (hval 0 27 v0 rfl rfl)
    obtain ⟨fuel, hf⟩ := h0
    exact open_prs Try.underlying27 Try.underlying57 (by kernel_rfl) rfl rfl (by kernel_rfl) (by kernel_rfl) Try.underlying3 Try.underlying3 hf
  obtain ⟨z1, w1⟩ : ∃ z : Int, v1 = .int .i64 z ∧ -9223372036854775808 ≤ z ∧ z ≤ 9223372036854775807 := by
    obtain ⟨x, rfl, _, _, wx⟩ := open_int Try.underlying3 (hval 1 3 v1 rfl rfl) h1
    exact ⟨x, rfl, wf_bounds wx⟩
  obtain ⟨z2, w2⟩ : ∃ z : Int, v2 = .int .i64 z ∧ -9223372036854775808 ≤ z ∧ z ≤ 9223372036854775807 := by
    obtain ⟨x, rfl, _, _, wx⟩ := open_int Try.underlying3 (hval 2 3 v2 rfl rfl) h2
    exact ⟨x, rfl, wf_bounds wx⟩
  obtain ⟨z3, w3⟩ : ∃ z : Int, v3 = .int .i64 z ∧ -9223372036854775808 ≤ z ∧ z ≤ 9223372036854775807 := by
    obtain ⟨x, rfl, _, _, wx⟩ := open_int Try.underlying3 (hval 3 3 v3 rfl rfl) h3
    exact ⟨x, rfl, wf_bounds wx⟩
  refine (lawExactShippingOf z0 v0 z1 v1 z2 v2 z3 v3 W w0 w1 w2 w3).mono fun e W' ⟨he, bel⟩ => ?_
  subst he
  exact ⟨_, rfl, _, _, _, [], _, [], hW', trodAll_mk1 (shut_bool Try.underlying4 _), (trodAll_cons_mk (Below.trod lawOut (by kernel_rfl) (of_decide_eq_true (by kernel_rfl)) k0 bel lt0) (trodAll_cons_mk (Below.trod lawOut (by kernel_rfl) (of_decide_eq_true (by kernel_rfl)) k1 bel lt1) (trodAll_cons_mk (Below.trod lawOut (by kernel_rfl) (of_decide_eq_true (by kernel_rfl)) k2 bel lt2) (trodAll_cons_mk (Below.trod lawOut (by kernel_rfl) (of_decide_eq_true (by kernel_rfl)) k3 bel lt3) trodAll_mk0)))), rfl, bel.frame _, fun h => by cases h⟩

theorem closedExactShippingOf : joinedFacts Try.pinned.checked.prog 8 Try.f8 Rows.fnExactShippingOfSpec Rows.fnExactShippingOfRow = true := by
  unfold joinedFacts
  rw [headEnters, headMake, headFinal]
  kernel_rfl

theorem holdsExactShippingOf : Rows.FnExactShippingOfSaid :=
  OpenClaim.holds_of_wide 8 Try.f8 rfl rfl rfl rfl rfl rfl rfl ⟨rfl, rfl, rfl, rfl, rfl⟩ rfl rfl rfl rfl rfl (by kernel_rfl) Try.func8 closedExactShippingOf
    (of_decide_eq_true (by kernel_rfl)) (by unfold Func.isWrapper; first | (rw [if_pos (by decide +kernel)]; kernel_rfl) | (rw [if_neg (by decide +kernel)]; exact ⟨rfl, rfl⟩))
    (fun os started H enc _ => liftedExactShippingOf os started H enc)

#print axioms holdsExactShippingOf

end Go.Proofs.Yteeehgicegmbjaa
