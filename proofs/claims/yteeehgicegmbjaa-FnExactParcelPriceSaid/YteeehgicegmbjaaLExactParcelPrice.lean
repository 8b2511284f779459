/- The program's ParcelPrice returns what the reference's returns, for all arguments. Conditions: none. -/
import Derived.Test.YteeehgicegmbjaaVC
import Derived.Test.YteeehgicegmbjaaVB
import Derived.Test.YteeehgicegmbjaaOpen
import Derived.Test.YteeehgicegmbjaaHead
namespace Go.Proofs.Yteeehgicegmbjaa
open Go.RowKit

set_option maxHeartbeats 1000000 in
theorem walkExactParcelPrice (l : List (Int × Int)) (v : Value) (d0 : Int) (w : World) (hv : Rd w 2 v l.length (pr l)) :
    Calls Try.prog 5 #[v, .int .i64 d0] w fun e w' => e = .returned (.bool true) ∧ Below w.heap.size w w' := by
  have hm := hv.len
  unfold maxLen at hm
  obtain ⟨ao, cap, rfl, _⟩ := hv.pairs
  have HV := Lib.hid hv
  clear hv
  by_cases hn : l.length ≤ 1048576
  · have hsz : Hid (szL 1048576 l.length = 1048576 - l.length) := by rw [Hid, szL, if_neg (by omega)]
    go_enter Try.func5, Try.ntmps5
    go_wp2_with fail
    refine (szBandS_any _ _ _ _ _ (by omega) (by omega) (by omega)).mono ?_
    rintro e w1 ⟨rfl, rfl⟩
    rw [hsz.out]
    go_wp2_with fail
    refine (toBandS_any l _ _ HV.out hn).mono ?_
    rintro e w1 ⟨u1, rfl, ho1, hb1⟩
    have R1 := Lib.hid (Rd.of_owns ho1)
    clear ho1
    go_wp2_with fail
    refine (specParcelPrice_any l _ _ _ R1.out).mono ?_
    rintro e w2 ⟨rfl, hb2⟩
    have B2 := hb1.trans (hb2.mono hb1.size)
    clear hb1 hb2
    go_wp2_with fail
    refine (toBandS_any l _ _ (HV.out.below B2 (Nat.le_refl _)) hn).mono ?_
    rintro e w3 ⟨u3, rfl, ho3, hb3⟩
    have B3 := B2.trans (hb3.mono B2.size)
    have R3 := Lib.hid (Rd.of_owns ho3)
    clear B2 hb3 ho3
    go_wp2_with fail
    refine (implParcelPrice_any l _ _ _ R3.out).mono ?_
    rintro e w4 ⟨rfl, hb4⟩
    have B4 := B3.trans (hb4.mono B3.size)
    have R4 := Lib.hid (R3.out.below hb4 (Nat.le_refl _))
    clear B3 hb4 R3 R1
    have hb : (fParcel l d0 != fParcel l d0) = false := by simp
    go_wp2_with fail
    refine (toBandS_any l _ _ (HV.out.below B4 (Nat.le_refl _)) hn).mono ?_
    rintro e w5 ⟨u5, rfl, ho5, hb5⟩
    have B5 := B4.trans (hb5.mono B4.size)
    have R5 := Lib.hid (Rd.of_owns ho5)
    have R4' := Lib.hid (R4.out.below hb5 (Nat.le_refl _))
    clear B4 hb5 R4 ho5
    go_wp2_with fail
    refine (eqBandS_any l l _ _ _ R4'.out R5.out).mono ?_
    rintro e w6 ⟨rfl, hb6⟩
    have B6 := B5.trans (hb6.mono B5.size)
    rw [show decide (l = l) = true by simp]
    go_wp2
    go_ret
    exact ⟨rfl, B6⟩
  · have hsz : Hid (szL 1048576 l.length = -1) := by rw [Hid, szL, if_pos (by omega)]
    go_enter Try.func5, Try.ntmps5
    go_wp2_with fail
    refine (szBandS_any _ _ _ _ _ (by omega) (by omega) (by omega)).mono ?_
    rintro e w1 ⟨rfl, rfl⟩
    rw [hsz.out]
    go_wp2
    go_ret
    exact ⟨rfl, Below.refl _ _⟩

theorem lawExactParcelPrice (l : List (Int × Int)) (v : Value) (d0 : Int) (v1 : Value) (w : World) (hv : Rd w 2 v l.length (pr l)) (e0 : v1 = .int .i64 d0 ∧ -9223372036854775808 ≤ d0 ∧ d0 ≤ 9223372036854775807) :
    Calls Try.prog 5 #[v, v1] w fun e w' => e = .returned (.bool true) ∧ Below w.heap.size w w' := by
  obtain ⟨rfl, _⟩ := e0
  exact walkExactParcelPrice l v d0 w hv

open Go.ChangeShapes Go.WideShapes Go.ChangeAt

theorem lawOwn : ownKnob Try.prog.godebug = none := by kernel_rfl
theorem lawOut : laidOutB Try.prog = true := by kernel_rfl

set_option linter.unusedVariables false in
set_option maxRecDepth 100000 in
theorem liftedExactParcelPrice (os : Os) (started : os.Started) (H : Type) (enc : TypeId × Value → H) :
    ReturnsInHanded {} Try.checked os 5 .any (Rows.fnExactParcelPriceSpec.pre6 enc Try.prog Try.f5 Rows.fnExactParcelPriceRow.domain false) (Rows.fnExactParcelPriceSpec.post enc Try.prog Try.f5 false true false false) := by
  refine returnsInHanded_of_change (C := Try.checked) lawOwn started (by kernel_rfl) Try.func5
    (ChangeSpec.witness6 (enc := enc) (C := Try.checked) false ⟨#[], #[.slice none 0 0, .int .i64 0], []⟩ 8 (by kernel_rfl) (by kernel_rfl) (by kernel_rfl) (by kernel_rfl)) ?_
  intro W base args ds gs before hval0 hW hcnd _
  have hval : ∀ (j : Nat) t v, Try.f5.params[j]? = some t → args[j]? = some v → Value.okWide Try.prog W .any base t v := hval0
  have hW' := hW
  obtain ⟨p, q, hA0, hV, rfl, hfz, hnd⟩ := hW
  have hA : DataW.TrodAll enc Try.prog W 0 (fun _ => true) true Try.f5.params.toList args.toList ds p := hA0
  rw [Try.params5] at hA hval
  obtain ⟨v0, vs0, d0, ds0, p0, q0, hargs, rfl, rfl, h0, r0⟩ := trodAll_cons hA
  obtain ⟨v1, vs1, d1, ds1, p1, q1, rfl, rfl, rfl, h1, r1⟩ := trodAll_cons r0
  obtain ⟨rfl, rfl, rfl⟩ := trodAll_nil r1
  obtain rfl : args = #[v0, v1] := by cases args; simp_all
  obtain ⟨rfl, rfl⟩ := trodVars_none hV
  have k0 := h0
  have lt0 : ∀ x ∈ p0, x.block < W.heap.size := by obtain ⟨m, hm⟩ := k0; exact DataW.trod_lt m _ _ _ hm
  have k1 := h1
  have lt1 : ∀ x ∈ p1, x.block < W.heap.size := by obtain ⟨m, hm⟩ := k1; exact DataW.trod_lt m _ _ _ hm
  clear hA0 hval0
  obtain ⟨z0, w0⟩ : ∃ z : List (Int × Int), Rd W 2 v0 z.length (pr z) := by
    obtain ⟨a0, n0, c0, rfl⟩ := okWide_slice Try.underlying27 (hval 0 27 v0 rfl rfl)
    obtain ⟨fuel, hf⟩ := h0
    exact open_prs Try.underlying27 Try.underlying57 (by kernel_rfl) rfl rfl (by kernel_rfl) (by kernel_rfl) Try.underlying3 Try.underlying3 hf
  obtain ⟨z1, w1⟩ : ∃ z : Int, v1 = .int .i64 z ∧ -9223372036854775808 ≤ z ∧ z ≤ 9223372036854775807 := by
    obtain ⟨x, rfl, _, _, wx⟩ := open_int Try.underlying3 (hval 1 3 v1 rfl rfl) h1
    exact ⟨x, rfl, wf_bounds wx⟩
  refine (lawExactParcelPrice z0 v0 z1 v1 W w0 w1).mono fun e W' ⟨he, bel⟩ => ?_
  subst he
  exact ⟨_, rfl, _, _, _, [], _, [], hW', trodAll_mk1 (shut_bool Try.underlying4 _), (trodAll_cons_mk (Below.trod lawOut (by kernel_rfl) (of_decide_eq_true (by kernel_rfl)) k0 bel lt0) (trodAll_cons_mk (Below.trod lawOut (by kernel_rfl) (of_decide_eq_true (by kernel_rfl)) k1 bel lt1) trodAll_mk0)), rfl, bel.frame _, fun h => by cases h⟩

theorem closedExactParcelPrice : joinedFacts Try.pinned.checked.prog 5 Try.f5 Rows.fnExactParcelPriceSpec Rows.fnExactParcelPriceRow = true := by
  unfold joinedFacts
  rw [headEnters, headMake, headFinal]
  kernel_rfl

theorem holdsExactParcelPrice : Rows.FnExactParcelPriceSaid :=
  OpenClaim.holds_of_wide 5 Try.f5 rfl rfl rfl rfl rfl rfl rfl ⟨rfl, rfl, rfl, rfl, rfl⟩ rfl rfl rfl rfl rfl (by kernel_rfl) Try.func5 closedExactParcelPrice
    (of_decide_eq_true (by kernel_rfl)) (by unfold Func.isWrapper; first | (rw [if_pos (by decide +kernel)]; kernel_rfl) | (rw [if_neg (by decide +kernel)]; exact ⟨rfl, rfl⟩))
    (fun os started H enc _ => liftedExactParcelPrice os started H enc)

#print axioms holdsExactParcelPrice

end Go.Proofs.Yteeehgicegmbjaa
