/- Who buys more pays no more for shipping: ShippingOf does not grow with the amount, for every code. Conditions: none. -/
import Derived.Test.YteeehgicegmbjaaVB
import Derived.Test.YteeehgicegmbjaaVI
import Derived.Test.YteeehgicegmbjaaOpen
import Derived.Test.YteeehgicegmbjaaHead
namespace Go.Proofs.Yteeehgicegmbjaa
open Go.RowKit

set_option maxHeartbeats 2000000 in
theorem lawShippingOfMore (z : List Int) (v : Value) (w : World) (hv : Rd w 1 v z.length (z.map (Value.int .u8)) ∧ ∀ x ∈ z, 0 ≤ x ∧ x ≤ 255) :
    Calls Try.prog 10 #[v] w fun e w' => e = .returned (.bool true) ∧ Below w.heap.size w w' := by
  have hm := hv.1.len
  unfold maxLen at hm
  obtain ⟨_, ao, cap, rfl, _⟩ := hv.1
  have HV := Lib.hid hv
  clear hv
  by_cases hn : 1048576 < z.length
  · go_enter Try.func10, Try.ntmps10
    go_wp2
    go_ret
    exact ⟨rfl, Below.refl _ _⟩
  · go_enter Try.func10, Try.ntmps10
    go_wp2_with fail
    refine (drawShippingOf_any z _ _ HV.out.1 HV.out.2).mono ?_
    rintro e w1 ⟨l, u, x, a, m, rfl, ho1, hl1, ⟨hx1, hx2, ha1, ha2, hm1, hm2⟩, hb1⟩
    obtain ⟨bo, cap1, rfl, ⟨hcap1, hcap2⟩, hg⟩ := owns_shape_cap ho1
    have R1 := Lib.hid (Rd.of_owns ho1)
    have HG := Lib.hid hg
    clear ho1 hg
    go_wp2_with fail
    refine (implShip_any l _ _ _ _ _ R1.out).mono ?_
    rintro e w2 ⟨rfl, hb2⟩
    have B2 := hb1.trans (hb2.mono hb1.size)
    have R2 := Lib.hid (R1.out.below hb2 (Nat.le_refl _))
    clear hb1 hb2 R1
    have hne : (fShip l x a m != fShip l x a m) = false := by simp
    go_wp2_with fail
    refine (specShip_any l _ _ _ _ _ R2.out).mono ?_
    rintro e w3 ⟨rfl, hb3⟩
    have B3 := B2.trans (hb3.mono B2.size)
    have R3 := Lib.hid (R2.out.below hb3 (Nat.le_refl _))
    clear B2 hb3 R2
    by_cases hp : fShip l x a m < 0
    · go_wp2_with fail
      refine (specShip_any l _ _ _ _ _ R3.out).mono ?_
      rintro e w4 ⟨rfl, hb4⟩
      go_wp2
      go_ret
      exact ⟨ret_b (by simp), B3.trans (hb4.mono B3.size)⟩
    · obtain ⟨h1, h2⟩ := ship_more hp
      have hp2 : 0 ≤ fShip l x a m := by omega
      have K1 : Hid (∀ w', Below w3.heap.size w3 w' → Calls Try.prog 25 #[.slice bo l.length cap1, .int .i64 x, .int .i64 1000000, .int .i64 m] w' fun e w'' => e = .returned (.int .i64 (fShip l x 1000000 m)) ∧ Below w3.heap.size w3 w'') := fun w' hb => (implShip_any l _ x 1000000 m w' (R3.out.below hb (Nat.le_refl _))).mono fun e w'' ⟨he, hb'⟩ => ⟨by rw [he], hb.trans (hb'.mono hb.size)⟩
      have K2 : Hid (∀ w', Below w3.heap.size w3 w' → Calls Try.prog 25 #[.slice bo l.length cap1, .int .i64 x, .int .i64 a, .int .i64 0] w' fun e w'' => e = .returned (.int .i64 0) ∧ Below w3.heap.size w3 w'') := fun w' hb => (implShip_any l _ x a 0 w' (R3.out.below hb (Nat.le_refl _))).mono fun e w'' ⟨he, hb'⟩ => ⟨by rw [he, h2], hb.trans (hb'.mono hb.size)⟩
      have hb0 := Below.refl w3.heap.size w3
      clear h2
      generalize fShip l x a m = n at *
      generalize fShip l x 1000000 m = p at *
      go_wp2_with (first | (go_at_call 25; (with_reducible refine (K1.out _ (by assumption)).mono ?_); rintro e w4 ⟨rfl, hb4⟩) | (go_at_call 25; (with_reducible refine (K2.out _ (by assumption)).mono ?_); rintro e w4 ⟨rfl, hb4⟩))
      go_ret
      exact ⟨ret_b (by simp), B3.trans (hb4.mono B3.size)⟩

open Go.ChangeShapes Go.WideShapes Go.ChangeAt

theorem lawOwn : ownKnob Try.prog.godebug = none := by kernel_rfl
theorem lawOut : laidOutB Try.prog = true := by kernel_rfl

set_option linter.unusedVariables false in
set_option maxRecDepth 100000 in
theorem liftedShippingOfMore (os : Os) (started : os.Started) (H : Type) (enc : TypeId × Value → H) :
    ReturnsInHanded {} Try.checked os 10 .any (Rows.fnShippingOfMoreSpec.pre6 enc Try.prog Try.f10 Rows.fnShippingOfMoreRow.domain false) (Rows.fnShippingOfMoreSpec.post enc Try.prog Try.f10 false true false false) := by
  refine returnsInHanded_of_change (C := Try.checked) lawOwn started (by kernel_rfl) Try.func10
    (ChangeSpec.witness6 (enc := enc) (C := Try.checked) false ⟨#[], #[.slice none 0 0], []⟩ 8 (by kernel_rfl) (by kernel_rfl) (by kernel_rfl) (by kernel_rfl)) ?_
  intro W base args ds gs before hval0 hW hcnd _
  have hval : ∀ (j : Nat) t v, Try.f10.params[j]? = some t → args[j]? = some v → Value.okWide Try.prog W .any base t v := hval0
  have hW' := hW
  obtain ⟨p, q, hA0, hV, rfl, hfz, hnd⟩ := hW
  have hA : DataW.TrodAll enc Try.prog W 0 (fun _ => true) true Try.f10.params.toList args.toList ds p := hA0
  rw [Try.params10] at hA hval
  obtain ⟨v0, vs0, d0, ds0, p0, q0, hargs, rfl, rfl, h0, r0⟩ := trodAll_cons hA
  obtain ⟨rfl, rfl, rfl⟩ := trodAll_nil r0
  obtain rfl : args = #[v0] := by cases args; simp_all
  obtain ⟨rfl, rfl⟩ := trodVars_none hV
  have k0 := h0
  have lt0 : ∀ x ∈ p0, x.block < W.heap.size := by obtain ⟨m, hm⟩ := k0; exact DataW.trod_lt m _ _ _ hm
  clear hA0 hval0
  obtain ⟨z0, w0⟩ : ∃ z : List Int, Rd W 1 v0 z.length (z.map (Value.int .u8)) ∧ ∀ x ∈ z, 0 ≤ x ∧ x ≤ 255 := by
    obtain ⟨a0, n0, c0, rfl⟩ := okWide_slice Try.underlying22 (hval 0 22 v0 rfl rfl)
    obtain ⟨fuel, hf⟩ := h0
    exact open_bytes Try.underlying22 Try.underlying5 (by kernel_rfl) hf
  refine (lawShippingOfMore z0 v0 W w0).mono fun e W' ⟨he, bel⟩ => ?_
  subst he
  exact ⟨_, rfl, _, _, _, [], _, [], hW', trodAll_mk1 (shut_bool Try.underlying4 _), (trodAll_cons_mk (Below.trod lawOut (by kernel_rfl) (of_decide_eq_true (by kernel_rfl)) k0 bel lt0) trodAll_mk0), rfl, bel.frame _, fun h => by cases h⟩

theorem closedShippingOfMore : joinedFacts Try.pinned.checked.prog 10 Try.f10 Rows.fnShippingOfMoreSpec Rows.fnShippingOfMoreRow = true := by
  unfold joinedFacts
  rw [headEnters, headMake, headFinal]
  kernel_rfl

theorem holdsShippingOfMore : Rows.FnShippingOfMoreSaid :=
  OpenClaim.holds_of_wide 10 Try.f10 rfl rfl rfl rfl rfl rfl rfl ⟨rfl, rfl, rfl, rfl, rfl⟩ rfl rfl rfl rfl rfl (by kernel_rfl) Try.func10 closedShippingOfMore
    (of_decide_eq_true (by kernel_rfl)) (by unfold Func.isWrapper; first | (rw [if_pos (by decide +kernel)]; kernel_rfl) | (rw [if_neg (by decide +kernel)]; exact ⟨rfl, rfl⟩))
    (fun os started H enc _ => liftedShippingOfMore os started H enc)

#print axioms holdsShippingOfMore

end Go.Proofs.Yteeehgicegmbjaa
