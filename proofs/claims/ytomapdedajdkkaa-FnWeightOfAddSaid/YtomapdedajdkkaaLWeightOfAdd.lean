/- Added pieces have weights: WeightOf behind AddPieces is greater by the weight of the pieces, for every code. Conditions: none. -/
import Derived.Test.YtomapdedajdkkaaCB
import Derived.Test.YtomapdedajdkkaaCE
import Derived.Test.YtomapdedajdkkaaCG
import Derived.Test.YtomapdedajdkkaaLater
import Derived.Test.YtomapdedajdkkaaCS
import Derived.Test.YtomapdedajdkkaaOpen
import Derived.Test.YtomapdedajdkkaaHead
namespace Go.Proofs.Ytomapdedajdkkaa
open Go.RowKit

set_option maxHeartbeats 4000000 in
theorem lawWeightOfAdd (z : List Int) (v : Value) (w : World) (hv : Rd w 1 v z.length (z.map (Value.int .u8)) ∧ ∀ x ∈ z, 0 ≤ x ∧ x ≤ 255) :
    Calls Try.prog 5 #[v] w fun e w' => e = .returned (.bool true) ∧ Below w.heap.size w w' := by
  have hm := hv.1.len
  unfold maxLen at hm
  obtain ⟨_, ao, cap, rfl, _⟩ := hv.1
  have HV := Lib.hid hv
  clear hv
  by_cases hn : 1048576 < z.length
  · go_enter Try.func5, Try.ntmps5
    go_wp2
    go_ret
    exact ⟨rfl, Below.refl _ _⟩
  · go_enter Try.func5, Try.ntmps5
    go_wp2_with fail
    refine (drawAddPieces_any z _ _ HV.out.1 HV.out.2).mono ?_
    rintro e w1 ⟨s, sv, c, cv, a, n, rfl, hs, hs10, hc, hc9, ⟨ha1, ha2, hn1, hn2⟩, hb1⟩
    have A1 := Lib.hid hs
    have C1 := Lib.hid hc
    clear hs hc
    go_wp2_with fail
    refine (implAdd_any s _ c _ _ _ _ A1.out C1.out).mono ?_
    rintro e w2 ⟨v2, rfl, ho2, hb2⟩
    have A2 := Lib.hid (A1.out.below hb2 (Nat.le_refl _))
    have C2 := Lib.hid (C1.out.below hb2 (Nat.le_refl _))
    have B2 := hb1.trans (hb2.mono hb1.size)
    have U2 := Lib.hid (Rd.of_owns ho2)
    clear A1 C1 hb2 ho2 hb1
    go_wp2_with fail
    refine (specAdd_any s _ c _ _ _ _ A2.out C2.out).mono ?_
    rintro e w3 ⟨v3, rfl, ho3, hb3⟩
    have A3 := Lib.hid (A2.out.below hb3 (Nat.le_refl _))
    have C3 := Lib.hid (C2.out.below hb3 (Nat.le_refl _))
    have U3 := Lib.hid (U2.out.below hb3 (Nat.le_refl _))
    have V3 := Lib.hid (Rd.of_owns ho3)
    have B3 := B2.trans (hb3.mono B2.size)
    clear A2 C2 U2 hb3 ho3 B2
    cases hk : addOk s c a n
    · go_wp2_with fail
      refine (equalLines_any _ _ _ _ _ U3.out V3.out).mono ?_
      rintro e w4 ⟨rfl, hb4⟩
      rw [show decide (addR s c a n = addR s c a n) = true by simp]
      have B4 := B3.trans (hb4.mono B3.size)
      have U4 := Lib.hid (U3.out.below hb4 (Nat.le_refl _))
      have V4 := Lib.hid (V3.out.below hb4 (Nat.le_refl _))
      clear U3 V3 hb4
      go_wp2_with fail
      refine (equalLines_any _ _ _ _ _ U4.out V4.out).mono ?_
      rintro e w5 ⟨rfl, hb5⟩
      rw [show decide (addR s c a n = addR s c a n) = true by simp]
      go_wp2
      go_ret
      exact ⟨ret_b (by simp), B4.trans (hb5.mono B4.size)⟩
    · have hL := addR_yes hk
      have hq := addOk_pr hk
      have hwa := weight_add hk
      have HK := Lib.hid hk
      go_wp2_with fail
      refine (equalLines_any _ _ _ _ _ U3.out V3.out).mono ?_
      rintro e w4 ⟨rfl, hb4⟩
      rw [show decide (addR s c a n = addR s c a n) = true by simp]
      have B4 := B3.trans (hb4.mono B3.size)
      have U4 : Hid (Rd w4 2 v2 (addL c a n).length (pr (addL c a n))) := by
        have := U3.out.below hb4 (Nat.le_refl _); rwa [hL] at this
      have A4 := Lib.hid (A3.out.below hb4 (Nat.le_refl _))
      have C4 := Lib.hid (C3.out.below hb4 (Nat.le_refl _))
      clear U3 V3 hb4 A3 C3 hL B3
      obtain ⟨q1, q2, q3, q4, q5, q6⟩ := hq
      obtain ⟨k, rfl⟩ := Int.eq_ofNat_of_zero_le q2
      rw [Int.toNat_natCast] at hwa
      have hks : k < s.length := by omega
      obtain ⟨so, scap, rfl, _, _, hrs⟩ := A4.out.arts
      obtain ⟨sb, soff, rfl, hsb, hscell⟩ := hrs (by omega)
      have g3 := (hscell k hks).2.2.2
      have hat := atOk_pr ((vShop_all (vCart_pr q1).1).1 k hks)
      have hw1 := fWeight_bd s c
      have hw2 := fWeight_bd s (addL c k n)
      obtain ⟨x, hx⟩ : ∃ x, x = (aT s k).w := ⟨_, rfl⟩
      rw [← hx] at g3 hat hwa
      have hmul := mul_bd (a := x) (b := n) (m := 5000) (n := 20) (by omega) (by omega) (by omega) (by omega)
      have K1 : Hid (∀ y : Later w4, Calls Try.prog 14 #[.slice (some ⟨sb, soff, none⟩) s.length scap, v2] y.wld fun e w' => e = .returned (.int .i64 (fWeight s (addL c k n))) ∧ ∃ y' : Later w4, w' = y'.wld) := fun y =>
        Calls.later_of (implWeight_any s _ (addL c k n) _ y.wld (A4.out.below y.below (Nat.le_refl _)) (U4.out.below y.below (Nat.le_refl _)))
      have K2 : Hid (∀ y : Later w4, Calls Try.prog 14 #[.slice (some ⟨sb, soff, none⟩) s.length scap, cv] y.wld fun e w' => e = .returned (.int .i64 (fWeight s c)) ∧ ∃ y' : Later w4, w' = y'.wld) := fun y =>
        Calls.later_of (implWeight_any s _ c _ y.wld (A4.out.below y.below (Nat.le_refl _)) (C4.out.below y.below (Nat.le_refl _)))
      generalize fWeight s (addL c k n) = p at K1 hwa hw2
      generalize fWeight s c = q at K2 hwa hw1
      obtain ⟨hw11, hw12⟩ := hw1
      obtain ⟨hm1, hm2⟩ := hmul
      have e1 : IntKind.i64.wrap (x * n) = x * n := IntWalk.i64_in _ (by omega)
      have e2 : IntKind.i64.wrap (q + x * n) = q + x * n := IntWalk.i64_in _ (by omega)
      have hi0 : (0 : Int) ≤ (k : Int) := by omega
      have hi1 : (k : Int) < (s.length : Int) := by omega
      have heq : (p == q + x * n) = true := by rw [hwa]; simp
      clear hx hrs hscell hwa hw2 hat q1 q2 q3 q6 hk
      go_wp2
      refine wp_region_later (by kernel_rfl) (by kernel_rfl) ?_
      repeat (go_big_quiet_step ((go_at_call 14; first | (with_reducible exact K1.out _) | (with_reducible exact K2.out _))))
      refine wpQuiet_nil ?_
      rintro _ ⟨y, rfl⟩
      go_wp2
      go_ret
      exact ⟨ret_b (by simp), B4.trans (y.below.mono B4.size)⟩

open Go.ChangeShapes Go.WideShapes Go.ChangeAt

theorem lawOwn : ownKnob Try.prog.godebug = none := by kernel_rfl
theorem lawOut : laidOutB Try.prog = true := by kernel_rfl

set_option linter.unusedVariables false in
set_option maxRecDepth 100000 in
theorem liftedWeightOfAdd (os : Os) (started : os.Started) (H : Type) (enc : TypeId × Value → H) :
    ReturnsInHanded {} Try.checked os 5 .any (Rows.fnWeightOfAddSpec.pre6 enc Try.prog Try.f5 Rows.fnWeightOfAddRow.domain false) (Rows.fnWeightOfAddSpec.post enc Try.prog Try.f5 false true false false) := by
  refine returnsInHanded_of_change (C := Try.checked) lawOwn started (by kernel_rfl) Try.func5
    (ChangeSpec.witness6 (enc := enc) (C := Try.checked) false ⟨#[], #[.slice none 0 0], []⟩ 8 (by kernel_rfl) (by kernel_rfl) (by kernel_rfl) (by kernel_rfl)) ?_
  intro W base args ds gs before hval0 hW hcnd _
  have hval : ∀ (j : Nat) t v, Try.f5.params[j]? = some t → args[j]? = some v → Value.okWide Try.prog W .any base t v := hval0
  have hW' := hW
  obtain ⟨p, q, hA0, hV, rfl, hfz, hnd⟩ := hW
  have hA : DataW.TrodAll enc Try.prog W 0 (fun _ => true) true Try.f5.params.toList args.toList ds p := hA0
  rw [Try.params5] at hA hval
  obtain ⟨v0, vs0, d0, ds0, p0, q0, hargs, rfl, rfl, h0, r0⟩ := trodAll_cons hA
  obtain ⟨rfl, rfl, rfl⟩ := trodAll_nil r0
  obtain rfl : args = #[v0] := by cases args; simp_all
  obtain ⟨rfl, rfl⟩ := trodVars_none hV
  have k0 := h0
  have lt0 : ∀ x ∈ p0, x.block < W.heap.size := by obtain ⟨m, hm⟩ := k0; exact DataW.trod_lt m _ _ _ hm
  clear hA0 hval0
  obtain ⟨z0, w0⟩ : ∃ z : List Int, Rd W 1 v0 z.length (z.map (Value.int .u8)) ∧ ∀ x ∈ z, 0 ≤ x ∧ x ≤ 255 := by
    obtain ⟨a0, n0, c0, rfl⟩ := okWide_slice Try.underlying22 (hval 0 22 v0 rfl rfl)
    obtain ⟨fuel, hf⟩ := h0
    exact open_bytes Try.underlying22 Try.underlying5 (by kernel_rfl) hf
  refine (lawWeightOfAdd z0 v0 W w0).mono fun e W' ⟨he, bel⟩ => ?_
  subst he
  exact ⟨_, rfl, _, _, _, [], _, [], hW', trodAll_mk1 (shut_bool Try.underlying4 _), (trodAll_cons_mk (Below.trod lawOut (by kernel_rfl) (of_decide_eq_true (by kernel_rfl)) k0 bel lt0) trodAll_mk0), rfl, bel.frame _, fun h => by cases h⟩

theorem closedWeightOfAdd : joinedFacts Try.pinned.checked.prog 5 Try.f5 Rows.fnWeightOfAddSpec Rows.fnWeightOfAddRow = true := by
  unfold joinedFacts
  rw [headEnters, headMake, headFinal]
  kernel_rfl

theorem holdsWeightOfAdd : Rows.FnWeightOfAddSaid :=
  OpenClaim.holds_of_wide 5 Try.f5 rfl rfl rfl rfl rfl rfl rfl ⟨rfl, rfl, rfl, rfl, rfl⟩ rfl rfl rfl rfl rfl (by kernel_rfl) Try.func5 closedWeightOfAdd
    (of_decide_eq_true (by kernel_rfl)) (by unfold Func.isWrapper; first | (rw [if_pos (by decide +kernel)]; kernel_rfl) | (rw [if_neg (by decide +kernel)]; exact ⟨rfl, rfl⟩))
    (fun os started H enc _ => liftedWeightOfAdd os started H enc)

#print axioms holdsWeightOfAdd

end Go.Proofs.Ytomapdedajdkkaa
