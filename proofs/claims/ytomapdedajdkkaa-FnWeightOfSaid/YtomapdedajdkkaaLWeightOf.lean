/- Weights add up: WeightOf is that of the first lines plus that of the others, for every code. Conditions: none. -/
import Derived.Test.YtomapdedajdkkaaCB
import Derived.Test.YtomapdedajdkkaaLater
import Derived.Test.YtomapdedajdkkaaCS
import Derived.Test.YtomapdedajdkkaaOpen
import Derived.Test.YtomapdedajdkkaaHead
namespace Go.Proofs.Ytomapdedajdkkaa
open Go.RowKit

set_option maxHeartbeats 4000000 in
theorem lawWeightOf (z : List Int) (v : Value) (w : World) (hv : Rd w 1 v z.length (z.map (Value.int .u8)) ∧ ∀ x ∈ z, 0 ≤ x ∧ x ≤ 255) :
    Calls Try.prog 3 #[v] w fun e w' => e = .returned (.bool true) ∧ Below w.heap.size w w' := by
  have hm := hv.1.len
  unfold maxLen at hm
  obtain ⟨_, ao, cap, rfl, _⟩ := hv.1
  have HV := Lib.hid hv
  clear hv
  by_cases hn : 1048576 < z.length
  · go_enter Try.func3, Try.ntmps3
    go_wp2
    go_ret
    exact ⟨rfl, Below.refl _ _⟩
  · go_enter Try.func3, Try.ntmps3
    go_wp2_with fail
    refine (drawWeightOf_any z _ _ HV.out.1 HV.out.2).mono ?_
    rintro e w1 ⟨s, sv, c, cv, rfl, hs, hs10, hc, hc9, hb1⟩
    obtain ⟨co, ccap, ecv, ⟨hcc1, hcc2⟩, hg⟩ := owns_shape_cap hc
    have HCO : Hid (co = none ∧ ccap = 0 ∨ ∃ g, co = some ⟨g, 0, none⟩) := by
      rcases hc.2 with ⟨h1, _⟩ | ⟨g, cap', _, h1, _⟩
      · rw [ecv] at h1; simp only [Value.slice.injEq] at h1; exact .inl ⟨h1.1, h1.2.2⟩
      · rw [ecv] at h1; simp only [Value.slice.injEq] at h1; exact .inr ⟨g, h1.1⟩
    subst ecv
    have A1 := Lib.hid hs
    have C1 := Lib.hid (Rd.of_owns hc)
    clear hs hc hg
    go_wp2_with fail
    refine (implWeight_any s _ c _ _ A1.out C1.out).mono ?_
    rintro e w2 ⟨rfl, hb2⟩
    have B2 := hb1.trans (hb2.mono hb1.size)
    have A2 := Lib.hid (A1.out.below hb2 (Nat.le_refl _))
    have C2 := Lib.hid (C1.out.below hb2 (Nat.le_refl _))
    clear hb1 hb2 A1 C1
    have hne : (fWeight s c != fWeight s c) = false := by simp
    go_wp2_with fail
    refine (specWeight_any s _ c _ _ A2.out C2.out).mono ?_
    rintro e w3 ⟨rfl, hb3⟩
    have B3 := B2.trans (hb3.mono B2.size)
    have A3 := Lib.hid (A2.out.below hb3 (Nat.le_refl _))
    have C3 := Lib.hid (C2.out.below hb3 (Nat.le_refl _))
    clear B2 hb3 A2 C2
    by_cases hp : fWeight s c < 0
    · go_wp2_with fail
      refine (specWeight_any s _ c _ _ A3.out C3.out).mono ?_
      rintro e w4 ⟨rfl, hb4⟩
      go_wp2
      go_ret
      exact ⟨ret_b (by simp), B3.trans (hb4.mono B3.size)⟩
    · have hok := fWeight_pos hp
      have hp2 : 0 ≤ fWeight s c := by omega
      have hbd := (fWeight_bd s c).2
      obtain ⟨m, hm2⟩ : ∃ m, m = c.length / 2 := ⟨_, rfl⟩
      have hml : m ≤ c.length := by omega
      have hdiv : (c.length : Int) / 2 = (m : Int) := by omega
      have hparts := weight_parts hok hml
      have hb1 := fWeight_bd s (c.take m)
      have hb2 := fWeight_bd s (c.drop m)
      obtain ⟨b11, b12⟩ := hb1
      obtain ⟨b21, b22⟩ := hb2
      have ht : (c.take m).length = m := by rw [List.length_take]; omega
      have hd : (c.drop m).length = c.length - m := List.length_drop
      have hcc3 : ccap = m → c.length = 0 ∧ m = 0 := by omega
      have hml2 : c.length = 0 → m = 0 := by omega
      have K1 : Hid (∀ x : Later w3, Calls Try.prog 14 #[sv, .slice co m ccap] x.wld fun e w' => e = .returned (.int .i64 (fWeight s (c.take m))) ∧ ∃ y : Later w3, w' = y.wld) := by
        intro x
        have T3 : Rd w3 2 (.slice co m ccap) (c.take m).length (pr (c.take m)) := by rw [ht, pr_take]; exact C3.out.take hml
        exact Calls.later_of (implWeight_any s _ (c.take m) _ x.wld (A3.out.below x.below (Nat.le_refl _)) (T3.below x.below (Nat.le_refl _)))
      have K2 : Hid (∀ ao cp, (Rd w3 2 (.slice ao (c.length - m) cp) (c.length - m) ((pr c).drop (m * 2))) → ∀ x : Later w3, Calls Try.prog 14 #[sv, .slice ao (c.length - m) cp] x.wld fun e w' => e = .returned (.int .i64 (fWeight s (c.drop m))) ∧ ∃ y : Later w3, w' = y.wld) := by
        intro ao cp T3 x
        have T3 : Rd w3 2 (.slice ao (c.length - m) cp) (c.drop m).length (pr (c.drop m)) := by rw [hd, pr_drop]; exact T3
        exact Calls.later_of (implWeight_any s _ (c.drop m) _ x.wld (A3.out.below x.below (Nat.le_refl _)) (T3.below x.below (Nat.le_refl _)))
      have HDIV := Lib.hid hdiv
      have HCC3 := Lib.hid hcc3
      have HML2 := Lib.hid hml2
      have HPARTS := Lib.hid hparts
      clear ht hd hm2 hp hok hne hdiv hcc3 hml2 hparts
      by_cases h0 : c.length = 0
      · have hm0 := HML2.out h0
        obtain rfl : c = [] := List.eq_nil_of_length_eq_zero h0
        subst hm0
        have hz : fWeight s [] = 0 := by have := HPARTS.out; simp only [List.take_nil, List.drop_nil] at this; omega
        rw [List.take_nil, hz] at K1
        have hne2 : (fWeight s [] == 0) = true := by rw [hz]; rfl
        have HZ := Lib.hid hz
        clear K2 HPARTS HDIV HCC3 HML2 h0 hml hz b11 b12 b21 b22
        rw [HZ.out]
        rcases HCO.out with ⟨rfl, rfl⟩ | ⟨g, rfl⟩
        · go_wp2
          refine wp_region_later (by kernel_rfl) (by kernel_rfl) ?_
          repeat (go_big_quiet_step ((go_at_call 14; (with_reducible exact K1.out _))))
          refine wpQuiet_nil ?_
          rintro _ ⟨x, rfl⟩
          go_wp2
          go_ret
          exact ⟨ret_b (by simp), B3.trans (x.below.mono B3.size)⟩
        · by_cases hcz : ccap = 0
          · subst hcz
            go_wp2
            refine wp_region_later (by kernel_rfl) (by kernel_rfl) ?_
            repeat (go_big_quiet_step ((go_at_call 14; (with_reducible exact K1.out _))))
            refine wpQuiet_nil ?_
            rintro _ ⟨x, rfl⟩
            go_wp2
            go_ret
            exact ⟨ret_b (by simp), B3.trans (x.below.mono B3.size)⟩
          · have hcz0 : (0 : Int) ≤ (ccap : Int) := by omega
            go_wp2
            refine wp_region_later (by kernel_rfl) (by kernel_rfl) ?_
            repeat (go_big_quiet_step ((go_at_call 14; (with_reducible exact K1.out _))))
            refine wpQuiet_nil ?_
            rintro _ ⟨x, rfl⟩
            go_wp2
            go_ret
            exact ⟨ret_b (by simp), B3.trans (x.below.mono B3.size)⟩
      · have hmc : ¬ ccap = m := fun e => h0 (HCC3.out e).1
        rcases HCO.out with ⟨rfl, rfl⟩ | ⟨g, rfl⟩
        · exact absurd (by omega) h0
        have T := K2.out (some ⟨g, m * 2, none⟩) (ccap - m) (by have := C3.out.drop (k := m) hml (ao := some ⟨g, 0 + m * 2, none⟩) (fun _ => rfl); rwa [Nat.zero_add] at this)
        have KT := Lib.hid T
        clear T K2
        have hdiv := HDIV.out
        have hm0 : (0 : Int) ≤ (m : Int) := by omega
        have hmlI : (m : Int) ≤ (c.length : Int) := by omega
        have hmcI : (m : Int) ≤ (ccap : Int) := by omega
        have hlcI : (c.length : Int) ≤ (ccap : Int) := by omega
        obtain ⟨x1, hx1⟩ : ∃ x, x = fWeight s (c.take m) := ⟨_, rfl⟩
        obtain ⟨x2, hx2⟩ : ∃ x, x = fWeight s (c.drop m) := ⟨_, rfl⟩
        rw [← hx1] at K1 b11 b12
        rw [← hx2] at KT b21 b22
        have hsum : x1 + x2 = fWeight s c := by rw [hx1, hx2]; exact HPARTS.out
        have ew : IntKind.i64.wrap (x1 + x2) = x1 + x2 := IntWalk.i64_in _ (by omega)
        have heq : ((x1 + x2) == fWeight s c) = true := by rw [hsum]; simp
        clear hx1 hx2 hsum HPARTS
        go_wp2
        refine wp_region_later (by kernel_rfl) (by kernel_rfl) ?_
        repeat (go_big_quiet_step ((go_at_call 14; first | (with_reducible exact K1.out _) | (with_reducible exact KT.out _))))
        refine wpQuiet_nil ?_
        rintro _ ⟨x, rfl⟩
        go_wp2
        go_ret
        exact ⟨ret_b (by simp), B3.trans (x.below.mono B3.size)⟩

open Go.ChangeShapes Go.WideShapes Go.ChangeAt

theorem lawOwn : ownKnob Try.prog.godebug = none := by kernel_rfl
theorem lawOut : laidOutB Try.prog = true := by kernel_rfl

set_option linter.unusedVariables false in
set_option maxRecDepth 100000 in
theorem liftedWeightOf (os : Os) (started : os.Started) (H : Type) (enc : TypeId × Value → H) :
    ReturnsInHanded {} Try.checked os 3 .any (Rows.fnWeightOfSpec.pre6 enc Try.prog Try.f3 Rows.fnWeightOfRow.domain false) (Rows.fnWeightOfSpec.post enc Try.prog Try.f3 false true false false) := by
  refine returnsInHanded_of_change (C := Try.checked) lawOwn started (by kernel_rfl) Try.func3
    (ChangeSpec.witness6 (enc := enc) (C := Try.checked) false ⟨#[], #[.slice none 0 0], []⟩ 8 (by kernel_rfl) (by kernel_rfl) (by kernel_rfl) (by kernel_rfl)) ?_
  intro W base args ds gs before hval0 hW hcnd _
  have hval : ∀ (j : Nat) t v, Try.f3.params[j]? = some t → args[j]? = some v → Value.okWide Try.prog W .any base t v := hval0
  have hW' := hW
  obtain ⟨p, q, hA0, hV, rfl, hfz, hnd⟩ := hW
  have hA : DataW.TrodAll enc Try.prog W 0 (fun _ => true) true Try.f3.params.toList args.toList ds p := hA0
  rw [Try.params3] at hA hval
  obtain ⟨v0, vs0, d0, ds0, p0, q0, hargs, rfl, rfl, h0, r0⟩ := trodAll_cons hA
  obtain ⟨rfl, rfl, rfl⟩ := trodAll_nil r0
  obtain rfl : args = #[v0] := by cases args; simp_all
  obtain ⟨rfl, rfl⟩ := trodVars_none hV
  have k0 := h0
  have lt0 : ∀ x ∈ p0, x.block < W.heap.size := by obtain ⟨m, hm⟩ := k0; exact DataW.trod_lt m _ _ _ hm
  clear hA0 hval0
  obtain ⟨z0, w0⟩ : ∃ z : List Int, Rd W 1 v0 z.length (z.map (Value.int .u8)) ∧ ∀ x ∈ z, 0 ≤ x ∧ x ≤ 255 := by
    obtain ⟨a0, n0, c0, rfl⟩ := okWide_slice Try.underlying22 (hval 0 22 v0 rfl rfl)
    obtain ⟨fuel, hf⟩ := h0
    exact open_bytes Try.underlying22 Try.underlying5 (by kernel_rfl) hf
  refine (lawWeightOf z0 v0 W w0).mono fun e W' ⟨he, bel⟩ => ?_
  subst he
  exact ⟨_, rfl, _, _, _, [], _, [], hW', trodAll_mk1 (shut_bool Try.underlying4 _), (trodAll_cons_mk (Below.trod lawOut (by kernel_rfl) (of_decide_eq_true (by kernel_rfl)) k0 bel lt0) trodAll_mk0), rfl, bel.frame _, fun h => by cases h⟩

theorem closedWeightOf : joinedFacts Try.pinned.checked.prog 3 Try.f3 Rows.fnWeightOfSpec Rows.fnWeightOfRow = true := by
  unfold joinedFacts
  rw [headEnters, headMake, headFinal]
  kernel_rfl

theorem holdsWeightOf : Rows.FnWeightOfSaid :=
  OpenClaim.holds_of_wide 3 Try.f3 rfl rfl rfl rfl rfl rfl rfl ⟨rfl, rfl, rfl, rfl, rfl⟩ rfl rfl rfl rfl rfl (by kernel_rfl) Try.func3 closedWeightOf
    (of_decide_eq_true (by kernel_rfl)) (by unfold Func.isWrapper; first | (rw [if_pos (by decide +kernel)]; kernel_rfl) | (rw [if_neg (by decide +kernel)]; exact ⟨rfl, rfl⟩))
    (fun os started H enc _ => liftedWeightOf os started H enc)

#print axioms holdsWeightOf

end Go.Proofs.Ytomapdedajdkkaa
