/- Carriers can lose bands: valid bands without the last or the first one are valid, if there are several, for every code. Conditions: none. -/
import Derived.Test.YteeehgicegmbjaaVA
import Derived.Test.YteeehgicegmbjaaVH
import Derived.Test.YteeehgicegmbjaaOpen
import Derived.Test.YteeehgicegmbjaaHead
namespace Go.Proofs.Yteeehgicegmbjaa
open Go.RowKit

set_option maxHeartbeats 2000000 in
theorem lawValidBands (z : List Int) (v : Value) (w : World) (hv : Rd w 1 v z.length (z.map (Value.int .u8)) ∧ ∀ x ∈ z, 0 ≤ x ∧ x ≤ 255) :
    Calls Try.prog 3 #[v] w fun e w' => e = .returned (.bool true) ∧ Below w.heap.size w w' := by
  have hm := hv.1.len
  unfold maxLen at hm
  obtain ⟨_, ao, cap, rfl, _⟩ := hv.1
  have HV := Lib.hid hv
  clear hv
  by_cases hn : 1048576 < z.length
  · go_enter Try.func3, Try.ntmps3
    go_wp2
    go_ret
    exact ⟨rfl, Below.refl _ _⟩
  · go_enter Try.func3, Try.ntmps3
    go_wp2_with fail
    refine (drawValidBands_any z _ _ HV.out.1 HV.out.2).mono ?_
    rintro e w1 ⟨l, u, rfl, ho1, _, hl1, hb1⟩
    obtain ⟨bo, cap1, rfl, ⟨hcap1, hcap2⟩, hg⟩ := owns_shape_cap ho1
    have R1 := Lib.hid (Rd.of_owns ho1)
    have HG := Lib.hid hg
    clear ho1 hg
    go_wp2_with fail
    refine (implValidBands_any l _ _ R1.out).mono ?_
    rintro e w2 ⟨rfl, hb2⟩
    have B2 := hb1.trans (hb2.mono hb1.size)
    have R2 := Lib.hid (R1.out.below hb2 (Nat.le_refl _))
    clear hb1 hb2 R1
    have hne : (vBands l != vBands l) = false := by simp
    go_wp2_with fail
    refine (specValidBands_any l _ _ R2.out).mono ?_
    rintro e w3 ⟨rfl, hb3⟩
    have B3 := B2.trans (hb3.mono B2.size)
    have R3 := Lib.hid (R2.out.below hb3 (Nat.le_refl _))
    clear B2 hb3 R2
    cases hp : vBands l
    · go_wp2_with fail
      refine (specValidBands_any l _ _ R3.out).mono ?_
      rintro e w4 ⟨rfl, hb4⟩
      go_wp2
      go_ret
      exact ⟨ret_b (by simp), B3.trans (hb4.mono B3.size)⟩
    · by_cases h2 : l.length < 2
      · go_wp2_with fail
        refine (specValidBands_any l _ _ R3.out).mono ?_
        rintro e w4 ⟨rfl, hb4⟩
        go_wp2
        go_ret
        exact ⟨ret_b (by simp), B3.trans (hb4.mono B3.size)⟩
      · have h1 : 2 ≤ l.length := by omega
        have hc2 : 2 ≤ cap1 := by omega
        obtain ⟨g, rfl, hgb⟩ := HG.out (by omega)
        have ht : (l.take (l.length - 1)).length = l.length - 1 := by rw [List.length_take]; omega
        have hd : (l.drop 1).length = l.length - 1 := List.length_drop
        have T3 : Hid (Rd w3 2 (.slice (some ⟨g, 0, none⟩) (l.length - 1) cap1) (l.take (l.length - 1)).length (pr (l.take (l.length - 1)))) := by
          rw [Hid, ht, pr_take]; exact R3.out.take (by omega)
        have HD := Lib.hid hd
        have VT := Lib.hid (vBands_take hp h1)
        have VD := Lib.hid (vBands_drop hp h1)
        clear ht hd
        go_wp2_with fail
        refine (implValidBands_any _ _ _ T3.out).mono ?_
        rintro e w4 ⟨rfl, hb4⟩
        rw [VT.out]
        have B4 := B3.trans (hb4.mono B3.size)
        have R4 := Lib.hid (R3.out.below hb4 (Nat.le_refl _))
        clear B3 hb4 R3 T3
        have T4 : Hid (Rd w4 2 (.slice (some ⟨g, 2, none⟩) (l.length - 1) (cap1 - 1)) (l.drop 1).length (pr (l.drop 1))) := by
          rw [Hid, HD.out, pr_drop]; exact R4.out.drop (k := 1) (by omega) (fun h => rfl)
        go_wp2_with fail
        refine (implValidBands_any _ _ _ T4.out).mono ?_
        rintro e w5 ⟨rfl, hb5⟩
        rw [VD.out]
        go_wp2
        go_ret
        exact ⟨rfl, B4.trans (hb5.mono B4.size)⟩

open Go.ChangeShapes Go.WideShapes Go.ChangeAt

theorem lawOwn : ownKnob Try.prog.godebug = none := by kernel_rfl
theorem lawOut : laidOutB Try.prog = true := by kernel_rfl

set_option linter.unusedVariables false in
set_option maxRecDepth 100000 in
theorem liftedValidBands (os : Os) (started : os.Started) (H : Type) (enc : TypeId × Value → H) :
    ReturnsInHanded {} Try.checked os 3 .any (Rows.fnValidBandsSpec.pre6 enc Try.prog Try.f3 Rows.fnValidBandsRow.domain false) (Rows.fnValidBandsSpec.post enc Try.prog Try.f3 false true false false) := by
  refine returnsInHanded_of_change (C := Try.checked) lawOwn started (by kernel_rfl) Try.func3
    (ChangeSpec.witness6 (enc := enc) (C := Try.checked) false ⟨#[], #[.slice none 0 0], []⟩ 8 (by kernel_rfl) (by kernel_rfl) (by kernel_rfl) (by kernel_rfl)) ?_
  intro W base args ds gs before hval0 hW hcnd _
  have hval : ∀ (j : Nat) t v, Try.f3.params[j]? = some t → args[j]? = some v → Value.okWide Try.prog W .any base t v := hval0
  have hW' := hW
  obtain ⟨p, q, hA0, hV, rfl, hfz, hnd⟩ := hW
  have hA : DataW.TrodAll enc Try.prog W 0 (fun _ => true) true Try.f3.params.toList args.toList ds p := hA0
  rw [Try.params3] at hA hval
  obtain ⟨v0, vs0, d0, ds0, p0, q0, hargs, rfl, rfl, h0, r0⟩ := trodAll_cons hA
  obtain ⟨rfl, rfl, rfl⟩ := trodAll_nil r0
  obtain rfl : args = #[v0] := by cases args; simp_all
  obtain ⟨rfl, rfl⟩ := trodVars_none hV
  have k0 := h0
  have lt0 : ∀ x ∈ p0, x.block < W.heap.size := by obtain ⟨m, hm⟩ := k0; exact DataW.trod_lt m _ _ _ hm
  clear hA0 hval0
  obtain ⟨z0, w0⟩ : ∃ z : List Int, Rd W 1 v0 z.length (z.map (Value.int .u8)) ∧ ∀ x ∈ z, 0 ≤ x ∧ x ≤ 255 := by
    obtain ⟨a0, n0, c0, rfl⟩ := okWide_slice Try.underlying22 (hval 0 22 v0 rfl rfl)
    obtain ⟨fuel, hf⟩ := h0
    exact open_bytes Try.underlying22 Try.underlying5 (by kernel_rfl) hf
  refine (lawValidBands z0 v0 W w0).mono fun e W' ⟨he, bel⟩ => ?_
  subst he
  exact ⟨_, rfl, _, _, _, [], _, [], hW', trodAll_mk1 (shut_bool Try.underlying4 _), (trodAll_cons_mk (Below.trod lawOut (by kernel_rfl) (of_decide_eq_true (by kernel_rfl)) k0 bel lt0) trodAll_mk0), rfl, bel.frame _, fun h => by cases h⟩

theorem closedValidBands : joinedFacts Try.pinned.checked.prog 3 Try.f3 Rows.fnValidBandsSpec Rows.fnValidBandsRow = true := by
  unfold joinedFacts
  rw [headEnters, headMake, headFinal]
  kernel_rfl

theorem holdsValidBands : Rows.FnValidBandsSaid :=
  OpenClaim.holds_of_wide 3 Try.f3 rfl rfl rfl rfl rfl rfl rfl ⟨rfl, rfl, rfl, rfl, rfl⟩ rfl rfl rfl rfl rfl (by kernel_rfl) Try.func3 closedValidBands
    (of_decide_eq_true (by kernel_rfl)) (by unfold Func.isWrapper; first | (rw [if_pos (by decide +kernel)]; kernel_rfl) | (rw [if_neg (by decide +kernel)]; exact ⟨rfl, rfl⟩))
    (fun os started H enc _ => liftedValidBands os started H enc)

#print axioms holdsValidBands

end Go.Proofs.Yteeehgicegmbjaa
