/- Heavier parcels cost no less: ParcelPrice does not fall with the weight, and behind the last band there is none, for every code. Conditions: none. -/
import Derived.Test.YteeehgicegmbjaaVB
import Derived.Test.YteeehgicegmbjaaVH
import Derived.Test.YteeehgicegmbjaaLater
import Derived.Test.YteeehgicegmbjaaOpen
import Derived.Test.YteeehgicegmbjaaHead
namespace Go.Proofs.Yteeehgicegmbjaa
open Go.RowKit

set_option maxHeartbeats 2000000 in
theorem lawParcelPrice (z : List Int) (v : Value) (w : World) (hv : Rd w 1 v z.length (z.map (Value.int .u8)) ∧ ∀ x ∈ z, 0 ≤ x ∧ x ≤ 255) :
    Calls Try.prog 6 #[v] w fun e w' => e = .returned (.bool true) ∧ Below w.heap.size w w' := by
  have hm := hv.1.len
  unfold maxLen at hm
  obtain ⟨_, ao, cap, rfl, _⟩ := hv.1
  have HV := Lib.hid hv
  clear hv
  by_cases hn : 1048576 < z.length
  · go_enter Try.func6, Try.ntmps6
    go_wp2
    go_ret
    exact ⟨rfl, Below.refl _ _⟩
  · go_enter Try.func6, Try.ntmps6
    go_wp2_with fail
    refine (drawParcelPrice_any z _ _ HV.out.1 HV.out.2).mono ?_
    rintro e w1 ⟨l, u, x, rfl, ho1, hsm1, hl1, hx1, hx2, hb1⟩
    have SM := Lib.hid hsm1
    clear hsm1
    obtain ⟨bo, cap1, rfl, ⟨hcap1, hcap2⟩, hg⟩ := owns_shape_cap ho1
    have R1 := Lib.hid (Rd.of_owns ho1)
    have HG := Lib.hid hg
    clear ho1 hg
    go_wp2_with fail
    refine (implParcelPrice_any l _ _ _ R1.out).mono ?_
    rintro e w2 ⟨rfl, hb2⟩
    have B2 := hb1.trans (hb2.mono hb1.size)
    have R2 := Lib.hid (R1.out.below hb2 (Nat.le_refl _))
    clear hb1 hb2 R1
    have hne : (fParcel l x != fParcel l x) = false := by simp
    go_wp2_with fail
    refine (specParcelPrice_any l _ _ _ R2.out).mono ?_
    rintro e w3 ⟨rfl, hb3⟩
    have B3 := B2.trans (hb3.mono B2.size)
    have R3 := Lib.hid (R2.out.below hb3 (Nat.le_refl _))
    clear B2 hb3 R2
    by_cases hp : fParcel l x < 0
    · go_wp2_with fail
      refine (specParcelPrice_any l _ _ _ R3.out).mono ?_
      rintro e w4 ⟨rfl, hb4⟩
      go_wp2
      go_ret
      exact ⟨ret_b (by simp), B3.trans (hb4.mono B3.size)⟩
    · obtain ⟨hv1, hx0⟩ := fParcel_pos hp
      have hlen := (vBands_all hv1).2.1
      obtain ⟨g, rfl, hgb⟩ := HG.out (by omega)
      obtain ⟨j, hj⟩ : ∃ j, l.length = j + 1 := ⟨l.length - 1, by omega⟩
      obtain ⟨_, c0, c1⟩ := R3.out.at_pairs j (by omega)
      have hg3 : g < w3.heap.size := (R3.out.at_pairs j (by omega)).1
      have hmore := parcel_more hp
      obtain ⟨hl1', hl2'⟩ := parcel_last hv1
      rw [show l.length - 1 = j by omega] at hl1' hl2'
      have hbd := bdOk_pr ((vBands_all hv1).1 j (by omega))
      have hpos : 0 ≤ fParcel l x := by omega
      have HJ := Lib.hid hj
      have hw : IntKind.i64.wrap (j : Int) = (j : Int) := IntWalk.i64_in _ (by omega)
      have hjb : j ≤ 5 := by omega
      have K1 : Hid (Calls Try.prog 22 #[.slice (some ⟨g, 0, none⟩) (j + 1) cap1, .int .i64 (x + 1)] w3 fun e w' => e = .returned (.int .i64 (fParcel l (x + 1))) ∧ Below w3.heap.size w3 w') := by
        have := implParcelPrice_any l _ (x + 1) w3 R3.out; rwa [hj] at this
      have K2 : Hid (∀ w', Below w3.heap.size w3 w' → Calls Try.prog 22 #[.slice (some ⟨g, 0, none⟩) (j + 1) cap1, .int .i64 (pA l j)] w' fun e w'' => e = .returned (.int .i64 (pB l j)) ∧ Below w'.heap.size w' w'') := by
        intro w' hb'; have := implParcelPrice_any l _ (pA l j) w' (R3.out.below hb' (Nat.le_refl _)); rwa [hj, hl1'] at this
      have K3 : Hid (∀ w', Below w3.heap.size w3 w' → Calls Try.prog 22 #[.slice (some ⟨g, 0, none⟩) (j + 1) cap1, .int .i64 (pA l j + 1)] w' fun e w'' => e = .returned (.int .i64 (-1)) ∧ Below w'.heap.size w' w'') := by
        intro w' hb'; have := implParcelPrice_any l _ (pA l j + 1) w' (R3.out.below hb' (Nat.le_refl _)); rwa [hj, hl2'] at this
      have hlB := fParcel_bd l (x + 1)
      obtain ⟨b1, b2, b3, b4, _⟩ := hbd
      obtain ⟨hq1, hq2⟩ := hlB
      rw [hj]
      clear hl1' hl2' hj hp hl1 hcap1 hlen R3
      generalize fParcel l x = n at *
      generalize fParcel l (x + 1) = q at *
      generalize pA l j = a at *
      generalize pB l j = b at *
      go_wp2_with fail
      refine K1.out.mono ?_
      rintro e w4 ⟨rfl, hb4⟩
      have c0' : w4.cell? ⟨g, j * 2, none⟩ = some (.int .i64 a) := (hb4.cell (p := ⟨g, j * 2, none⟩) hg3).trans c0
      have c1' : w4.cell? ⟨g, j * 2 + 1, none⟩ = some (.int .i64 b) := (hb4.cell (p := ⟨g, j * 2 + 1, none⟩) hg3).trans c1
      have hg4 : g < w4.heap.size := Nat.lt_of_lt_of_le hg3 hb4.size
      clear c0 c1 K1
      have ea : IntKind.i64.wrap (a + 1) = a + 1 := IntWalk.i64_in _ (by omega)
      have KK : Hid (∀ y : Later (w4.alloc (.cells #[.int .i64 a, .int .i64 b] 37)), (Calls Try.prog 22 #[.slice (some ⟨g, 0, none⟩) (j + 1) cap1, .int .i64 a] y.wld fun e w'' => e = .returned (.int .i64 b) ∧ ∃ y', w'' = Later.wld y') ∧ (Calls Try.prog 22 #[.slice (some ⟨g, 0, none⟩) (j + 1) cap1, .int .i64 (a + 1)] y.wld fun e w'' => e = .returned (.int .i64 (-1)) ∧ ∃ y', w'' = Later.wld y')) := fun y =>
        have hby : Below w3.heap.size w3 y.wld := (hb4.alloc hb4.size _).trans (y.below.mono (by have := hb4.size; simp; omega))
        ⟨Calls.later_of (K2.out _ hby), Calls.later_of (K3.out _ hby)⟩
      have fin : Hid (∀ y : Later (w4.alloc (.cells #[.int .i64 a, .int .i64 b] 37)), Below w.heap.size w y.wld) := fun y =>
        B3.trans (((hb4.alloc hb4.size _).trans (y.below.mono (by have := hb4.size; simp; omega))).mono B3.size)
      by_cases hq : q < 0
      · go_wp2
        refine wp_region_later (by kernel_rfl) (by kernel_rfl) ?_
        repeat (go_big_quiet_step ((go_at_call 22; first | (with_reducible exact (KK.out _).1) | (with_reducible exact (KK.out _).2))))
        refine wpQuiet_nil ?_
        rintro _ ⟨y, rfl⟩
        go_wp2
        go_ret
        exact ⟨ret_b (by simp), fin.out y⟩
      · have hqb : decide (q < 0) = false := by simpa using hq
        have hqn : n ≤ q := by omega
        go_wp2
        refine wp_region_later (by kernel_rfl) (by kernel_rfl) ?_
        repeat (go_big_quiet_step ((go_at_call 22; first | (with_reducible exact (KK.out _).1) | (with_reducible exact (KK.out _).2))))
        refine wpQuiet_nil ?_
        rintro _ ⟨y, rfl⟩
        go_wp2
        go_ret
        exact ⟨ret_b (by simp), fin.out y⟩

open Go.ChangeShapes Go.WideShapes Go.ChangeAt

theorem lawOwn : ownKnob Try.prog.godebug = none := by kernel_rfl
theorem lawOut : laidOutB Try.prog = true := by kernel_rfl

set_option linter.unusedVariables false in
set_option maxRecDepth 100000 in
theorem liftedParcelPrice (os : Os) (started : os.Started) (H : Type) (enc : TypeId × Value → H) :
    ReturnsInHanded {} Try.checked os 6 .any (Rows.fnParcelPriceSpec.pre6 enc Try.prog Try.f6 Rows.fnParcelPriceRow.domain false) (Rows.fnParcelPriceSpec.post enc Try.prog Try.f6 false true false false) := by
  refine returnsInHanded_of_change (C := Try.checked) lawOwn started (by kernel_rfl) Try.func6
    (ChangeSpec.witness6 (enc := enc) (C := Try.checked) false ⟨#[], #[.slice none 0 0], []⟩ 8 (by kernel_rfl) (by kernel_rfl) (by kernel_rfl) (by kernel_rfl)) ?_
  intro W base args ds gs before hval0 hW hcnd _
  have hval : ∀ (j : Nat) t v, Try.f6.params[j]? = some t → args[j]? = some v → Value.okWide Try.prog W .any base t v := hval0
  have hW' := hW
  obtain ⟨p, q, hA0, hV, rfl, hfz, hnd⟩ := hW
  have hA : DataW.TrodAll enc Try.prog W 0 (fun _ => true) true Try.f6.params.toList args.toList ds p := hA0
  rw [Try.params6] at hA hval
  obtain ⟨v0, vs0, d0, ds0, p0, q0, hargs, rfl, rfl, h0, r0⟩ := trodAll_cons hA
  obtain ⟨rfl, rfl, rfl⟩ := trodAll_nil r0
  obtain rfl : args = #[v0] := by cases args; simp_all
  obtain ⟨rfl, rfl⟩ := trodVars_none hV
  have k0 := h0
  have lt0 : ∀ x ∈ p0, x.block < W.heap.size := by obtain ⟨m, hm⟩ := k0; exact DataW.trod_lt m _ _ _ hm
  clear hA0 hval0
  obtain ⟨z0, w0⟩ : ∃ z : List Int, Rd W 1 v0 z.length (z.map (Value.int .u8)) ∧ ∀ x ∈ z, 0 ≤ x ∧ x ≤ 255 := by
    obtain ⟨a0, n0, c0, rfl⟩ := okWide_slice Try.underlying22 (hval 0 22 v0 rfl rfl)
    obtain ⟨fuel, hf⟩ := h0
    exact open_bytes Try.underlying22 Try.underlying5 (by kernel_rfl) hf
  refine (lawParcelPrice z0 v0 W w0).mono fun e W' ⟨he, bel⟩ => ?_
  subst he
  exact ⟨_, rfl, _, _, _, [], _, [], hW', trodAll_mk1 (shut_bool Try.underlying4 _), (trodAll_cons_mk (Below.trod lawOut (by kernel_rfl) (of_decide_eq_true (by kernel_rfl)) k0 bel lt0) trodAll_mk0), rfl, bel.frame _, fun h => by cases h⟩

theorem closedParcelPrice : joinedFacts Try.pinned.checked.prog 6 Try.f6 Rows.fnParcelPriceSpec Rows.fnParcelPriceRow = true := by
  unfold joinedFacts
  rw [headEnters, headMake, headFinal]
  kernel_rfl

theorem holdsParcelPrice : Rows.FnParcelPriceSaid :=
  OpenClaim.holds_of_wide 6 Try.f6 rfl rfl rfl rfl rfl rfl rfl ⟨rfl, rfl, rfl, rfl, rfl⟩ rfl rfl rfl rfl rfl (by kernel_rfl) Try.func6 closedParcelPrice
    (of_decide_eq_true (by kernel_rfl)) (by unfold Func.isWrapper; first | (rw [if_pos (by decide +kernel)]; kernel_rfl) | (rw [if_neg (by decide +kernel)]; exact ⟨rfl, rfl⟩))
    (fun os started H enc _ => liftedParcelPrice os started H enc)

#print axioms holdsParcelPrice

end Go.Proofs.Yteeehgicegmbjaa
