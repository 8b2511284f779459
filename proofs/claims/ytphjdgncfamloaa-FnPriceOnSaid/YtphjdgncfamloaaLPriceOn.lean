/- Prices count until the next one: PriceOn the day of a change is its price, and on the day before it is that of the change before, for every code. Conditions: none. -/
import Derived.Test.YtphjdgncfamloaaWD
import Derived.Test.YtphjdgncfamloaaWH
import Derived.Test.YtphjdgncfamloaaPriceLaws
import Derived.Test.YtphjdgncfamloaaLater
import Derived.Test.YtphjdgncfamloaaOpen
import Derived.Test.YtphjdgncfamloaaHead
namespace Go.Proofs.Ytphjdgncfamloaa
open Go.RowKit

theorem fPriceOn_neg {l : List (Int × Int)} {d : Int} (h : fPriceOn l d < 0) : (vPrices l && wi d 0 999) = false := by
  cases hc : vPrices l && wi d 0 999
  · rfl
  · rw [Bool.and_eq_true] at hc
    have := pDay_bd hc.1 d
    unfold fPriceOn at h
    rw [hc.1, hc.2] at h
    simp at h
    omega

theorem fPriceOn_pos {l : List (Int × Int)} {d : Int} (h : ¬ fPriceOn l d < 0) : vPrices l = true ∧ wi d 0 999 = true := by
  cases hc : vPrices l && wi d 0 999
  · exfalso; apply h; unfold fPriceOn; rw [hc]; simp
  · rwa [Bool.and_eq_true] at hc

set_option maxHeartbeats 1000000 in
theorem lawPriceOn (z : List Int) (v : Value) (w : World) (hv : Rd w 1 v z.length (z.map (Value.int .u8)) ∧ ∀ x ∈ z, 0 ≤ x ∧ x ≤ 255) :
    Calls Try.prog 6 #[v] w fun e w' => e = .returned (.bool true) ∧ Below w.heap.size w w' := by
  have hm := hv.1.len
  unfold maxLen at hm
  obtain ⟨_, ao, cap, rfl, _⟩ := hv.1
  have HV := Lib.hid hv
  clear hv
  by_cases hn : 1048576 < z.length
  · go_enter Try.func6, Try.ntmps6
    go_wp2
    go_ret
    exact ⟨rfl, Below.refl _ _⟩
  · go_enter Try.func6, Try.ntmps6
    go_wp2_with fail
    refine (drawPriceOn_any z _ _ HV.out.1 HV.out.2).mono ?_
    rintro e w1 ⟨l, u, d, rfl, ho1, _, hl1, hd1, hd2, hb1⟩
    obtain ⟨bo, cap1, rfl, ⟨hcap1, hcap2⟩, hg⟩ := owns_shape_cap ho1
    have R1 := Lib.hid (Rd.of_owns ho1)
    have HG := Lib.hid hg
    clear ho1 hg
    go_wp2_with fail
    refine (implPriceOn_any l _ _ _ R1.out).mono ?_
    rintro e w2 ⟨rfl, hb2⟩
    have B2 := hb1.trans (hb2.mono hb1.size)
    have R2 := Lib.hid (R1.out.below hb2 (Nat.le_refl _))
    clear hb1 hb2 R1
    have hne : (fPriceOn l d != fPriceOn l d) = false := by simp
    go_wp2_with fail
    refine (specPriceOn_any l _ _ _ R2.out).mono ?_
    rintro e w3 ⟨rfl, hb3⟩
    have B3 := B2.trans (hb3.mono B2.size)
    have R3 := Lib.hid (R2.out.below hb3 (Nat.le_refl _))
    clear B2 hb3 R2
    by_cases hp : fPriceOn l d < 0
    · go_wp2_with fail
      refine (specPriceOn_any l _ _ _ R3.out).mono ?_
      rintro e w4 ⟨rfl, hb4⟩
      go_wp2
      go_ret
      exact ⟨ret_b (by simp), B3.trans (hb4.mono B3.size)⟩
    · have hvp := (fPriceOn_pos hp).1
      have HVP := Lib.hid hvp
      have hlast := Lib.hid (day_last hvp)
      have hp2 : 0 ≤ fPriceOn l d := by omega
      clear hvp hp
      go_wp2
      go_loopw [6, 7] (fun b i wr => ∃ k : Nat, k ≤ l.length ∧ i = .int .i64 k ∧ b = .int .i64 (bef l k) ∧ Below w.heap.size w wr ∧ Hid (Rd wr 2 (.slice bo l.length cap1) l.length (pr l))) (fun _ i _ => l.length - (intOf i).toNat)
      case atStart => exact ⟨0, Nat.zero_le _, rfl, rfl, B3, R3⟩
      case round =>
        clear B3 R3
        obtain ⟨k, hk, rfl, rfl, hbl, R4⟩ := hrel
        by_cases hlt : k < l.length
        · obtain ⟨g, rfl, hgb⟩ := HG.out (by omega)
          obtain ⟨ao4, cap4, e4, _, _, hr4⟩ := R4.out.pairs
          obtain ⟨b4, off4, e5, hb4, hc4⟩ := hr4 (by omega)
          simp only [Value.slice.injEq, true_and] at e4
          obtain ⟨rfl, rfl⟩ := e4
          simp only [Option.some.injEq, Addr.mk.injEq, and_true] at e5
          obtain ⟨rfl, rfl⟩ := e5
          obtain ⟨c0, c1⟩ := hc4 k hlt
          simp only [Nat.zero_add] at c0 c1
          clear hr4 hc4
          have hch := chOk_pr ((vPrices_all HVP.out).1 k hlt)
          obtain ⟨hx0, hx1, hx2, hx3, _⟩ := hch
          have H1 : Hid (∀ x : Later wr, Calls Try.prog 20 #[.slice (some ⟨g, 0, none⟩) l.length cap1, .int .i64 (pA l k)] x.wld fun e w' => e = .returned (.int .i64 (pB l k)) ∧ ∃ y : Later wr, w' = y.wld) := by
            intro x
            have := implPriceOn_any l (.slice (some ⟨g, 0, none⟩) l.length cap1) (pA l k) x.wld (R4.out.below x.below (Nat.le_refl _))
            rw [day_of HVP.out hlt] at this
            exact Calls.later_of this
          by_cases h0 : 0 < pA l k
          · have H2 : Hid (∀ x : Later wr, Calls Try.prog 20 #[.slice (some ⟨g, 0, none⟩) l.length cap1, .int .i64 (pA l k - 1)] x.wld fun e w' => e = .returned (.int .i64 (bef l k)) ∧ ∃ y : Later wr, w' = y.wld) := by
              intro x
              have := implPriceOn_any l (.slice (some ⟨g, 0, none⟩) l.length cap1) (pA l k - 1) x.wld (R4.out.below x.below (Nat.le_refl _))
              rw [day_before HVP.out hlt h0] at this
              exact Calls.later_of this
            have hw : IntKind.i64.wrap (pA l k - 1) = pA l k - 1 := IntWalk.i64_in _ (by omega)
            have hi0 : (0 : Int) ≤ (k : Int) := by omega
            have hi1 : (k : Int) < (l.length : Int) := by omega
            go_wp2
            refine wp_region_later (by kernel_rfl) (by kernel_rfl) ?_
            repeat (go_big_quiet_step ((go_at_call 20; first | (with_reducible exact H1.out _) | (with_reducible exact H2.out _))))
            refine wpQuiet_nil ?_
            rintro _ ⟨x, rfl⟩
            clear H1 H2 hw
            have c1' : x.wld.cell? ⟨g, k * 2 + 1, none⟩ = some (.int .i64 (pB l k)) := (x.below.cell (p := ⟨g, k * 2 + 1, none⟩) hb4).trans c1
            have R5 := Lib.hid (R4.out.below x.below (Nat.le_refl _))
            go_wp2
            go_roundw
            case rel => exact ⟨k + 1, by omega, by go_num, rfl, hbl.trans (x.below.mono hbl.size), R5⟩
            case measure => simp [intOf]; omega
          · have h0b : decide (0 < pA l k) = false := by simpa using h0
            have hi0 : (0 : Int) ≤ (k : Int) := by omega
            have hi1 : (k : Int) < (l.length : Int) := by omega
            go_wp2
            refine wp_region_later (by kernel_rfl) (by kernel_rfl) ?_
            repeat (go_big_quiet_step ((go_at_call 20; exact H1.out _)))
            refine wpQuiet_nil ?_
            rintro _ ⟨x, rfl⟩
            clear H1
            have c1' : x.wld.cell? ⟨g, k * 2 + 1, none⟩ = some (.int .i64 (pB l k)) := (x.below.cell (p := ⟨g, k * 2 + 1, none⟩) hb4).trans c1
            have R5 := Lib.hid (R4.out.below x.below (Nat.le_refl _))
            go_wp2
            go_roundw
            case rel => exact ⟨k + 1, by omega, by go_num, rfl, hbl.trans (x.below.mono hbl.size), R5⟩
            case measure => simp [intOf]; omega
        · obtain rfl : k = l.length := by omega
          go_wp2_with fail
          refine (implPriceOn_any l _ _ _ R4.out).mono ?_
          rintro e w4 ⟨rfl, hb4⟩
          rw [hlast.out]
          go_wp2
          go_ret
          exact ⟨ret_b (by simp), hbl.trans (hb4.mono hbl.size)⟩


open Go.ChangeShapes Go.WideShapes Go.ChangeAt

theorem lawOwn : ownKnob Try.prog.godebug = none := by kernel_rfl
theorem lawOut : laidOutB Try.prog = true := by kernel_rfl

set_option linter.unusedVariables false in
set_option maxRecDepth 100000 in
theorem liftedPriceOn (os : Os) (started : os.Started) (H : Type) (enc : TypeId × Value → H) :
    ReturnsInHanded {} Try.checked os 6 .any (Rows.fnPriceOnSpec.pre6 enc Try.prog Try.f6 Rows.fnPriceOnRow.domain false) (Rows.fnPriceOnSpec.post enc Try.prog Try.f6 false true false false) := by
  refine returnsInHanded_of_change (C := Try.checked) lawOwn started (by kernel_rfl) Try.func6
    (ChangeSpec.witness6 (enc := enc) (C := Try.checked) false ⟨#[], #[.slice none 0 0], []⟩ 8 (by kernel_rfl) (by kernel_rfl) (by kernel_rfl) (by kernel_rfl)) ?_
  intro W base args ds gs before hval0 hW hcnd _
  have hval : ∀ (j : Nat) t v, Try.f6.params[j]? = some t → args[j]? = some v → Value.okWide Try.prog W .any base t v := hval0
  have hW' := hW
  obtain ⟨p, q, hA0, hV, rfl, hfz, hnd⟩ := hW
  have hA : DataW.TrodAll enc Try.prog W 0 (fun _ => true) true Try.f6.params.toList args.toList ds p := hA0
  rw [Try.params6] at hA hval
  obtain ⟨v0, vs0, d0, ds0, p0, q0, hargs, rfl, rfl, h0, r0⟩ := trodAll_cons hA
  obtain ⟨rfl, rfl, rfl⟩ := trodAll_nil r0
  obtain rfl : args = #[v0] := by cases args; simp_all
  obtain ⟨rfl, rfl⟩ := trodVars_none hV
  have k0 := h0
  have lt0 : ∀ x ∈ p0, x.block < W.heap.size := by obtain ⟨m, hm⟩ := k0; exact DataW.trod_lt m _ _ _ hm
  clear hA0 hval0
  obtain ⟨z0, w0⟩ : ∃ z : List Int, Rd W 1 v0 z.length (z.map (Value.int .u8)) ∧ ∀ x ∈ z, 0 ≤ x ∧ x ≤ 255 := by
    obtain ⟨a0, n0, c0, rfl⟩ := okWide_slice Try.underlying22 (hval 0 22 v0 rfl rfl)
    obtain ⟨fuel, hf⟩ := h0
    exact open_bytes Try.underlying22 Try.underlying5 (by kernel_rfl) hf
  refine (lawPriceOn z0 v0 W w0).mono fun e W' ⟨he, bel⟩ => ?_
  subst he
  exact ⟨_, rfl, _, _, _, [], _, [], hW', trodAll_mk1 (shut_bool Try.underlying4 _), (trodAll_cons_mk (Below.trod lawOut (by kernel_rfl) (of_decide_eq_true (by kernel_rfl)) k0 bel lt0) trodAll_mk0), rfl, bel.frame _, fun h => by cases h⟩

theorem closedPriceOn : joinedFacts Try.pinned.checked.prog 6 Try.f6 Rows.fnPriceOnSpec Rows.fnPriceOnRow = true := by
  unfold joinedFacts
  rw [headEnters, headMake, headFinal]
  kernel_rfl

theorem holdsPriceOn : Rows.FnPriceOnSaid :=
  OpenClaim.holds_of_wide 6 Try.f6 rfl rfl rfl rfl rfl rfl rfl ⟨rfl, rfl, rfl, rfl, rfl⟩ rfl rfl rfl rfl rfl (by kernel_rfl) Try.func6 closedPriceOn
    (of_decide_eq_true (by kernel_rfl)) (by unfold Func.isWrapper; first | (rw [if_pos (by decide +kernel)]; kernel_rfl) | (rw [if_neg (by decide +kernel)]; exact ⟨rfl, rfl⟩))
    (fun os started H enc _ => liftedPriceOn os started H enc)

#print axioms holdsPriceOn

end Go.Proofs.Ytphjdgncfamloaa
