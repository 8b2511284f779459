/- Prices stay until they change: PriceOn a day is that of the day before unless there is a change on the day, for every code. Conditions: none. -/
import Derived.Test.YtphjdgncfamloaaWD
import Derived.Test.YtphjdgncfamloaaWH
import Derived.Test.YtphjdgncfamloaaPriceLaws
import Derived.Test.YtphjdgncfamloaaOpen
import Derived.Test.YtphjdgncfamloaaHead
namespace Go.Proofs.Ytphjdgncfamloaa
open Go.RowKit

theorem fPriceOn_neg {l : List (Int × Int)} {d : Int} (h : ¬ fPriceOn l d < 0) : vPrices l = true ∧ wi d 0 999 = true := by
  cases hc : vPrices l && wi d 0 999
  · exfalso; apply h; unfold fPriceOn; rw [hc]; simp
  · rwa [Bool.and_eq_true] at hc

set_option maxHeartbeats 2000000 in
theorem lawPriceOnLater (z : List Int) (v : Value) (w : World) (hv : Rd w 1 v z.length (z.map (Value.int .u8)) ∧ ∀ x ∈ z, 0 ≤ x ∧ x ≤ 255) :
    Calls Try.prog 7 #[v] w fun e w' => e = .returned (.bool true) ∧ Below w.heap.size w w' := by
  have hm := hv.1.len
  unfold maxLen at hm
  obtain ⟨_, ao, cap, rfl, _⟩ := hv.1
  have HV := Lib.hid hv
  clear hv
  by_cases hn : 1048576 < z.length
  · go_enter Try.func7, Try.ntmps7
    go_wp2
    go_ret
    exact ⟨rfl, Below.refl _ _⟩
  · go_enter Try.func7, Try.ntmps7
    go_wp2_with fail
    refine (drawPriceOn_any z _ _ HV.out.1 HV.out.2).mono ?_
    rintro e w1 ⟨l, u, d, rfl, ho1, _, hl1, hd1, hd2, hb1⟩
    obtain ⟨bo, cap1, rfl, ⟨hcap1, hcap2⟩, hg⟩ := owns_shape_cap ho1
    have R1 := Lib.hid (Rd.of_owns ho1)
    have HG := Lib.hid hg
    clear ho1 hg
    go_wp2_with fail
    refine (implPriceOn_any l _ _ _ R1.out).mono ?_
    rintro e w2 ⟨rfl, hb2⟩
    have B2 := hb1.trans (hb2.mono hb1.size)
    have R2 := Lib.hid (R1.out.below hb2 (Nat.le_refl _))
    clear hb1 hb2 R1
    have hne : (fPriceOn l d != fPriceOn l d) = false := by simp
    go_wp2_with fail
    refine (specPriceOn_any l _ _ _ R2.out).mono ?_
    rintro e w3 ⟨rfl, hb3⟩
    have B3 := B2.trans (hb3.mono B2.size)
    have R3 := Lib.hid (R2.out.below hb3 (Nat.le_refl _))
    clear B2 hb3 R2
    by_cases hp : fPriceOn l d < 0
    · go_wp2_with fail
      refine (specPriceOn_any l _ _ _ R3.out).mono ?_
      rintro e w4 ⟨rfl, hb4⟩
      go_wp2
      go_ret
      exact ⟨ret_b (by simp), B3.trans (hb4.mono B3.size)⟩
    · have hvp := fPriceOn_neg hp
      have hwd := wi_true.1 hvp.2
      obtain ⟨hw0, hw1⟩ := hwd
      have HVP := Lib.hid hvp
      clear hvp
      by_cases h0 : d = 0
      · have h0b : (d == 0) = true := by simp [h0]
        have H0 := Lib.hid h0
        clear h0
        go_wp2_with fail
        refine (specPriceOn_any l _ _ _ R3.out).mono ?_
        rintro e w4 ⟨rfl, hb4⟩
        go_wp2
        go_ret
        exact ⟨ret_b (by simp), B3.trans (hb4.mono B3.size)⟩
      · have h0b : (d == 0) = false := by simp [h0]
        have h1 : 1 ≤ d := by omega
        clear h0
        go_wp2
        go_loopw [6] (fun i wr => ∃ k : Nat, k ≤ l.length ∧ i = .int .i64 k ∧ Hid (∀ j, j < k → pA l j ≠ d) ∧ Below w.heap.size w wr ∧ Hid (Rd wr 2 (.slice bo l.length cap1) l.length (pr l))) (fun i _ => l.length - (intOf i).toNat)
        case atStart => exact ⟨0, Nat.zero_le _, rfl, fun j hj => absurd hj (Nat.not_lt_zero _), B3, R3⟩
        case round =>
          clear B3 R3
          obtain ⟨k, hk, rfl, hall, hbl, R4⟩ := hrel
          by_cases hlt : k < l.length
          · obtain ⟨g, rfl, hgb⟩ := HG.out (by omega)
            obtain ⟨hb4, hc4⟩ := R4.out.at_pairs k hlt
            obtain ⟨c0, c1⟩ := hc4
            by_cases hd : pA l k = d
            · have hdb : (pA l k == d) = true := by simp [hd]
              have fin : Hid (fPriceOn l d = pB l k) := by rw [Hid, ← hd]; exact day_of HVP.out.1 hlt
              have HD := Lib.hid hd
              clear hd
              go_wp2
              go_ret
              exact ⟨ret_b (by rw [fin.out]; simp), hbl⟩
            · have hdb : (pA l k == d) = false := by simp [hd]
              have HD := Lib.hid hd
              clear hd
              go_wp2
              go_roundw
              case rel => exact ⟨k + 1, by omega, by go_num, all_snoc hall.out HD.out, hbl, R4⟩
              case measure => simp [intOf]; omega
          · obtain rfl : k = l.length := by omega
            have fin : Hid (fPriceOn l (d - 1) = fPriceOn l d) := by
              unfold Hid fPriceOn
              rw [HVP.out.1, HVP.out.2, wi_true.2 (show 0 ≤ d - 1 ∧ d - 1 ≤ 999 by omega)]
              exact day_later d hall.out
            go_wp2_with fail
            refine (implPriceOn_any l _ _ _ R4.out).mono ?_
            rintro e w4 ⟨rfl, hb4⟩
            rw [fin.out]
            go_wp2
            go_ret
            exact ⟨ret_b (by simp), hbl.trans (hb4.mono hbl.size)⟩


open Go.ChangeShapes Go.WideShapes Go.ChangeAt

theorem lawOwn : ownKnob Try.prog.godebug = none := by kernel_rfl
theorem lawOut : laidOutB Try.prog = true := by kernel_rfl

set_option linter.unusedVariables false in
set_option maxRecDepth 100000 in
theorem liftedPriceOnLater (os : Os) (started : os.Started) (H : Type) (enc : TypeId × Value → H) :
    ReturnsInHanded {} Try.checked os 7 .any (Rows.fnPriceOnLaterSpec.pre6 enc Try.prog Try.f7 Rows.fnPriceOnLaterRow.domain false) (Rows.fnPriceOnLaterSpec.post enc Try.prog Try.f7 false true false false) := by
  refine returnsInHanded_of_change (C := Try.checked) lawOwn started (by kernel_rfl) Try.func7
    (ChangeSpec.witness6 (enc := enc) (C := Try.checked) false ⟨#[], #[.slice none 0 0], []⟩ 8 (by kernel_rfl) (by kernel_rfl) (by kernel_rfl) (by kernel_rfl)) ?_
  intro W base args ds gs before hval0 hW hcnd _
  have hval : ∀ (j : Nat) t v, Try.f7.params[j]? = some t → args[j]? = some v → Value.okWide Try.prog W .any base t v := hval0
  have hW' := hW
  obtain ⟨p, q, hA0, hV, rfl, hfz, hnd⟩ := hW
  have hA : DataW.TrodAll enc Try.prog W 0 (fun _ => true) true Try.f7.params.toList args.toList ds p := hA0
  rw [Try.params7] at hA hval
  obtain ⟨v0, vs0, d0, ds0, p0, q0, hargs, rfl, rfl, h0, r0⟩ := trodAll_cons hA
  obtain ⟨rfl, rfl, rfl⟩ := trodAll_nil r0
  obtain rfl : args = #[v0] := by cases args; simp_all
  obtain ⟨rfl, rfl⟩ := trodVars_none hV
  have k0 := h0
  have lt0 : ∀ x ∈ p0, x.block < W.heap.size := by obtain ⟨m, hm⟩ := k0; exact DataW.trod_lt m _ _ _ hm
  clear hA0 hval0
  obtain ⟨z0, w0⟩ : ∃ z : List Int, Rd W 1 v0 z.length (z.map (Value.int .u8)) ∧ ∀ x ∈ z, 0 ≤ x ∧ x ≤ 255 := by
    obtain ⟨a0, n0, c0, rfl⟩ := okWide_slice Try.underlying22 (hval 0 22 v0 rfl rfl)
    obtain ⟨fuel, hf⟩ := h0
    exact open_bytes Try.underlying22 Try.underlying5 (by kernel_rfl) hf
  refine (lawPriceOnLater z0 v0 W w0).mono fun e W' ⟨he, bel⟩ => ?_
  subst he
  exact ⟨_, rfl, _, _, _, [], _, [], hW', trodAll_mk1 (shut_bool Try.underlying4 _), (trodAll_cons_mk (Below.trod lawOut (by kernel_rfl) (of_decide_eq_true (by kernel_rfl)) k0 bel lt0) trodAll_mk0), rfl, bel.frame _, fun h => by cases h⟩

theorem closedPriceOnLater : joinedFacts Try.pinned.checked.prog 7 Try.f7 Rows.fnPriceOnLaterSpec Rows.fnPriceOnLaterRow = true := by
  unfold joinedFacts
  rw [headEnters, headMake, headFinal]
  kernel_rfl

theorem holdsPriceOnLater : Rows.FnPriceOnLaterSaid :=
  OpenClaim.holds_of_wide 7 Try.f7 rfl rfl rfl rfl rfl rfl rfl ⟨rfl, rfl, rfl, rfl, rfl⟩ rfl rfl rfl rfl rfl (by kernel_rfl) Try.func7 closedPriceOnLater
    (of_decide_eq_true (by kernel_rfl)) (by unfold Func.isWrapper; first | (rw [if_pos (by decide +kernel)]; kernel_rfl) | (rw [if_neg (by decide +kernel)]; exact ⟨rfl, rfl⟩))
    (fun os started H enc _ => liftedPriceOnLater os started H enc)

#print axioms holdsPriceOnLater

end Go.Proofs.Ytphjdgncfamloaa
