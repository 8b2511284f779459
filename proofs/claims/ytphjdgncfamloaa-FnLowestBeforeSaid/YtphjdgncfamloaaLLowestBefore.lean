/- Lowest prices are prices: LowestBefore is at most PriceOn each day that it looks at, and that of one of them, for every code. Conditions: none. -/
import Derived.Test.YtphjdgncfamloaaWE
import Derived.Test.YtphjdgncfamloaaWH
import Derived.Test.YtphjdgncfamloaaPriceLaws
import Derived.Test.YtphjdgncfamloaaOpen
import Derived.Test.YtphjdgncfamloaaHead
namespace Go.Proofs.Ytphjdgncfamloaa
open Go.RowKit

theorem fLowest_neg {l : List (Int × Int)} {d : Int} (h : ¬ fLowest l d < 0) : vPrices l = true ∧ wi d 0 999 = true := by
  cases hc : vPrices l && wi d 0 999
  · exfalso; apply h; unfold fLowest; rw [hc]; simp
  · rwa [Bool.and_eq_true] at hc

theorem fLow_is {l : List (Int × Int)} {d : Int} (h : vPrices l = true ∧ wi d 0 999 = true) : fLowest l d = lowB l d := by unfold fLowest; rw [h.1, h.2]; rfl

/-- some of the first k days, or none at all, has the lowest price -/
def someB (l : List (Int × Int)) (d : Int) : Nat → Bool
  | 0 => lowB l d == 0
  | k + 1 => someB l d k || (pDay l (from30 d + k) == lowB l d)

theorem someB_of {l : List (Int × Int)} {d : Int} {i : Nat} : ∀ k, i < k → pDay l (from30 d + i) = lowB l d → someB l d k = true
  | 0, h, _ => absurd h (Nat.not_lt_zero _)
  | k + 1, h, e => by
    unfold someB
    by_cases hi : i = k
    · subst hi; simp [e]
    · rw [someB_of k (by omega) e]; rfl

theorem someB_zero {l : List (Int × Int)} {d : Int} (h : lowB l d = 0) : ∀ k, someB l d k = true
  | 0 => by simp [someB, h]
  | k + 1 => by rw [someB, someB_zero h k]; rfl

theorem someB_end {l : List (Int × Int)} {d : Int} {k : Nat} (h : (k : Int) = d - from30 d) : someB l d k = true := by
  rcases lowB_some (l := l) d with h0 | ⟨e, h1, h2, h3⟩
  · exact someB_zero h0 k
  · refine someB_of (i := (e - from30 d).toNat) k (by omega) ?_
    rw [show from30 d + ((e - from30 d).toNat : Int) = e by omega]; exact h3

theorem start30' (d : Int) : Value.int .i64 (max 0 (d - 30)) = .int .i64 (from30 d + ((0 : Nat) : Int)) := by
  congr 1; unfold from30; split <;> omega

set_option maxHeartbeats 2000000 in
theorem lawLowestBefore (z : List Int) (v : Value) (w : World) (hv : Rd w 1 v z.length (z.map (Value.int .u8)) ∧ ∀ x ∈ z, 0 ≤ x ∧ x ≤ 255) :
    Calls Try.prog 12 #[v] w fun e w' => e = .returned (.bool true) ∧ Below w.heap.size w w' := by
  have hm := hv.1.len
  unfold maxLen at hm
  obtain ⟨_, ao, cap, rfl, _⟩ := hv.1
  have HV := Lib.hid hv
  clear hv
  by_cases hn : 1048576 < z.length
  · go_enter Try.func12, Try.ntmps12
    go_wp2
    go_ret
    exact ⟨rfl, Below.refl _ _⟩
  · go_enter Try.func12, Try.ntmps12
    go_wp2_with fail
    refine (drawLowestBefore_any z _ _ HV.out.1 HV.out.2).mono ?_
    rintro e w1 ⟨l, u, d, rfl, ho1, _, hl1, hd1, hd2, hb1⟩
    obtain ⟨bo, cap1, rfl, ⟨hcap1, hcap2⟩, hg⟩ := owns_shape_cap ho1
    have R1 := Lib.hid (Rd.of_owns ho1)
    have HG := Lib.hid hg
    clear ho1 hg
    go_wp2_with fail
    refine (implLowest_any l _ _ _ R1.out).mono ?_
    rintro e w2 ⟨rfl, hb2⟩
    have B2 := hb1.trans (hb2.mono hb1.size)
    have R2 := Lib.hid (R1.out.below hb2 (Nat.le_refl _))
    clear hb1 hb2 R1
    have hne : (fLowest l d != fLowest l d) = false := by simp
    go_wp2_with fail
    refine (specLowest_any l _ _ _ R2.out).mono ?_
    rintro e w3 ⟨rfl, hb3⟩
    have B3 := B2.trans (hb3.mono B2.size)
    have R3 := Lib.hid (R2.out.below hb3 (Nat.le_refl _))
    clear B2 hb3 R2
    by_cases hp : fLowest l d < 0
    · go_wp2_with fail
      refine (specLowest_any l _ _ _ R3.out).mono ?_
      rintro e w4 ⟨rfl, hb4⟩
      go_wp2
      go_ret
      exact ⟨ret_b (by simp), B3.trans (hb4.mono B3.size)⟩
    · have hvp := fLowest_neg hp
      have hwd := wi_true.1 hvp.2
      obtain ⟨hw0, hw1⟩ := hwd
      have HVP := Lib.hid hvp
      have hlow := Lib.hid (fLow_is hvp)
      obtain ⟨hf0, hf1, hf2⟩ := from30_bd d hw0
      clear hvp
      rw [hlow.out] at hp ⊢
      have hlo : 0 ≤ lowB l d := by omega
      clear hp hne
      cases hz0 : (lowB l d == 0)
      · go_wp2
        go_loopw [6, 7] (fun s i wr => ∃ k : Nat, (k : Int) ≤ d - from30 d ∧ i = .int .i64 (from30 d + k) ∧ s = .bool (someB l d k) ∧ Below w.heap.size w wr ∧ Hid (Rd wr 2 (.slice bo l.length cap1) l.length (pr l))) (fun _ i _ => (d - intOf i).toNat)
        case atStart => exact ⟨0, by omega, start30' d, by rw [someB, hz0], B3, R3⟩
        case round =>
          clear B3 R3
          obtain ⟨k, hk, rfl, rfl, hbl, R4⟩ := hrel
          by_cases hlt : (k : Int) < d - from30 d
          · have hday := Lib.hid (fPriceOn_in (d := from30 d + k) HVP.out.1 (by omega) (by omega))
            have hstep : Hid (someB l d (k + 1) = (someB l d k || (pDay l (from30 d + k) == lowB l d))) := rfl
            have hlow2 := lowB_low (d := d) (e := from30 d + k) HVP.out.1 (by omega) (by omega)
            generalize hx : pDay l (from30 d + k) = x at hday hstep hlow2
            clear hx
            go_wp2_with fail
            refine (implPriceOn_any l _ _ _ R4.out).mono ?_
            rintro e w4 ⟨rfl, hb4⟩
            rw [hday.out]
            have B5 := hbl.trans (hb4.mono hbl.size)
            have R5 := Lib.hid (R4.out.below hb4 (Nat.le_refl _))
            clear hbl hb4 R4
            by_cases hpx : 0 < x
            · have h3 : ¬ x < lowB l d := by have := hlow2 hpx; omega
              clear hlow2
              cases hs : someB l d k
              · rw [hs] at hstep
                cases hq : (x == lowB l d)
                all_goals
                  rw [hq] at hstep
                  go_wp2
                  go_roundw
                  case rel => exact ⟨k + 1, by omega, by go_num, by rw [hstep.out]; rfl, B5, R5⟩
                  case measure => simp [intOf]; omega
              · rw [hs] at hstep
                cases hq : (x == lowB l d)
                all_goals
                  rw [hq] at hstep
                  go_wp2
                  go_roundw
                  case rel => exact ⟨k + 1, by omega, by go_num, by rw [hstep.out]; rfl, B5, R5⟩
                  case measure => simp [intOf]; omega
            · clear hlow2
              cases hs : someB l d k
              · rw [hs] at hstep
                cases hq : (x == lowB l d)
                all_goals
                  rw [hq] at hstep
                  go_wp2
                  go_roundw
                  case rel => exact ⟨k + 1, by omega, by go_num, by rw [hstep.out]; rfl, B5, R5⟩
                  case measure => simp [intOf]; omega
              · rw [hs] at hstep
                cases hq : (x == lowB l d)
                all_goals
                  rw [hq] at hstep
                  go_wp2
                  go_roundw
                  case rel => exact ⟨k + 1, by omega, by go_num, by rw [hstep.out]; rfl, B5, R5⟩
                  case measure => simp [intOf]; omega
          · have fin := Lib.hid (someB_end (l := l) (d := d) (k := k) (by omega))
            go_wp2
            go_ret
            exact ⟨ret_b fin.out, hbl⟩
      · go_wp2
        go_loopw [6, 7] (fun s i wr => ∃ k : Nat, (k : Int) ≤ d - from30 d ∧ i = .int .i64 (from30 d + k) ∧ s = .bool (someB l d k) ∧ Below w.heap.size w wr ∧ Hid (Rd wr 2 (.slice bo l.length cap1) l.length (pr l))) (fun _ i _ => (d - intOf i).toNat)
        case atStart => exact ⟨0, by omega, start30' d, by rw [someB, hz0], B3, R3⟩
        case round =>
          clear B3 R3
          obtain ⟨k, hk, rfl, rfl, hbl, R4⟩ := hrel
          by_cases hlt : (k : Int) < d - from30 d
          · have hday := Lib.hid (fPriceOn_in (d := from30 d + k) HVP.out.1 (by omega) (by omega))
            have hstep : Hid (someB l d (k + 1) = (someB l d k || (pDay l (from30 d + k) == lowB l d))) := rfl
            have hlow2 := lowB_low (d := d) (e := from30 d + k) HVP.out.1 (by omega) (by omega)
            generalize hx : pDay l (from30 d + k) = x at hday hstep hlow2
            clear hx
            go_wp2_with fail
            refine (implPriceOn_any l _ _ _ R4.out).mono ?_
            rintro e w4 ⟨rfl, hb4⟩
            rw [hday.out]
            have B5 := hbl.trans (hb4.mono hbl.size)
            have R5 := Lib.hid (R4.out.below hb4 (Nat.le_refl _))
            clear hbl hb4 R4
            by_cases hpx : 0 < x
            · exfalso; have := hlow2 hpx; rw [beq_iff_eq] at hz0; omega
            · clear hlow2
              cases hs : someB l d k
              · rw [hs] at hstep
                cases hq : (x == lowB l d)
                all_goals
                  rw [hq] at hstep
                  go_wp2
                  go_roundw
                  case rel => exact ⟨k + 1, by omega, by go_num, by rw [hstep.out]; rfl, B5, R5⟩
                  case measure => simp [intOf]; omega
              · rw [hs] at hstep
                cases hq : (x == lowB l d)
                all_goals
                  rw [hq] at hstep
                  go_wp2
                  go_roundw
                  case rel => exact ⟨k + 1, by omega, by go_num, by rw [hstep.out]; rfl, B5, R5⟩
                  case measure => simp [intOf]; omega
          · have fin := Lib.hid (someB_end (l := l) (d := d) (k := k) (by omega))
            go_wp2
            go_ret
            exact ⟨ret_b fin.out, hbl⟩


open Go.ChangeShapes Go.WideShapes Go.ChangeAt

theorem lawOwn : ownKnob Try.prog.godebug = none := by kernel_rfl
theorem lawOut : laidOutB Try.prog = true := by kernel_rfl

set_option linter.unusedVariables false in
set_option maxRecDepth 100000 in
theorem liftedLowestBefore (os : Os) (started : os.Started) (H : Type) (enc : TypeId × Value → H) :
    ReturnsInHanded {} Try.checked os 12 .any (Rows.fnLowestBeforeSpec.pre6 enc Try.prog Try.f12 Rows.fnLowestBeforeRow.domain false) (Rows.fnLowestBeforeSpec.post enc Try.prog Try.f12 false true false false) := by
  refine returnsInHanded_of_change (C := Try.checked) lawOwn started (by kernel_rfl) Try.func12
    (ChangeSpec.witness6 (enc := enc) (C := Try.checked) false ⟨#[], #[.slice none 0 0], []⟩ 8 (by kernel_rfl) (by kernel_rfl) (by kernel_rfl) (by kernel_rfl)) ?_
  intro W base args ds gs before hval0 hW hcnd _
  have hval : ∀ (j : Nat) t v, Try.f12.params[j]? = some t → args[j]? = some v → Value.okWide Try.prog W .any base t v := hval0
  have hW' := hW
  obtain ⟨p, q, hA0, hV, rfl, hfz, hnd⟩ := hW
  have hA : DataW.TrodAll enc Try.prog W 0 (fun _ => true) true Try.f12.params.toList args.toList ds p := hA0
  rw [Try.params12] at hA hval
  obtain ⟨v0, vs0, d0, ds0, p0, q0, hargs, rfl, rfl, h0, r0⟩ := trodAll_cons hA
  obtain ⟨rfl, rfl, rfl⟩ := trodAll_nil r0
  obtain rfl : args = #[v0] := by cases args; simp_all
  obtain ⟨rfl, rfl⟩ := trodVars_none hV
  have k0 := h0
  have lt0 : ∀ x ∈ p0, x.block < W.heap.size := by obtain ⟨m, hm⟩ := k0; exact DataW.trod_lt m _ _ _ hm
  clear hA0 hval0
  obtain ⟨z0, w0⟩ : ∃ z : List Int, Rd W 1 v0 z.length (z.map (Value.int .u8)) ∧ ∀ x ∈ z, 0 ≤ x ∧ x ≤ 255 := by
    obtain ⟨a0, n0, c0, rfl⟩ := okWide_slice Try.underlying22 (hval 0 22 v0 rfl rfl)
    obtain ⟨fuel, hf⟩ := h0
    exact open_bytes Try.underlying22 Try.underlying5 (by kernel_rfl) hf
  refine (lawLowestBefore z0 v0 W w0).mono fun e W' ⟨he, bel⟩ => ?_
  subst he
  exact ⟨_, rfl, _, _, _, [], _, [], hW', trodAll_mk1 (shut_bool Try.underlying4 _), (trodAll_cons_mk (Below.trod lawOut (by kernel_rfl) (of_decide_eq_true (by kernel_rfl)) k0 bel lt0) trodAll_mk0), rfl, bel.frame _, fun h => by cases h⟩

theorem closedLowestBefore : joinedFacts Try.pinned.checked.prog 12 Try.f12 Rows.fnLowestBeforeSpec Rows.fnLowestBeforeRow = true := by
  unfold joinedFacts
  rw [headEnters, headMake, headFinal]
  kernel_rfl

theorem holdsLowestBefore : Rows.FnLowestBeforeSaid :=
  OpenClaim.holds_of_wide 12 Try.f12 rfl rfl rfl rfl rfl rfl rfl ⟨rfl, rfl, rfl, rfl, rfl⟩ rfl rfl rfl rfl rfl (by kernel_rfl) Try.func12 closedLowestBefore
    (of_decide_eq_true (by kernel_rfl)) (by unfold Func.isWrapper; first | (rw [if_pos (by decide +kernel)]; kernel_rfl) | (rw [if_neg (by decide +kernel)]; exact ⟨rfl, rfl⟩))
    (fun os started H enc _ => liftedLowestBefore os started H enc)

#print axioms holdsLowestBefore

end Go.Proofs.Ytphjdgncfamloaa
