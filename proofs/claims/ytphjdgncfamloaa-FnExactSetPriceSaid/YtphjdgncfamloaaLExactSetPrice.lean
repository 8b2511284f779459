/- The program's SetPrice returns what the reference's returns, for all arguments, leaves its arguments unmodified, and shares no memory. Conditions: none. -/
import Derived.Test.YtphjdgncfamloaaWT
import Derived.Test.YtphjdgncfamloaaMk
import Derived.Test.YtphjdgncfamloaaOpen
import Derived.Test.YtphjdgncfamloaaHead
namespace Go.Proofs.Ytphjdgncfamloaa
open Go.RowKit

theorem setL_len (l : List (Int × Int)) (d p : Int) : (setL l d p).length ≤ l.length + 1 := by
  unfold setL out1 base1
  split
  · split
    · simp
    · simp
  · simp

/-- A row stays where a younger or an elder row is written. -/
theorem owns_other {w w' : World} {b1 e sz n1 : Nat} {v1 v2 : Value} {xs : List Value} (h : w.ownsRow b1 e sz v1 n1 xs) (hg : w.grownBy w' v2.ownBlock) (hne : ∀ k k', v1.ownBlock = some k → v2.ownBlock = some k' → k ≠ k') : w'.ownsRow b1 e sz v1 n1 xs :=
  h.kept hg (by
    cases hv : v1.ownBlock with
    | none => exact .inl rfl
    | some k => right; intro e; exact hne k k hv e.symm rfl)

set_option maxHeartbeats 4000000 in
theorem walkExactSetPrice (l : List (Int × Int)) (v : Value) (d p : Int) (w : World) (hv : Rd w 2 v l.length (pr l)) :
    Calls Try.prog 10 #[v, .int .i64 d, .int .i64 p] w fun e w' => e = .returned (.bool true) ∧ Below w.heap.size w w' := by
  have hm := hv.len
  unfold maxLen at hm
  obtain ⟨ao, cap, rfl, _⟩ := hv.pairs
  have HV := Lib.hid hv
  clear hv
  by_cases hn : l.length ≤ 1048576
  · have hsz : Hid (szL 1048576 l.length = 1048576 - l.length) := by rw [Hid, szL, if_neg (by omega)]
    have hlen := setL_len l d p
    have hne : (setOk l d p != setOk l d p) = false := by simp
    go_enter Try.func10, Try.ntmps10
    go_wp2_with fail
    refine (szChangeS_any _ _ _ _ _ (by omega) (by omega) (by omega)).mono ?_
    rintro e w1 ⟨rfl, rfl⟩
    rw [hsz.out]
    go_wp2_with fail
    refine (toChangeS_any l _ _ HV.out hn).mono ?_
    rintro e w1 ⟨u1, rfl, ho1, hb1⟩
    have O1 := Lib.hid ho1
    have B1 := hb1
    clear ho1 hb1
    go_wp2_with fail
    refine (specSet_any _ l _ _ _ _ O1.out).mono ?_
    rintro e w2 ⟨v2, rfl, ho2, hb2⟩
    have V2 := Lib.hid ho2
    have B2 := B1.trans (hb2.mono B1.size)
    have Z12 := B1.size
    have Z13 := hb2.size
    clear ho2 hb2 O1 B1
    go_wp2_with fail
    refine (toChangeS_any l _ _ (HV.out.below B2 (Nat.le_refl _)) hn).mono ?_
    rintro e w3 ⟨u3, rfl, ho3, hb3⟩
    have O3 := Lib.hid ho3
    have V3 := Lib.hid (ownsRow_below V2.out hb3 (Nat.le_refl _))
    have B3 := B2.trans (hb3.mono B2.size)
    have L2 := Lib.hid (fun k hk => (V2.out.lt k hk).2)
    have Z23 := hb3.size
    clear ho3 hb3 V2
    go_wp2_with fail
    refine (implSet_any _ l _ _ _ _ O3.out).mono ?_
    rintro e w4 ⟨v4, rfl, ho4, hb4⟩
    have G4 := Lib.hid ho4
    have L3 := Lib.hid (fun k hk => O3.out.lt k hk)
    have L4 := Lib.hid (fun k hk => (ho4.lt k hk).1)
    have V4 := Lib.hid (ownsRow_below V3.out hb4 (Nat.le_refl _))
    have O4 := Lib.hid (ownsRow_below O3.out hb4 (Nat.le_refl _))
    have B4 := B3.trans (hb4.mono B3.size)
    clear ho4 hb4 V3 O3 B2 B3
    go_wp2_with fail
    refine (eqChangeS_any _ _ _ _ _ (Rd.of_owns G4.out) (Rd.of_owns V4.out)).mono ?_
    rintro e w5 ⟨rfl, hb5⟩
    rw [show decide (setL l d p = setL l d p) = true by simp]
    have G5 := Lib.hid (ownsRow_below G4.out hb5 (Nat.le_refl _))
    have V5 := Lib.hid (ownsRow_below V4.out hb5 (Nat.le_refl _))
    have O5 := Lib.hid (ownsRow_below O4.out hb5 (Nat.le_refl _))
    have B5 := B4.trans (hb5.mono B4.size)
    clear hb5 V4 O4 G4 B4
    go_wp2_with fail
    refine (toChangeS_any l _ _ (HV.out.below B5 (Nat.le_refl _)) hn).mono ?_
    rintro e w6 ⟨u6, rfl, ho6, hb6⟩
    have U6 := Lib.hid (Rd.of_owns ho6)
    have G6 := Lib.hid (ownsRow_below G5.out hb6 (Nat.le_refl _))
    have V6 := Lib.hid (ownsRow_below V5.out hb6 (Nat.le_refl _))
    have O6 := Lib.hid (ownsRow_below O5.out hb6 (Nat.le_refl _))
    have B6 := B5.trans (hb6.mono B5.size)
    clear hb6 ho6 V5 O5 G5 B5
    go_wp2_with fail
    refine (eqChangeS_any l l _ _ _ (Rd.of_owns O6.out) U6.out).mono ?_
    rintro e w7 ⟨rfl, hb7⟩
    rw [show decide (l = l) = true by simp]
    have G7 := Lib.hid (ownsRow_below G6.out hb7 (Nat.le_refl _))
    have V7 := Lib.hid (ownsRow_below V6.out hb7 (Nat.le_refl _))
    have O7 := Lib.hid (ownsRow_below O6.out hb7 (Nat.le_refl _))
    have B7 := B6.trans (hb7.mono B6.size)
    clear hb7 V6 O6 G6 U6 B6
    go_wp2_with fail
    refine (markChangeS_any _ l _ 1 _ O7.out (by omega) (by omega) (by omega)).mono ?_
    rintro e w8 ⟨rfl, _, hg8⟩
    have G8 := Lib.hid (owns_other G7.out hg8 (fun k k' h1 h2 => by have := L4.out k h1; have := (L3.out k' h2).2; omega))
    have V8 := Lib.hid (owns_other V7.out hg8 (fun k k' h1 h2 => by have := L2.out k h1; have := (L3.out k' h2).1; omega))
    have B8 := B7.grown hg8 B7.size (fun k hk => by have := (L3.out k hk).1; omega)
    clear hg8 V7 O7 G7 B7
    go_wp2_with fail
    refine (eqChangeS_any _ _ _ _ _ (Rd.of_owns G8.out) (Rd.of_owns V8.out)).mono ?_
    rintro e w9 ⟨rfl, hb9⟩
    rw [show decide (setL l d p = setL l d p) = true by simp]
    have G9 := Lib.hid (ownsRow_below G8.out hb9 (Nat.le_refl _))
    have V9 := Lib.hid (ownsRow_below V8.out hb9 (Nat.le_refl _))
    have B9 := B8.trans (hb9.mono B8.size)
    clear hb9 V8 G8 B8
    go_wp2_with fail
    refine (markChangeS_any _ _ _ 1 _ G9.out (by omega) (by omega) (by omega)).mono ?_
    rintro e w10 ⟨rfl, ho10, hg10⟩
    have M10 : Hid (Rd w10 2 v4 (marks 1 (setL l d p).length).length (pr (marks 1 (setL l d p).length))) := by
      rw [Hid, marks_len]; exact Rd.of_owns ho10
    have V10 := Lib.hid (owns_other V9.out hg10 (fun k k' h1 h2 => by have := L2.out k h1; have := L4.out k' h2; omega))
    have B10 := B9.grown hg10 B9.size (fun k hk => by have := L4.out k hk; omega)
    have hml := marks_len 1 (setL l d p).length
    have HMK : Hid (marks 1 (setL l d p).length = marks 1 (marks 1 (setL l d p).length).length) := by rw [Hid, hml]
    have HML := Lib.hid hml
    clear ho10 hg10 V9 G9 B9 hml
    go_wp2_with fail
    refine (heldChangeS_any _ _ 1 _ M10.out (by rw [HML.out]; omega) (by omega) (by omega) HMK.out).mono ?_
    rintro e w11 ⟨rfl, rfl⟩
    rw [HML.out]
    go_wp2_with fail
    refine (toChangeS_any l _ _ (HV.out.below B10 (Nat.le_refl _)) hn).mono ?_
    rintro e w11 ⟨u11, rfl, ho11, hb11⟩
    have O11 := Lib.hid ho11
    have V11 := Lib.hid (ownsRow_below V10.out hb11 (Nat.le_refl _))
    have M11 := Lib.hid (M10.out.below hb11 (Nat.le_refl _))
    have B11 := B10.trans (hb11.mono B10.size)
    clear ho11 hb11 V10 M10 B10
    go_wp2_with fail
    refine (implSet_any _ l _ _ _ _ O11.out).mono ?_
    rintro e w12 ⟨v12, rfl, ho12, hb12⟩
    have G12 := Lib.hid (Rd.of_owns ho12)
    have V12 := Lib.hid (Rd.of_owns (ownsRow_below V11.out hb12 (Nat.le_refl _)))
    have M12 := Lib.hid (M11.out.below hb12 (Nat.le_refl _))
    have B12 := B11.trans (hb12.mono B11.size)
    clear ho12 hb12 V11 M11 B11 O11
    go_wp2_with fail
    refine (eqChangeS_any _ _ _ _ _ G12.out V12.out).mono ?_
    rintro e w13 ⟨rfl, hb13⟩
    rw [show decide (setL l d p = setL l d p) = true by simp]
    have M13 := Lib.hid (M12.out.below hb13 (Nat.le_refl _))
    have B13 := B12.trans (hb13.mono B12.size)
    clear hb13 V12 M12 G12 B12
    go_wp2_with fail
    refine (heldChangeS_any _ _ 1 _ M13.out (by rw [HML.out]; omega) (by omega) (by omega) HMK.out).mono ?_
    rintro e w14 ⟨rfl, rfl⟩
    rw [HML.out]
    go_wp2
    go_ret
    exact ⟨rfl, B13⟩
  · have hsz : Hid (szL 1048576 l.length = -1) := by rw [Hid, szL, if_pos (by omega)]
    go_enter Try.func10, Try.ntmps10
    go_wp2_with fail
    refine (szChangeS_any _ _ _ _ _ (by omega) (by omega) (by omega)).mono ?_
    rintro e w1 ⟨rfl, rfl⟩
    rw [hsz.out]
    go_wp2
    go_ret
    exact ⟨rfl, Below.refl _ _⟩

theorem lawExactSetPrice (l : List (Int × Int)) (v : Value) (d0 : Int) (v1 : Value) (d1 : Int) (v2 : Value) (w : World) (hv : Rd w 2 v l.length (pr l)) (e0 : v1 = .int .i64 d0 ∧ -9223372036854775808 ≤ d0 ∧ d0 ≤ 9223372036854775807) (e1 : v2 = .int .i64 d1 ∧ -9223372036854775808 ≤ d1 ∧ d1 ≤ 9223372036854775807) :
    Calls Try.prog 10 #[v, v1, v2] w fun e w' => e = .returned (.bool true) ∧ Below w.heap.size w w' := by
  obtain ⟨rfl, _⟩ := e0
  obtain ⟨rfl, _⟩ := e1
  exact walkExactSetPrice l v d0 d1 w hv

open Go.ChangeShapes Go.WideShapes Go.ChangeAt

theorem lawOwn : ownKnob Try.prog.godebug = none := by kernel_rfl
theorem lawOut : laidOutB Try.prog = true := by kernel_rfl

set_option linter.unusedVariables false in
set_option maxRecDepth 100000 in
theorem liftedExactSetPrice (os : Os) (started : os.Started) (H : Type) (enc : TypeId × Value → H) :
    ReturnsInHanded {} Try.checked os 10 .any (Rows.fnExactSetPriceSpec.pre6 enc Try.prog Try.f10 Rows.fnExactSetPriceRow.domain false) (Rows.fnExactSetPriceSpec.post enc Try.prog Try.f10 false true false false) := by
  refine returnsInHanded_of_change (C := Try.checked) lawOwn started (by kernel_rfl) Try.func10
    (ChangeSpec.witness6 (enc := enc) (C := Try.checked) false ⟨#[], #[.slice none 0 0, .int .i64 0, .int .i64 0], []⟩ 8 (by kernel_rfl) (by kernel_rfl) (by kernel_rfl) (by kernel_rfl)) ?_
  intro W base args ds gs before hval0 hW hcnd _
  have hval : ∀ (j : Nat) t v, Try.f10.params[j]? = some t → args[j]? = some v → Value.okWide Try.prog W .any base t v := hval0
  have hW' := hW
  obtain ⟨p, q, hA0, hV, rfl, hfz, hnd⟩ := hW
  have hA : DataW.TrodAll enc Try.prog W 0 (fun _ => true) true Try.f10.params.toList args.toList ds p := hA0
  rw [Try.params10] at hA hval
  obtain ⟨v0, vs0, d0, ds0, p0, q0, hargs, rfl, rfl, h0, r0⟩ := trodAll_cons hA
  obtain ⟨v1, vs1, d1, ds1, p1, q1, rfl, rfl, rfl, h1, r1⟩ := trodAll_cons r0
  obtain ⟨v2, vs2, d2, ds2, p2, q2, rfl, rfl, rfl, h2, r2⟩ := trodAll_cons r1
  obtain ⟨rfl, rfl, rfl⟩ := trodAll_nil r2
  obtain rfl : args = #[v0, v1, v2] := by cases args; simp_all
  obtain ⟨rfl, rfl⟩ := trodVars_none hV
  have k0 := h0
  have lt0 : ∀ x ∈ p0, x.block < W.heap.size := by obtain ⟨m, hm⟩ := k0; exact DataW.trod_lt m _ _ _ hm
  have k1 := h1
  have lt1 : ∀ x ∈ p1, x.block < W.heap.size := by obtain ⟨m, hm⟩ := k1; exact DataW.trod_lt m _ _ _ hm
  have k2 := h2
  have lt2 : ∀ x ∈ p2, x.block < W.heap.size := by obtain ⟨m, hm⟩ := k2; exact DataW.trod_lt m _ _ _ hm
  clear hA0 hval0
  obtain ⟨z0, w0⟩ : ∃ z : List (Int × Int), Rd W 2 v0 z.length (pr z) := by
    obtain ⟨a0, n0, c0, rfl⟩ := okWide_slice Try.underlying27 (hval 0 27 v0 rfl rfl)
    obtain ⟨fuel, hf⟩ := h0
    exact open_prs Try.underlying27 Try.underlying49 (by kernel_rfl) rfl rfl (by kernel_rfl) (by kernel_rfl) Try.underlying3 Try.underlying3 hf
  obtain ⟨z1, w1⟩ : ∃ z : Int, v1 = .int .i64 z ∧ -9223372036854775808 ≤ z ∧ z ≤ 9223372036854775807 := by
    obtain ⟨x, rfl, _, _, wx⟩ := open_int Try.underlying3 (hval 1 3 v1 rfl rfl) h1
    exact ⟨x, rfl, wf_bounds wx⟩
  obtain ⟨z2, w2⟩ : ∃ z : Int, v2 = .int .i64 z ∧ -9223372036854775808 ≤ z ∧ z ≤ 9223372036854775807 := by
    obtain ⟨x, rfl, _, _, wx⟩ := open_int Try.underlying3 (hval 2 3 v2 rfl rfl) h2
    exact ⟨x, rfl, wf_bounds wx⟩
  refine (lawExactSetPrice z0 v0 z1 v1 z2 v2 W w0 w1 w2).mono fun e W' ⟨he, bel⟩ => ?_
  subst he
  exact ⟨_, rfl, _, _, _, [], _, [], hW', trodAll_mk1 (shut_bool Try.underlying4 _), (trodAll_cons_mk (Below.trod lawOut (by kernel_rfl) (of_decide_eq_true (by kernel_rfl)) k0 bel lt0) (trodAll_cons_mk (Below.trod lawOut (by kernel_rfl) (of_decide_eq_true (by kernel_rfl)) k1 bel lt1) (trodAll_cons_mk (Below.trod lawOut (by kernel_rfl) (of_decide_eq_true (by kernel_rfl)) k2 bel lt2) trodAll_mk0))), rfl, bel.frame _, fun h => by cases h⟩

theorem closedExactSetPrice : joinedFacts Try.pinned.checked.prog 10 Try.f10 Rows.fnExactSetPriceSpec Rows.fnExactSetPriceRow = true := by
  unfold joinedFacts
  rw [headEnters, headMake, headFinal]
  kernel_rfl

theorem holdsExactSetPrice : Rows.FnExactSetPriceSaid :=
  OpenClaim.holds_of_wide 10 Try.f10 rfl rfl rfl rfl rfl rfl rfl ⟨rfl, rfl, rfl, rfl, rfl⟩ rfl rfl rfl rfl rfl (by kernel_rfl) Try.func10 closedExactSetPrice
    (of_decide_eq_true (by kernel_rfl)) (by unfold Func.isWrapper; first | (rw [if_pos (by decide +kernel)]; kernel_rfl) | (rw [if_neg (by decide +kernel)]; exact ⟨rfl, rfl⟩))
    (fun os started H enc _ => liftedExactSetPrice os started H enc)

#print axioms holdsExactSetPrice

end Go.Proofs.Ytphjdgncfamloaa
