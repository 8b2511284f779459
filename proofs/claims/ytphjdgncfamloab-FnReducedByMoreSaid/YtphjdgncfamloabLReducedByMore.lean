/- Lower prices are more reduced: ReducedBy behind SetPrice of a lower price is not less, for every code. Conditions: none. -/
import Derived.Test.YtphjdgncfamloabWT
import Derived.Test.YtphjdgncfamloabWU
import Derived.Test.YtphjdgncfamloabSetLaws
import Derived.Test.YtphjdgncfamloabWF
import Derived.Test.YtphjdgncfamloabOpen
import Derived.Test.YtphjdgncfamloabHead
namespace Go.Proofs.Ytphjdgncfamloab
open Go.RowKit

set_option maxHeartbeats 2000000 in
theorem lawReducedByMore (z : List Int) (v : Value) (w : World) (hv : Rd w 1 v z.length (z.map (Value.int .u8)) ∧ ∀ x ∈ z, 0 ≤ x ∧ x ≤ 255) :
    Calls Try.prog 11 #[v] w fun e w' => e = .returned (.bool true) ∧ Below w.heap.size w w' := by
  have hm := hv.1.len
  unfold maxLen at hm
  obtain ⟨_, ao, cap, rfl, _⟩ := hv.1
  have HV := Lib.hid hv
  clear hv
  by_cases hn : 1048576 < z.length
  · go_enter Try.func11, Try.ntmps11
    go_wp2
    go_ret
    exact ⟨rfl, Below.refl _ _⟩
  · go_enter Try.func11, Try.ntmps11
    go_wp2_with fail
    refine (drawSetPrice_any z _ _ HV.out.1 HV.out.2).mono ?_
    rintro e w1 ⟨l, u, d, p, rfl, ho1, hl1, ⟨hd1, hd2, hp1, hp2⟩, hb1⟩
    have O1 := Lib.hid ho1
    clear ho1
    go_wp2_with fail
    refine (implSet_any _ l _ _ _ _ O1.out).mono ?_
    rintro e w2 ⟨v2, rfl, ho2, hb2⟩
    have O2 := Lib.hid (ownsRow_below O1.out hb2 (Nat.le_refl _))
    have B2 := hb1.trans (hb2.mono hb1.size)
    have U2 := Lib.hid ho2
    clear O1 hb2 ho2
    go_wp2_with fail
    refine (specSet_any _ l _ _ _ _ O2.out).mono ?_
    rintro e w3 ⟨v3, rfl, ho3, hb3⟩
    have O3 := Lib.hid (ownsRow_below O2.out hb3 (Nat.le_refl _))
    have U3 := Lib.hid (ownsRow_below U2.out hb3 (Nat.le_refl _))
    have V3 := Lib.hid (Rd.of_owns ho3)
    have B3 := B2.trans (hb3.mono B2.size)
    clear O2 U2 hb3 ho3 B2
    cases hk : setOk l d p
    · go_wp2_with fail
      refine (equalChanges_any _ _ _ _ _ (Rd.of_owns U3.out) V3.out).mono ?_
      rintro e w4 ⟨rfl, hb4⟩
      rw [show decide (setL l d p = setL l d p) = true by simp]
      have B4 := B3.trans (hb4.mono B3.size)
      have U4 := Lib.hid (ownsRow_below U3.out hb4 (Nat.le_refl _))
      have V4 := Lib.hid (V3.out.below hb4 (Nat.le_refl _))
      clear U3 V3 hb4
      go_wp2_with fail
      refine (equalChanges_any _ _ _ _ _ (Rd.of_owns U4.out) V4.out).mono ?_
      rintro e w5 ⟨rfl, hb5⟩
      rw [show decide (setL l d p = setL l d p) = true by simp]
      go_wp2
      go_ret
      exact ⟨ret_b (by simp), B4.trans (hb5.mono B4.size)⟩
    · have hL := setL_yes hk
      obtain ⟨q1, q2, q3, q4, q5, q6, q7⟩ := setOk_pr hk
      have HK := Lib.hid hk
      have Q2 := Lib.hid q2
      have Q1 := Lib.hid q1
      clear q2 q3 q1
      by_cases hp : p < 2
      · go_wp2_with fail
        refine (equalChanges_any _ _ _ _ _ (Rd.of_owns U3.out) V3.out).mono ?_
        rintro e w4 ⟨rfl, hb4⟩
        rw [show decide (setL l d p = setL l d p) = true by simp]
        have B4 := B3.trans (hb4.mono B3.size)
        have U4 := Lib.hid (ownsRow_below U3.out hb4 (Nat.le_refl _))
        have V4 := Lib.hid (V3.out.below hb4 (Nat.le_refl _))
        clear U3 V3 hb4
        go_wp2_with fail
        refine (equalChanges_any _ _ _ _ _ (Rd.of_owns U4.out) V4.out).mono ?_
        rintro e w5 ⟨rfl, hb5⟩
        rw [show decide (setL l d p = setL l d p) = true by simp]
        go_wp2
        go_ret
        exact ⟨ret_b (by simp), B4.trans (hb5.mono B4.size)⟩
      have hp2' : 2 ≤ p := by omega
      go_wp2_with fail
      refine (equalChanges_any _ _ _ _ _ (Rd.of_owns U3.out) V3.out).mono ?_
      rintro e w4 ⟨rfl, hb4⟩
      rw [show decide (setL l d p = setL l d p) = true by simp]
      have B4 := B3.trans (hb4.mono B3.size)
      have U4 : Hid (w4.ownsRow w1.heap.size 36 2 v2 (out1 l d p).length (pr (out1 l d p))) := by
        have := ownsRow_below U3.out hb4 (Nat.le_refl _); rwa [hL] at this
      have O4 := Lib.hid (ownsRow_below O3.out hb4 (Nat.le_refl _))
      have R4 := Lib.hid (Rd.of_owns U4.out)
      have L4 := Lib.hid (Rd.of_owns O4.out)
      have hb0 := Below.refl w4.heap.size w4
      clear U3 V3 hb4 O3 hL B3
      have e1 := setOk_other HK.out (q := p - 1) (by omega) (by omega)
      have e2 := Lib.hid (set_oks HK.out (q := p - 1) (by omega) (by omega))
      have hmore := fRed_more HK.out hp2'
      go_wp2_with fail
      refine (implSet_any _ l _ _ _ _ O4.out).mono ?_
      rintro e w5 ⟨v5, rfl, ho5, hb5⟩
      rw [e2.out] at ho5
      have B5 := B4.trans (hb5.mono B4.size)
      have R5 := Lib.hid (Rd.of_owns ho5)
      have S5 := Lib.hid (R4.out.below hb5 (Nat.le_refl _))
      clear ho5 hb5 B4 L4 R4 U4 O4 hb0
      have hb0 := Below.refl w5.heap.size w5
      have K1 : Hid (∀ w', Below w5.heap.size w5 w' → Calls Try.prog 27 #[v5, .int .i64 d] w' fun e w'' => e = .returned (.int .i64 (fRed (out1 l d (p - 1)) d)) ∧ Below w5.heap.size w5 w'') := fun w' hb => (implRed_any (out1 l d (p - 1)) _ d w' (R5.out.below hb (Nat.le_refl _))).mono fun e w'' ⟨he, hb'⟩ => ⟨by rw [he], hb.trans (hb'.mono hb.size)⟩
      have K2 : Hid (∀ w', Below w5.heap.size w5 w' → Calls Try.prog 27 #[v2, .int .i64 d] w' fun e w'' => e = .returned (.int .i64 (fRed (out1 l d p) d)) ∧ Below w5.heap.size w5 w'') := fun w' hb => (implRed_any (out1 l d p) _ d w' (S5.out.below hb (Nat.le_refl _))).mono fun e w'' ⟨he, hb'⟩ => ⟨by rw [he], hb.trans (hb'.mono hb.size)⟩
      generalize fRed (out1 l d (p - 1)) d = x at K1 hmore
      generalize fRed (out1 l d p) d = y at K2 hmore
      go_wp2_with (first | (go_at_call 27; (with_reducible refine (K1.out _ (by assumption)).mono ?_); rintro e w6 ⟨rfl, hb6⟩) | (go_at_call 27; (with_reducible refine (K2.out _ (by assumption)).mono ?_); rintro e w6 ⟨rfl, hb6⟩))
      go_ret
      exact ⟨ret_b (by simp), B5.trans (hb6.mono B5.size)⟩

open Go.ChangeShapes Go.WideShapes Go.ChangeAt

theorem lawOwn : ownKnob Try.prog.godebug = none := by kernel_rfl
theorem lawOut : laidOutB Try.prog = true := by kernel_rfl

set_option linter.unusedVariables false in
set_option maxRecDepth 100000 in
theorem liftedReducedByMore (os : Os) (started : os.Started) (H : Type) (enc : TypeId × Value → H) :
    ReturnsInHanded {} Try.checked os 11 .any (Rows.fnReducedByMoreSpec.pre6 enc Try.prog Try.f11 Rows.fnReducedByMoreRow.domain false) (Rows.fnReducedByMoreSpec.post enc Try.prog Try.f11 false true false false) := by
  refine returnsInHanded_of_change (C := Try.checked) lawOwn started (by kernel_rfl) Try.func11
    (ChangeSpec.witness6 (enc := enc) (C := Try.checked) false ⟨#[], #[.slice none 0 0], []⟩ 8 (by kernel_rfl) (by kernel_rfl) (by kernel_rfl) (by kernel_rfl)) ?_
  intro W base args ds gs before hval0 hW hcnd _
  have hval : ∀ (j : Nat) t v, Try.f11.params[j]? = some t → args[j]? = some v → Value.okWide Try.prog W .any base t v := hval0
  have hW' := hW
  obtain ⟨p, q, hA0, hV, rfl, hfz, hnd⟩ := hW
  have hA : DataW.TrodAll enc Try.prog W 0 (fun _ => true) true Try.f11.params.toList args.toList ds p := hA0
  rw [Try.params11] at hA hval
  obtain ⟨v0, vs0, d0, ds0, p0, q0, hargs, rfl, rfl, h0, r0⟩ := trodAll_cons hA
  obtain ⟨rfl, rfl, rfl⟩ := trodAll_nil r0
  obtain rfl : args = #[v0] := by cases args; simp_all
  obtain ⟨rfl, rfl⟩ := trodVars_none hV
  have k0 := h0
  have lt0 : ∀ x ∈ p0, x.block < W.heap.size := by obtain ⟨m, hm⟩ := k0; exact DataW.trod_lt m _ _ _ hm
  clear hA0 hval0
  obtain ⟨z0, w0⟩ : ∃ z : List Int, Rd W 1 v0 z.length (z.map (Value.int .u8)) ∧ ∀ x ∈ z, 0 ≤ x ∧ x ≤ 255 := by
    obtain ⟨a0, n0, c0, rfl⟩ := okWide_slice Try.underlying22 (hval 0 22 v0 rfl rfl)
    obtain ⟨fuel, hf⟩ := h0
    exact open_bytes Try.underlying22 Try.underlying5 (by kernel_rfl) hf
  refine (lawReducedByMore z0 v0 W w0).mono fun e W' ⟨he, bel⟩ => ?_
  subst he
  exact ⟨_, rfl, _, _, _, [], _, [], hW', trodAll_mk1 (shut_bool Try.underlying4 _), (trodAll_cons_mk (Below.trod lawOut (by kernel_rfl) (of_decide_eq_true (by kernel_rfl)) k0 bel lt0) trodAll_mk0), rfl, bel.frame _, fun h => by cases h⟩

theorem closedReducedByMore : joinedFacts Try.pinned.checked.prog 11 Try.f11 Rows.fnReducedByMoreSpec Rows.fnReducedByMoreRow = true := by
  unfold joinedFacts
  rw [headEnters, headMake, headFinal]
  kernel_rfl

theorem holdsReducedByMore : Rows.FnReducedByMoreSaid :=
  OpenClaim.holds_of_wide 11 Try.f11 rfl rfl rfl rfl rfl rfl rfl ⟨rfl, rfl, rfl, rfl, rfl⟩ rfl rfl rfl rfl rfl (by kernel_rfl) Try.func11 closedReducedByMore
    (of_decide_eq_true (by kernel_rfl)) (by unfold Func.isWrapper; first | (rw [if_pos (by decide +kernel)]; kernel_rfl) | (rw [if_neg (by decide +kernel)]; exact ⟨rfl, rfl⟩))
    (fun os started H enc _ => liftedReducedByMore os started H enc)

#print axioms holdsReducedByMore

end Go.Proofs.Ytphjdgncfamloab
