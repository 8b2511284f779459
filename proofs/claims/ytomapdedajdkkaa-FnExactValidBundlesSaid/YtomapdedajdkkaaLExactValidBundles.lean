/- The program's ValidBundles returns what the reference's returns, for all arguments. Conditions: none. -/
import Derived.Test.YtomapdedajdkkaaVX
import Derived.Test.YtomapdedajdkkaaCQ
import Derived.Test.YtomapdedajdkkaaOpenC
import Derived.Test.YtomapdedajdkkaaHead
namespace Go.Proofs.Ytomapdedajdkkaa
open Go.RowKit

set_option maxHeartbeats 8000000 in
theorem lawExactValidBundles (s : List Art) (u : Value) (B : List Bn) (v : Value) (w : World) (hs : Rd w 4 u s.length (ar s)) (hv : RdB w v B) :
    Calls Try.prog 12 #[u, v] w fun e w' => e = .returned (.bool true) ∧ Below w.heap.size w w' := by
  have hm := hs.len
  have hm2 := hv.len
  unfold maxLen at hm
  obtain ⟨ao, cap, rfl, _⟩ := hs.arts
  obtain ⟨bo, cap2, rfl, _⟩ := hv.open
  have HV := Lib.hid hv
  have HS := Lib.hid hs
  have hne : (vBn s B != vBn s B) = false := by simp
  clear hv hs
  by_cases hn : s.length ≤ 1048576
  · have hsz : Hid (szL 1048576 s.length = 1048576 - s.length) := by rw [Hid, szL, if_neg (by omega)]
    go_enter Try.func12, Try.ntmps12
    go_wp2_with fail
    refine (szArticleS_any _ _ _ _ _ (by omega) (by omega) (by omega)).mono ?_
    rintro e w0 ⟨rfl, rfl⟩
    rw [hsz.out]
    go_wp2_with fail
    refine (szBundleS_any B _ _ _ HV.out (by omega) (by omega)).mono ?_
    rintro e wz ⟨z, rfl, hz1, hz2, hbz⟩
    by_cases hz : z < 0
    · go_wp2
      go_ret
      exact ⟨rfl, hbz⟩
    · obtain ⟨hbl, hbl2⟩ := hz2 (by omega)
      clear hz2
      go_wp2_with fail
      refine (toArticleS_any s _ _ (HS.out.below hbz (Nat.le_refl _)) hn).mono ?_
      rintro e w1 ⟨v_s0, rfl, ho, hb⟩
      have B1 := hbz.trans (hb.mono hbz.size)
      have Z1 := hb.size
      have s0_1 := Lib.hid ho
      have L_s0 := Lib.hid (fun k hk => ho.lt k hk)
      clear ho hb hbz
      go_wp2_with fail
      refine (toBundleS_any B _ _ (HV.out.below B1 (Nat.le_refl _)) hbl hbl2).mono ?_
      rintro e w2 ⟨C_b0, g_b0, rfl, hsame, ho, hp, hb⟩
      have S_b0 := Lib.hid hsame
      have hr := Lib.hid (ToB.rdB ho hp)
      have s0_2 := Lib.hid (ownsRow_below s0_1.out hb (Nat.le_refl _))
      have B2 := B1.trans (hb.mono B1.size)
      have Z2 := hb.size
      have b0_2 := Lib.hid hr.out
      clear ho hp hb hsame hr s0_1 B1
      go_wp2_with fail
      refine (specBundles_any s _ C_b0 _ _ (Rd.of_owns s0_2.out) b0_2.out).mono ?_
      rintro e w3 ⟨rfl, hb⟩
      rw [S_b0.out.vBn s]
      have s0_3 := Lib.hid (ownsRow_below s0_2.out hb (Nat.le_refl _))
      have B3 := B2.trans (hb.mono B2.size)
      have Z3 := hb.size
      have b0_3 := Lib.hid (b0_2.out.below hb (Nat.le_refl _))
      clear hb s0_2 B2 b0_2
      go_wp2_with fail
      refine (toArticleS_any s _ _ (HS.out.below B3 (Nat.le_refl _)) hn).mono ?_
      rintro e w4 ⟨v_x0, rfl, ho, hb⟩
      have B4 := B3.trans (hb.mono B3.size)
      have Z4 := hb.size
      have x0_4 := Lib.hid ho
      have L_x0 := Lib.hid (fun k hk => ho.lt k hk)
      clear ho hb B3
      go_wp2_with fail
      refine (toBundleS_any B _ _ (HV.out.below B4 (Nat.le_refl _)) hbl hbl2).mono ?_
      rintro e w5 ⟨C_b1, g_b1, rfl, hsame, ho, hp, hb⟩
      have S_b1 := Lib.hid hsame
      have hr := Lib.hid (ToB.rdB ho hp)
      have x0_5 := Lib.hid (ownsRow_below x0_4.out hb (Nat.le_refl _))
      have B5 := B4.trans (hb.mono B4.size)
      have Z5 := hb.size
      have b1_5 := Lib.hid hr.out
      clear ho hp hb hsame hr x0_4 B4
      go_wp2_with fail
      refine (implBundles_any s _ C_b1 _ _ (Rd.of_owns x0_5.out) b1_5.out).mono ?_
      rintro e w6 ⟨rfl, hb⟩
      rw [S_b1.out.vBn s]
      have x0_6 := Lib.hid (ownsRow_below x0_5.out hb (Nat.le_refl _))
      have B6 := B5.trans (hb.mono B5.size)
      have Z6 := hb.size
      have b1_6 := Lib.hid (b1_5.out.below hb (Nat.le_refl _))
      clear hb x0_5 B5 b1_5
      go_wp2_with fail
      refine (toArticleS_any s _ _ (HS.out.below B6 (Nat.le_refl _)) hn).mono ?_
      rintro e w7 ⟨v_t0, rfl, ho, hb⟩
      have x0_7 := Lib.hid (ownsRow_below x0_6.out hb (Nat.le_refl _))
      have B7 := B6.trans (hb.mono B6.size)
      have Z7 := hb.size
      have b1_7 := Lib.hid (b1_6.out.below hb (Nat.le_refl _))
      have t0_7 := Lib.hid ho
      have L_t0 := Lib.hid (fun k hk => ho.lt k hk)
      clear ho hb x0_6 B6 b1_6
      go_wp2_with fail
      refine (eqArticleS_any _ _ _ _ _ (Rd.of_owns x0_7.out) (Rd.of_owns t0_7.out)).mono ?_
      rintro e w8 ⟨rfl, hb⟩
      rw [show decide (s = s) = true by simp]
      have x0_8 := Lib.hid (ownsRow_below x0_7.out hb (Nat.le_refl _))
      have t0_8 := Lib.hid (ownsRow_below t0_7.out hb (Nat.le_refl _))
      have B8 := B7.trans (hb.mono B7.size)
      have Z8 := hb.size
      have b1_8 := Lib.hid (b1_7.out.below hb (Nat.le_refl _))
      clear hb x0_7 t0_7 B7 b1_7
      go_wp2_with fail
      refine (toBundleS_any B _ _ (HV.out.below B8 (Nat.le_refl _)) hbl hbl2).mono ?_
      rintro e w9 ⟨C_b2, g_b2, rfl, hsame, ho, hp, hb⟩
      have S_b2 := Lib.hid hsame
      have hr := Lib.hid (ToB.rdB ho hp)
      have B9 := B8.trans (hb.mono B8.size)
      have Z9 := hb.size
      have b1_9 := Lib.hid (b1_8.out.below hb (Nat.le_refl _))
      have b2_9 := Lib.hid hr.out
      clear ho hp hb hsame hr B8 b1_8
      go_wp2_with fail
      refine (eqBundleS_any C_b1 C_b2 _ _ _ b1_9.out b2_9.out (S_b1.out.symm.trans S_b2.out)).mono ?_
      rintro e w10 ⟨rfl, hb⟩
      have B10 := B9.trans (hb.mono B9.size)
      have Z10 := hb.size
      have b1_10 := Lib.hid (b1_9.out.below hb (Nat.le_refl _))
      have b2_10 := Lib.hid (b2_9.out.below hb (Nat.le_refl _))
      clear hb B9 b1_9 b2_9
      go_wp2
      go_ret
      exact ⟨rfl, B10⟩
  · have hsz : Hid (szL 1048576 s.length = -1) := by rw [Hid, szL, if_pos (by omega)]
    go_enter Try.func12, Try.ntmps12
    go_wp2_with fail
    refine (szArticleS_any _ _ _ _ _ (by omega) (by omega) (by omega)).mono ?_
    rintro e w0 ⟨rfl, rfl⟩
    rw [hsz.out]
    go_wp2
    go_ret
    exact ⟨rfl, Below.refl _ _⟩

open Go.ChangeShapes Go.WideShapes Go.ChangeAt

theorem lawOwn : ownKnob Try.prog.godebug = none := by kernel_rfl
theorem lawOut : laidOutB Try.prog = true := by kernel_rfl

set_option linter.unusedVariables false in
set_option maxRecDepth 100000 in
theorem liftedExactValidBundles (os : Os) (started : os.Started) (H : Type) (enc : TypeId × Value → H) :
    ReturnsInHanded {} Try.checked os 12 .any (Rows.fnExactValidBundlesSpec.pre6 enc Try.prog Try.f12 Rows.fnExactValidBundlesRow.domain false) (Rows.fnExactValidBundlesSpec.post enc Try.prog Try.f12 false true false false) := by
  refine returnsInHanded_of_change (C := Try.checked) lawOwn started (by kernel_rfl) Try.func12
    (ChangeSpec.witness6 (enc := enc) (C := Try.checked) false ⟨#[], #[.slice none 0 0, .slice none 0 0], []⟩ 8 (by kernel_rfl) (by kernel_rfl) (by kernel_rfl) (by kernel_rfl)) ?_
  intro W base args ds gs before hval0 hW hcnd _
  have hval : ∀ (j : Nat) t v, Try.f12.params[j]? = some t → args[j]? = some v → Value.okWide Try.prog W .any base t v := hval0
  have hW' := hW
  obtain ⟨p, q, hA0, hV, rfl, hfz, hnd⟩ := hW
  have hA : DataW.TrodAll enc Try.prog W 0 (fun _ => true) true Try.f12.params.toList args.toList ds p := hA0
  rw [Try.params12] at hA hval
  obtain ⟨v0, vs0, d0, ds0, p0, q0, hargs, rfl, rfl, h0, r0⟩ := trodAll_cons hA
  obtain ⟨v1, vs1, d1, ds1, p1, q1, rfl, rfl, rfl, h1, r1⟩ := trodAll_cons r0
  obtain ⟨rfl, rfl, rfl⟩ := trodAll_nil r1
  obtain rfl : args = #[v0, v1] := by cases args; simp_all
  obtain ⟨rfl, rfl⟩ := trodVars_none hV
  have k0 := h0
  have lt0 : ∀ x ∈ p0, x.block < W.heap.size := by obtain ⟨m, hm⟩ := k0; exact DataW.trod_lt m _ _ _ hm
  have k1 := h1
  have lt1 : ∀ x ∈ p1, x.block < W.heap.size := by obtain ⟨m, hm⟩ := k1; exact DataW.trod_lt m _ _ _ hm
  clear hA0 hval0
  obtain ⟨z0, w0⟩ : ∃ z : List Art, Rd W 4 v0 z.length (ar z) := by
    obtain ⟨a0, n0, c0, rfl⟩ := okWide_slice Try.underlying29 (hval 0 29 v0 rfl rfl)
    obtain ⟨fuel, hf⟩ := h0
    exact open_arts Try.underlying29 Try.underlying75 (by kernel_rfl) rfl rfl rfl rfl (by kernel_rfl) (by kernel_rfl) (by kernel_rfl) (by kernel_rfl) Try.underlying3 Try.underlying3 Try.underlying3 Try.underlying3 hf
  obtain ⟨z1, w1⟩ : ∃ z : List Bn, RdB W v1 z := by
    obtain ⟨a0, n0, c0, rfl⟩ := okWide_slice Try.underlying64 (hval 1 64 v1 rfl rfl)
    obtain ⟨fuel, hf⟩ := h1
    exact open_bundles Try.underlying64 Try.underlying59 (by kernel_rfl) rfl rfl (by kernel_rfl) (by kernel_rfl) Try.underlying30 Try.underlying3 Try.underlying77 (by kernel_rfl) rfl rfl (by kernel_rfl) (by kernel_rfl) Try.underlying3 Try.underlying3 hf
  refine (lawExactValidBundles z0 v0 z1 v1 W w0 w1).mono fun e W' ⟨he, bel⟩ => ?_
  subst he
  exact ⟨_, rfl, _, _, _, [], _, [], hW', trodAll_mk1 (shut_bool Try.underlying4 _), (trodAll_cons_mk (Below.trod lawOut (by kernel_rfl) (of_decide_eq_true (by kernel_rfl)) k0 bel lt0) (trodAll_cons_mk (Below.trod lawOut (by kernel_rfl) (of_decide_eq_true (by kernel_rfl)) k1 bel lt1) trodAll_mk0)), rfl, bel.frame _, fun h => by cases h⟩

theorem closedExactValidBundles : joinedFacts Try.pinned.checked.prog 12 Try.f12 Rows.fnExactValidBundlesSpec Rows.fnExactValidBundlesRow = true := by
  unfold joinedFacts
  rw [headEnters, headMake, headFinal]
  kernel_rfl

theorem holdsExactValidBundles : Rows.FnExactValidBundlesSaid :=
  OpenClaim.holds_of_wide 12 Try.f12 rfl rfl rfl rfl rfl rfl rfl ⟨rfl, rfl, rfl, rfl, rfl⟩ rfl rfl rfl rfl rfl (by kernel_rfl) Try.func12 closedExactValidBundles
    (of_decide_eq_true (by kernel_rfl)) (by unfold Func.isWrapper; first | (rw [if_pos (by decide +kernel)]; kernel_rfl) | (rw [if_neg (by decide +kernel)]; exact ⟨rfl, rfl⟩))
    (fun os started H enc _ => liftedExactValidBundles os started H enc)

#print axioms holdsExactValidBundles

end Go.Proofs.Ytomapdedajdkkaa
