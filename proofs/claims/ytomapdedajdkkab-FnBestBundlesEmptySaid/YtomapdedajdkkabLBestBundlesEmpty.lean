/- Empty carts have no bundles: the best choice for an empty cart takes none, for every code. Conditions: none. -/
import Derived.Test.YtomapdedajdkkabBK
import Derived.Test.YtomapdedajdkkabBG
import Derived.Test.YtomapdedajdkkabBcFns
import Derived.Test.YtomapdedajdkkabIN
import Derived.Test.YtomapdedajdkkabOpen
import Derived.Test.YtomapdedajdkkabHead
namespace Go.Proofs.Ytomapdedajdkkab
open Go.RowKit

set_option maxHeartbeats 4000000 in
theorem lawBestBundlesEmpty (z : List Int) (v : Value) (w : World) (hv : Rd w 1 v z.length (z.map (Value.int .u8)) ∧ ∀ x ∈ z, 0 ≤ x ∧ x ≤ 255) :
    Calls Try.prog 8 #[v] w fun e w' => e = .returned (.bool true) ∧ Below w.heap.size w w' := by
  have hm := hv.1.len
  unfold maxLen at hm
  obtain ⟨_, ao, cap, rfl, _⟩ := hv.1
  have HV := Lib.hid hv
  clear hv
  by_cases hn : 1048576 < z.length
  · go_enter Try.func8, Try.ntmps8
    go_wp2
    go_ret
    exact ⟨rfl, Below.refl _ _⟩
  · go_enter Try.func8, Try.ntmps8
    go_wp2_with fail
    refine (drawBest_any z _ _ HV.out.1 HV.out.2).mono ?_
    rintro e w1 ⟨s, sv, c, cv, B, lv, rfl, hs, hs10, hc, hc9, hlo, hl, hB4, B1⟩
    obtain ⟨so, scap, rfl, _⟩ := hs.arts
    obtain ⟨co, ccap, rfl, _⟩ := hc.pairs
    obtain ⟨lo, lcap, rfl, ⟨hlc1, hlc2⟩, hlsh⟩ := owns_shape_cap hlo
    have A1 := Lib.hid hs
    have C1 := Lib.hid hc
    have L1 := Lib.hid hl
    have HSH := Lib.hid hlsh
    clear hs hc hl hlo hlsh
    obtain ⟨O, hO⟩ : ∃ O, O = fBest s c B := ⟨_, rfl⟩
    have HO := Lib.hid hO
    clear hO
    go_wp2_with fail
    refine (implBB_any s _ c _ B _ _ A1.out C1.out L1.out).mono ?_
    rintro e w2 ⟨ov, rfl, ho, hb⟩
    rw [← HO.out] at ho
    obtain ⟨oa, ocap, rfl, hosh⟩ := owns_shape ho
    have B2 := B1.trans (hb.mono B1.size)
    have A2 := Lib.hid (A1.out.below hb (Nat.le_refl _))
    have C2 := Lib.hid (C1.out.below hb (Nat.le_refl _))
    have L2 := Lib.hid (L1.out.below hb (Nat.le_refl _))
    have O2 := Lib.hid ho
    have HOSH := Lib.hid hosh
    clear ho hosh hb A1 C1 L1 B1
    go_wp2_with fail
    refine (specBB_any s _ c _ B _ _ A2.out C2.out L2.out).mono ?_
    rintro e w3 ⟨wv, rfl, ho, hb⟩
    rw [← HO.out] at ho
    have B3 := B2.trans (hb.mono B2.size)
    have A3 := Lib.hid (A2.out.below hb (Nat.le_refl _))
    have C3 := Lib.hid (C2.out.below hb (Nat.le_refl _))
    have L3 := Lib.hid (L2.out.below hb (Nat.le_refl _))
    have O3 := Lib.hid (ownsRow_below O2.out hb (Nat.le_refl _))
    have W3 := Lib.hid ho
    clear ho hb A2 C2 L2 B2 O2
    go_wp2_with fail
    refine (equalInts_any O O _ _ _ (Rd.of_owns O3.out) (Rd.of_owns W3.out)).mono ?_
    rintro e w4 ⟨rfl, hb⟩
    rw [show decide (O = O) = true by simp]
    have B4 := B3.trans (hb.mono B3.size)
    have A4 := Lib.hid (A3.out.below hb (Nat.le_refl _))
    have C4 := Lib.hid (C3.out.below hb (Nat.le_refl _))
    have L4 := Lib.hid (L3.out.below hb (Nat.le_refl _))
    have O4 := Lib.hid (ownsRow_below O3.out hb (Nat.le_refl _))
    clear hb A3 C3 L3 B3 O3 W3
    by_cases ho0 : O.length = 0
    · have ho0b : ((O.length : Int) == 0) = true := by simp [ho0]
      have HO0 := Lib.hid ho0
      clear ho0
      go_wp2_with fail
      refine (specBB_any s _ c _ B _ _ A4.out C4.out L4.out).mono ?_
      rintro e w5 ⟨wv, rfl, ho, hb⟩
      rw [← HO.out] at ho
      have B5 := B4.trans (hb.mono B4.size)
      go_wp2_with fail
      refine (equalInts_any O O _ _ _ (Rd.of_owns (ownsRow_below O4.out hb (Nat.le_refl _))) (Rd.of_owns ho)).mono ?_
      rintro e w6 ⟨rfl, hb6⟩
      rw [show decide (O = O) = true by simp]
      go_wp2
      go_ret
      exact ⟨ret_b (by simp), B5.trans (hb6.mono B5.size)⟩
    · have ho0b : ((O.length : Int) == 0) = false := by rw [beq_eq_false_iff_ne]; omega
      have hvc : vCart s c = true := by
        cases h : vCart s c
        · exact absurd (by rw [HO.out, fBest_c h]; rfl) ho0
        · rfl
      have hvb : vBn s B = true := by
        cases h : vBn s B
        · exact absurd (by rw [HO.out, fBest_b h]; rfl) ho0
        · rfl
      have HVC := Lib.hid hvc
      have HVB := Lib.hid hvb
      have hpr := vBn_pr hvb
      have HQ := Lib.hid (okQ_all hpr.2.1)
      have HB3 := hpr.2.2
      have HOY : Hid (O = (bestQ s (qsB B) (hvL s.length c)).2) := by rw [Hid, HO.out, fBest_y hvc hvb]
      have HOL : Hid (O.length = B.length) := by rw [Hid, HOY.out, best_len HQ.out hvc, qsB_len]
      have hve : vCart s [] = true := vCart_y (vCart_pr hvc).1 rfl
      have HVE := Lib.hid hve
      obtain ⟨E, hE⟩ : ∃ E, E = fBest s [] B := ⟨_, rfl⟩
      have hEy : E = (bestQ s (qsB B) (hvL s.length [])).2 := by rw [hE, fBest_y hve hvb]
      have hEl : E.length = B.length := by rw [hEy, best_len HQ.out hve, qsB_len]
      have hEz : ∀ j, iG E j = 0 := by rw [hEy]; exact best_empty HQ.out hve
      have hEs : ∀ k, sumK E k = 0 := fun k => by
        induction k with
        | zero => rfl
        | succ k ih => rw [sumK_succ, ih, hEz]; rfl
      have HE := Lib.hid hE
      have HEL := Lib.hid hEl
      have HEZ := Lib.hid hEz
      have HES := Lib.hid hEs
      clear hve hE hEy hEl hEz hEs hvc hvb hpr ho0
      go_wp2_with fail
      refine (implBB_any s _ [] (.slice none 0 0) B _ _ A4.out (Rd.of_owns (World.ownsRow_nil _ 0 0 2)) L4.out).mono ?_
      rintro e w5 ⟨ev, rfl, ho, hb⟩
      rw [← HE.out] at ho
      obtain ⟨ea, ecap, rfl, _⟩ := owns_shape ho
      have B5 := B4.trans (hb.mono B4.size)
      have E5 := Lib.hid ho
      clear ho hb
      have hlb : ((E.length : Int) == (B.length : Int)) = true := by rw [HEL.out]; simp
      go_wp2_with fail
      refine (sum_any E _ _ (Rd.of_owns E5.out) (by rw [HEL.out]; omega) (fun j _ => by rw [HEZ.out]; omega)).mono ?_
      rintro e w6 ⟨rfl, rfl⟩
      rw [HES.out]
      go_wp2
      go_ret
      exact ⟨ret_b (by simp), B5⟩

open Go.ChangeShapes Go.WideShapes Go.ChangeAt

theorem lawOwn : ownKnob Try.prog.godebug = none := by kernel_rfl
theorem lawOut : laidOutB Try.prog = true := by kernel_rfl

set_option linter.unusedVariables false in
set_option maxRecDepth 100000 in
theorem liftedBestBundlesEmpty (os : Os) (started : os.Started) (H : Type) (enc : TypeId × Value → H) :
    ReturnsInHanded {} Try.checked os 8 .any (Rows.fnBestBundlesEmptySpec.pre6 enc Try.prog Try.f8 Rows.fnBestBundlesEmptyRow.domain false) (Rows.fnBestBundlesEmptySpec.post enc Try.prog Try.f8 false true false false) := by
  refine returnsInHanded_of_change (C := Try.checked) lawOwn started (by kernel_rfl) Try.func8
    (ChangeSpec.witness6 (enc := enc) (C := Try.checked) false ⟨#[], #[.slice none 0 0], []⟩ 8 (by kernel_rfl) (by kernel_rfl) (by kernel_rfl) (by kernel_rfl)) ?_
  intro W base args ds gs before hval0 hW hcnd _
  have hval : ∀ (j : Nat) t v, Try.f8.params[j]? = some t → args[j]? = some v → Value.okWide Try.prog W .any base t v := hval0
  have hW' := hW
  obtain ⟨p, q, hA0, hV, rfl, hfz, hnd⟩ := hW
  have hA : DataW.TrodAll enc Try.prog W 0 (fun _ => true) true Try.f8.params.toList args.toList ds p := hA0
  rw [Try.params8] at hA hval
  obtain ⟨v0, vs0, d0, ds0, p0, q0, hargs, rfl, rfl, h0, r0⟩ := trodAll_cons hA
  obtain ⟨rfl, rfl, rfl⟩ := trodAll_nil r0
  obtain rfl : args = #[v0] := by cases args; simp_all
  obtain ⟨rfl, rfl⟩ := trodVars_none hV
  have k0 := h0
  have lt0 : ∀ x ∈ p0, x.block < W.heap.size := by obtain ⟨m, hm⟩ := k0; exact DataW.trod_lt m _ _ _ hm
  clear hA0 hval0
  obtain ⟨z0, w0⟩ : ∃ z : List Int, Rd W 1 v0 z.length (z.map (Value.int .u8)) ∧ ∀ x ∈ z, 0 ≤ x ∧ x ≤ 255 := by
    obtain ⟨a0, n0, c0, rfl⟩ := okWide_slice Try.underlying38 (hval 0 38 v0 rfl rfl)
    obtain ⟨fuel, hf⟩ := h0
    exact open_bytes Try.underlying38 Try.underlying5 (by kernel_rfl) hf
  refine (lawBestBundlesEmpty z0 v0 W w0).mono fun e W' ⟨he, bel⟩ => ?_
  subst he
  exact ⟨_, rfl, _, _, _, [], _, [], hW', trodAll_mk1 (shut_bool Try.underlying4 _), (trodAll_cons_mk (Below.trod lawOut (by kernel_rfl) (of_decide_eq_true (by kernel_rfl)) k0 bel lt0) trodAll_mk0), rfl, bel.frame _, fun h => by cases h⟩

theorem closedBestBundlesEmpty : joinedFacts Try.pinned.checked.prog 8 Try.f8 Rows.fnBestBundlesEmptySpec Rows.fnBestBundlesEmptyRow = true := by
  unfold joinedFacts
  rw [headEnters, headMake, headFinal]
  kernel_rfl

theorem holdsBestBundlesEmpty : Rows.FnBestBundlesEmptySaid :=
  OpenClaim.holds_of_wide 8 Try.f8 rfl rfl rfl rfl rfl rfl rfl ⟨rfl, rfl, rfl, rfl, rfl⟩ rfl rfl rfl rfl rfl (by kernel_rfl) Try.func8 closedBestBundlesEmpty
    (of_decide_eq_true (by kernel_rfl)) (by unfold Func.isWrapper; first | (rw [if_pos (by decide +kernel)]; kernel_rfl) | (rw [if_neg (by decide +kernel)]; exact ⟨rfl, rfl⟩))
    (fun os started H enc _ => liftedBestBundlesEmpty os started H enc)

#print axioms holdsBestBundlesEmpty

end Go.Proofs.Ytomapdedajdkkab
