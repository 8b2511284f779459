/- One bundle is taken as often as it can be: the best choice of one bundle is how often it is in the cart, for every code. Conditions: none. -/
import Derived.Test.YtomapdedajdkkabBK
import Derived.Test.YtomapdedajdkkabBG
import Derived.Test.YtomapdedajdkkabBcFns
import Derived.Test.YtomapdedajdkkabIN
import Derived.Test.YtomapdedajdkkabBeFns
import Derived.Test.YtomapdedajdkkabBT
import Derived.Test.YtomapdedajdkkabTI
import Derived.Deep.RegionHeld3
import Derived.Test.YtomapdedajdkkabOpen
import Derived.Test.YtomapdedajdkkabHead
namespace Go.Proofs.Ytomapdedajdkkab
open Go.RowKit

set_option maxHeartbeats 8000000 in
set_option maxRecDepth 100000 in
theorem lawBestBundlesOne (z : List Int) (v : Value) (w : World) (hv : Rd w 1 v z.length (z.map (Value.int .u8)) ∧ ∀ x ∈ z, 0 ≤ x ∧ x ≤ 255) :
    Calls Try.prog 7 #[v] w fun e w' => e = .returned (.bool true) ∧ Below w.heap.size w w' := by
  have hm := hv.1.len
  unfold maxLen at hm
  obtain ⟨_, ao, cap, rfl, _⟩ := hv.1
  have HV := Lib.hid hv
  clear hv
  by_cases hn : 1048576 < z.length
  · go_enter Try.func7, Try.ntmps7
    go_wp2
    go_ret
    exact ⟨rfl, Below.refl _ _⟩
  · go_enter Try.func7, Try.ntmps7
    go_wp2_with fail
    refine (drawBest_any z _ _ HV.out.1 HV.out.2).mono ?_
    rintro e w1 ⟨s, sv, c, cv, B, lv, rfl, hs, hs10, hc, hc9, hlo, hl, hB4, B1⟩
    obtain ⟨so, scap, rfl, _⟩ := hs.arts
    obtain ⟨co, ccap, rfl, _⟩ := hc.pairs
    obtain ⟨lo, lcap, rfl, ⟨hlc1, hlc2⟩, hlsh⟩ := owns_shape_cap hlo
    have A1 := Lib.hid hs
    have C1 := Lib.hid hc
    have L1 := Lib.hid hl
    have HSH := Lib.hid hlsh
    clear hs hc hl hlo hlsh
    obtain ⟨O, hO⟩ : ∃ O, O = fBest s c B := ⟨_, rfl⟩
    have HO := Lib.hid hO
    clear hO
    go_wp2_with fail
    refine (implBB_any s _ c _ B _ _ A1.out C1.out L1.out).mono ?_
    rintro e w2 ⟨ov, rfl, ho, hb⟩
    rw [← HO.out] at ho
    obtain ⟨oa, ocap, rfl, hosh⟩ := owns_shape ho
    have B2 := B1.trans (hb.mono B1.size)
    have A2 := Lib.hid (A1.out.below hb (Nat.le_refl _))
    have C2 := Lib.hid (C1.out.below hb (Nat.le_refl _))
    have L2 := Lib.hid (L1.out.below hb (Nat.le_refl _))
    have O2 := Lib.hid ho
    have HOSH := Lib.hid hosh
    clear ho hosh hb A1 C1 L1 B1
    go_wp2_with fail
    refine (specBB_any s _ c _ B _ _ A2.out C2.out L2.out).mono ?_
    rintro e w3 ⟨wv, rfl, ho, hb⟩
    rw [← HO.out] at ho
    have B3 := B2.trans (hb.mono B2.size)
    have A3 := Lib.hid (A2.out.below hb (Nat.le_refl _))
    have C3 := Lib.hid (C2.out.below hb (Nat.le_refl _))
    have L3 := Lib.hid (L2.out.below hb (Nat.le_refl _))
    have O3 := Lib.hid (ownsRow_below O2.out hb (Nat.le_refl _))
    have W3 := Lib.hid ho
    clear ho hb A2 C2 L2 B2 O2
    go_wp2_with fail
    refine (equalInts_any O O _ _ _ (Rd.of_owns O3.out) (Rd.of_owns W3.out)).mono ?_
    rintro e w4 ⟨rfl, hb⟩
    rw [show decide (O = O) = true by simp]
    have B4 := B3.trans (hb.mono B3.size)
    have A4 := Lib.hid (A3.out.below hb (Nat.le_refl _))
    have C4 := Lib.hid (C3.out.below hb (Nat.le_refl _))
    have L4 := Lib.hid (L3.out.below hb (Nat.le_refl _))
    have O4 := Lib.hid (ownsRow_below O3.out hb (Nat.le_refl _))
    clear hb A3 C3 L3 B3 O3 W3
    by_cases ho0 : O.length = 0
    · have ho0b : ((O.length : Int) == 0) = true := by simp [ho0]
      have HO0 := Lib.hid ho0
      clear ho0
      go_wp2_with fail
      refine (specBB_any s _ c _ B _ _ A4.out C4.out L4.out).mono ?_
      rintro e w5 ⟨wv, rfl, ho, hb⟩
      rw [← HO.out] at ho
      have B5 := B4.trans (hb.mono B4.size)
      go_wp2_with fail
      refine (equalInts_any O O _ _ _ (Rd.of_owns (ownsRow_below O4.out hb (Nat.le_refl _))) (Rd.of_owns ho)).mono ?_
      rintro e w6 ⟨rfl, hb6⟩
      rw [show decide (O = O) = true by simp]
      go_wp2
      go_ret
      exact ⟨ret_b (by simp), B5.trans (hb6.mono B5.size)⟩
    · have ho0b : ((O.length : Int) == 0) = false := by rw [beq_eq_false_iff_ne]; omega
      have hvc : vCart s c = true := by
        cases h : vCart s c
        · exact absurd (by rw [HO.out, fBest_c h]; rfl) ho0
        · rfl
      have hvb : vBn s B = true := by
        cases h : vBn s B
        · exact absurd (by rw [HO.out, fBest_b h]; rfl) ho0
        · rfl
      have HVC := Lib.hid hvc
      have HVB := Lib.hid hvb
      have hpr := vBn_pr hvb
      have HQ := Lib.hid (okQ_all hpr.2.1)
      have HB3 := hpr.2.2
      have HOY : Hid (O = (bestQ s (qsB B) (hvL s.length c)).2) := by rw [Hid, HO.out, fBest_y hvc hvb]
      have HOL : Hid (O.length = B.length) := by rw [Hid, HOY.out, best_len HQ.out hvc, qsB_len]
      have hB0 : 0 < B.length := by have := HOL.out; omega
      obtain ⟨lo', lcap', e1, _, _, hrl⟩ := L4.out.open
      simp only [Value.slice.injEq, true_and] at e1
      obtain ⟨e1a, e1b⟩ := e1
      subst e1a
      subst e1b
      obtain ⟨lb, loff, rfl, hlb, hcl⟩ := hrl hB0
      have HCL := Lib.hid hcl
      obtain ⟨og, rfl, hog0⟩ := HOSH.out (by omega)
      have hog := (O4.out.lt og rfl).2
      have HCO : Hid (∀ i, i < O.length → w4.cell? ⟨og, i, none⟩ = some (.int .i64 (iG O i))) := fun i hi => (O4.out.cellAt i (by omega)).trans (it_get O i hi)
      have hfit := (bestQ_fits (qsB B) _ HQ.out (hvL_len _ _) (okH_hvL hvc)).1
      have HBD : Hid (∀ j, 0 ≤ iG O j ∧ iG O j ≤ 20) := by rw [Hid, HOY.out]; exact fits_bd s (qsB B) _ _ HQ.out (hvL_len _ _) (okH_hvL hvc) hfit
      have HBS : Hid (∀ k, k ≤ B.length → 0 ≤ gnK s (qsB B) O k ∧ gnK s (qsB B) O k ≤ 16000000 * k) := fun k hk => gnK_bd HQ.out HBD.out k (by rw [qsB_len]; exact hk)
      clear hrl hcl hfit
      have hbo := bOk_at hvb hB0
      have hq1 : qsB (B.take 1) = [((bT B 0).l, (bT B 0).p)] := by
        have := qsB_drop hB0
        rw [List.drop_zero] at this
        rw [qsB_take, this]; rfl
      obtain ⟨U, hU⟩ : ∃ U, U = tmC s c (bT B 0).l := ⟨_, rfl⟩
      obtain ⟨E, hE⟩ : ∃ E, E = fBest s c (B.take 1) := ⟨_, rfl⟩
      have hEU : E = [U] := by rw [hE, fBest_y hvc (vBn_takeT hvb 1), hq1, hU]; exact best_one (q := ((bT B 0).l, (bT B 0).p)) hbo hvc
      have HU : Hid (fTimes s c (bT B 0).l (bT B 0).p = U) := by rw [Hid, fTimes_y hvc hbo, hU]; rfl
      have HEU := Lib.hid hEU
      have HE := Lib.hid hE
      have q2 := (HCL.out 0 hB0).1
      have q3 := (HCL.out 0 hB0).2
      have hpx := L4.out.2 _ (bT_mem hB0)
      obtain ⟨po, pcap, hpe, _⟩ := hpx.pairs
      rw [hpe] at q2 hpx
      simp only [Nat.zero_mul, Nat.add_zero] at q2 q3
      have HPX := Lib.hid hpx
      have h1c : (1 : Int) ≤ (lcap : Int) := by omega
      have h1B : 1 ≤ B.length := hB0
      have hB0i : (0 : Int) < (B.length : Int) := by omega
      have LT := Lib.hid (L4.out.takeT (k := 1) h1B)
      have BD : Below w4.heap.size w4 w4.drew := (Below.refl _ _).drew
      clear hvc hvb hpr ho0 hpx hpe hE hU hEU hbo hq1
      go_wp2
      go_region_held3 (fun w' => w'.cell? ⟨lb, loff, none⟩ = some (.slice po (bT B 0).l.length pcap) ∧ w'.cell? ⟨lb, loff + 1, none⟩ = some (.int .i64 (bT B 0).p) ∧ Below w4.heap.size w4 w')
        (first
          | exact ⟨(bb.cell (p := ⟨lb, loff, none⟩) hlb).trans q2, (bb.cell (p := ⟨lb, loff + 1, none⟩) hlb).trans q3, bb⟩
          | exact ⟨q2, q3, BD⟩
          | exact ⟨((bb.alloc bb.size _).cell (p := ⟨lb, loff, none⟩) hlb).trans q2, ((bb.alloc bb.size _).cell (p := ⟨lb, loff + 1, none⟩) hlb).trans q3, bb.alloc bb.size _⟩
          | (go_keep; done))
        ((first | (go_at_call 21; (with_reducible refine (implBB_any s _ c _ (B.take 1) _ _ (A4.out.below BD (Nat.le_refl _)) (C4.out.below BD (Nat.le_refl _)) (LT.out.below BD (Nat.le_refl _))).mono ?_); rintro e wa ⟨ev, rfl, hoE, hba⟩; rw [← HE.out] at hoE; obtain ⟨ea, ecap, rfl, _⟩ := owns_shape hoE; have bb := BD.trans (hba.mono BD.size)) | (go_at_call 24; (with_reducible refine (implTimesIn_any s _ c _ (bT B 0).l _ (bT B 0).p _ (A4.out.below bb (Nat.le_refl _)) (C4.out.below bb (Nat.le_refl _)) (HPX.out.below bb (Nat.le_refl _))).mono ?_); rintro e wb ⟨rfl, hbb⟩; rw [HU.out]; have hoE2 := ownsRow_below hoE hbb (Nat.le_refl _); have bb := bb.trans (hbb.mono bb.size)) | (go_at_call 22; refine (equalInts_any E [U] _ _ _ (Rd.of_owns (hoE2.alloc _)) (Rd.of_owns (base := wb.heap.size) (e := 3) ⟨rfl, .inr ⟨wb.heap.size, 1, #[.int .i64 U], rfl, Nat.le_refl _, heap_alloc_new wb _, Nat.le_refl _, by decide, rfl, rfl⟩⟩)).mono ?_; rintro e wc ⟨rfl, hbc⟩; rw [show decide (E = [U]) = true by rw [HEU.out]; simp]; have bb := (bb.alloc bb.size _).trans (hbc.mono (bb.alloc bb.size _).size))))
      go_wp2
      go_ret
      exact ⟨ret_b (by simp), B4.trans (bb.mono B4.size)⟩

open Go.ChangeShapes Go.WideShapes Go.ChangeAt

theorem lawOwn : ownKnob Try.prog.godebug = none := by kernel_rfl
theorem lawOut : laidOutB Try.prog = true := by kernel_rfl

set_option linter.unusedVariables false in
set_option maxRecDepth 100000 in
theorem liftedBestBundlesOne (os : Os) (started : os.Started) (H : Type) (enc : TypeId × Value → H) :
    ReturnsInHanded {} Try.checked os 7 .any (Rows.fnBestBundlesOneSpec.pre6 enc Try.prog Try.f7 Rows.fnBestBundlesOneRow.domain false) (Rows.fnBestBundlesOneSpec.post enc Try.prog Try.f7 false true false false) := by
  refine returnsInHanded_of_change (C := Try.checked) lawOwn started (by kernel_rfl) Try.func7
    (ChangeSpec.witness6 (enc := enc) (C := Try.checked) false ⟨#[], #[.slice none 0 0], []⟩ 8 (by kernel_rfl) (by kernel_rfl) (by kernel_rfl) (by kernel_rfl)) ?_
  intro W base args ds gs before hval0 hW hcnd _
  have hval : ∀ (j : Nat) t v, Try.f7.params[j]? = some t → args[j]? = some v → Value.okWide Try.prog W .any base t v := hval0
  have hW' := hW
  obtain ⟨p, q, hA0, hV, rfl, hfz, hnd⟩ := hW
  have hA : DataW.TrodAll enc Try.prog W 0 (fun _ => true) true Try.f7.params.toList args.toList ds p := hA0
  rw [Try.params7] at hA hval
  obtain ⟨v0, vs0, d0, ds0, p0, q0, hargs, rfl, rfl, h0, r0⟩ := trodAll_cons hA
  obtain ⟨rfl, rfl, rfl⟩ := trodAll_nil r0
  obtain rfl : args = #[v0] := by cases args; simp_all
  obtain ⟨rfl, rfl⟩ := trodVars_none hV
  have k0 := h0
  have lt0 : ∀ x ∈ p0, x.block < W.heap.size := by obtain ⟨m, hm⟩ := k0; exact DataW.trod_lt m _ _ _ hm
  clear hA0 hval0
  obtain ⟨z0, w0⟩ : ∃ z : List Int, Rd W 1 v0 z.length (z.map (Value.int .u8)) ∧ ∀ x ∈ z, 0 ≤ x ∧ x ≤ 255 := by
    obtain ⟨a0, n0, c0, rfl⟩ := okWide_slice Try.underlying38 (hval 0 38 v0 rfl rfl)
    obtain ⟨fuel, hf⟩ := h0
    exact open_bytes Try.underlying38 Try.underlying5 (by kernel_rfl) hf
  refine (lawBestBundlesOne z0 v0 W w0).mono fun e W' ⟨he, bel⟩ => ?_
  subst he
  exact ⟨_, rfl, _, _, _, [], _, [], hW', trodAll_mk1 (shut_bool Try.underlying4 _), (trodAll_cons_mk (Below.trod lawOut (by kernel_rfl) (of_decide_eq_true (by kernel_rfl)) k0 bel lt0) trodAll_mk0), rfl, bel.frame _, fun h => by cases h⟩

theorem closedBestBundlesOne : joinedFacts Try.pinned.checked.prog 7 Try.f7 Rows.fnBestBundlesOneSpec Rows.fnBestBundlesOneRow = true := by
  unfold joinedFacts
  rw [headEnters, headMake, headFinal]
  kernel_rfl

theorem holdsBestBundlesOne : Rows.FnBestBundlesOneSaid :=
  OpenClaim.holds_of_wide 7 Try.f7 rfl rfl rfl rfl rfl rfl rfl ⟨rfl, rfl, rfl, rfl, rfl⟩ rfl rfl rfl rfl rfl (by kernel_rfl) Try.func7 closedBestBundlesOne
    (of_decide_eq_true (by kernel_rfl)) (by unfold Func.isWrapper; first | (rw [if_pos (by decide +kernel)]; kernel_rfl) | (rw [if_neg (by decide +kernel)]; exact ⟨rfl, rfl⟩))
    (fun os started H enc _ => liftedBestBundlesOne os started H enc)

#print axioms holdsBestBundlesOne

end Go.Proofs.Ytomapdedajdkkab
