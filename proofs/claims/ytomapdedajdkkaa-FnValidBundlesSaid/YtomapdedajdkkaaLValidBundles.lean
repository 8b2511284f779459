/- Bundles can be left out: valid bundles without the last one are valid, and none are, for every code. Conditions: none. -/
import Derived.Test.YtomapdedajdkkaaVN
import Derived.Test.YtomapdedajdkkaaBE
import Derived.Test.YtomapdedajdkkaaOpen
import Derived.Test.YtomapdedajdkkaaHead
namespace Go.Proofs.Ytomapdedajdkkaa
open Go.RowKit

theorem bn_take (B : List Bn) (k : Nat) : bn (B.take k) = (bn B).take (k * 2) := by
  induction B generalizing k with
  | nil => simp [bn]
  | cons a l ih =>
    cases k with
    | zero => simp [bn]
    | succ k => rw [List.take_succ_cons, bn_cons, bn_cons, ih, show (k + 1) * 2 = k * 2 + 1 + 1 by omega, List.take_succ_cons, List.take_succ_cons]

theorem RdB.take {w : World} {ao : Option Addr} {cap : Nat} {B : List Bn} (h : RdB w (.slice ao B.length cap) B) {k : Nat} (hk : k ≤ B.length) : RdB w (.slice ao k cap) (B.take k) := by
  refine ⟨?_, fun x hx => h.2 x (List.mem_of_mem_take hx)⟩
  have h1 := h.1.take hk
  rw [← bn_take] at h1
  rw [show (B.take k).length = k by rw [List.length_take]; omega]
  exact h1

theorem vBn_take {s : List Art} {B : List Bn} (h : vBn s B = true) (k : Nat) : vBn s (B.take k) = true := by
  unfold vBn at h ⊢
  rw [Bool.and_eq_true, Bool.and_eq_true, decide_eq_true_eq, List.all_eq_true] at h
  rw [h.1, List.all_eq_true.2 (fun x hx => h.2.1 x (List.mem_of_mem_take hx)), decide_eq_true (by rw [List.length_take]; omega)]
  rfl
theorem vBn_nil {s : List Art} {B : List Bn} (h : vBn s B = true) : vBn s [] = true := by
  have := vBn_take h 0; rwa [List.take_zero] at this

set_option maxHeartbeats 4000000 in
theorem lawValidBundles (z : List Int) (v : Value) (w : World) (hv : Rd w 1 v z.length (z.map (Value.int .u8)) ∧ ∀ x ∈ z, 0 ≤ x ∧ x ≤ 255) :
    Calls Try.prog 6 #[v] w fun e w' => e = .returned (.bool true) ∧ Below w.heap.size w w' := by
  have hm := hv.1.len
  unfold maxLen at hm
  obtain ⟨_, ao, cap, rfl, _⟩ := hv.1
  have HV := Lib.hid hv
  clear hv
  by_cases hn : 1048576 < z.length
  · go_enter Try.func6, Try.ntmps6
    go_wp2
    go_ret
    exact ⟨rfl, Below.refl _ _⟩
  · go_enter Try.func6, Try.ntmps6
    go_wp2_with fail
    refine (drawValidBundles_any z _ _ HV.out.1 HV.out.2).mono ?_
    rintro e w1 ⟨s, sv, B, bv, rfl, hs, hs10, ho, hp, hB, hb1⟩
    obtain ⟨bo, bcap, rfl, ⟨hc1, hc2⟩, hsh⟩ := owns_shape_cap ho
    obtain ⟨so, scap, rfl, _⟩ := owns_shape hs
    have A1 := Lib.hid (Rd.of_owns hs)
    have L1 : Hid (RdB w1 (.slice bo B.length bcap) B) := ⟨Rd.of_owns ho, fun x hx => Rd.of_owns (hp x hx).1⟩
    have HSH := Lib.hid hsh
    have Z1 := Lib.hid (fun k hk => (ho.lt k hk).2)
    clear hs ho hp hsh
    have h1 : (true != true) = false := rfl
    have h2 : (false != false) = false := rfl
    cases hok : vBn s B
    · go_wp2_with fail
      refine (implBundles_any s _ B _ _ A1.out L1.out).mono ?_
      rintro e w2 ⟨rfl, hb2⟩
      rw [hok]
      have B2 := hb1.trans (hb2.mono hb1.size)
      have A2 := Lib.hid (A1.out.below hb2 (Nat.le_refl _))
      have L2 := Lib.hid (L1.out.below hb2 (Nat.le_refl _))
      clear hb2
      go_wp2_with fail
      refine (specBundles_any s _ B _ _ A2.out L2.out).mono ?_
      rintro e w3 ⟨rfl, hb3⟩
      rw [hok]
      have B3 := B2.trans (hb3.mono B2.size)
      have A3 := Lib.hid (A2.out.below hb3 (Nat.le_refl _))
      have L3 := Lib.hid (L2.out.below hb3 (Nat.le_refl _))
      have z3 := hb3.size
      clear hb3
      go_wp2_with fail
      refine (specBundles_any s _ B _ _ A3.out L3.out).mono ?_
      rintro e w4 ⟨rfl, hb4⟩
      rw [hok]
      go_wp2
      go_ret
      exact ⟨ret_b (by simp), B3.trans (hb4.mono B3.size)⟩
    · have HOK := Lib.hid hok
      by_cases hl0 : B.length = 0
      · have hl0b : ((B.length : Int) == 0) = true := by simp [hl0]
        clear hl0
        go_wp2_with fail
        refine (implBundles_any s _ B _ _ A1.out L1.out).mono ?_
        rintro e w2 ⟨rfl, hb2⟩
        rw [hok]
        have B2 := hb1.trans (hb2.mono hb1.size)
        have A2 := Lib.hid (A1.out.below hb2 (Nat.le_refl _))
        have L2 := Lib.hid (L1.out.below hb2 (Nat.le_refl _))
        clear hb2
        go_wp2_with fail
        refine (specBundles_any s _ B _ _ A2.out L2.out).mono ?_
        rintro e w3 ⟨rfl, hb3⟩
        rw [hok]
        have B3 := B2.trans (hb3.mono B2.size)
        have A3 := Lib.hid (A2.out.below hb3 (Nat.le_refl _))
        have L3 := Lib.hid (L2.out.below hb3 (Nat.le_refl _))
        have z3 := hb3.size
        clear hb3
        go_wp2_with fail
        refine (specBundles_any s _ B _ _ A3.out L3.out).mono ?_
        rintro e w4 ⟨rfl, hb4⟩
        rw [hok]
        go_wp2
        go_ret
        exact ⟨ret_b (by simp), B3.trans (hb4.mono B3.size)⟩
      · have hl0b : ((B.length : Int) == 0) = false := by rw [beq_eq_false_iff_ne]; omega
        obtain ⟨g, rfl, hg⟩ := HSH.out (by omega)
        obtain ⟨j, hj⟩ : ∃ j, B.length = j + 1 := ⟨B.length - 1, by omega⟩
        have hw : IntKind.i64.wrap ((B.length : Int) - 1) = (j : Int) := by rw [hj, IntWalk.i64_in _ (by omega)]; omega
        have hj0 : (0 : Int) ≤ (j : Int) := by omega
        have hjc : (j : Int) ≤ (bcap : Int) := by omega
        have HJ := Lib.hid hj
        clear hj
        go_wp2_with fail
        refine (implBundles_any s _ B _ _ A1.out L1.out).mono ?_
        rintro e w2 ⟨rfl, hb2⟩
        rw [hok]
        have B2 := hb1.trans (hb2.mono hb1.size)
        have A2 := Lib.hid (A1.out.below hb2 (Nat.le_refl _))
        have L2 := Lib.hid (L1.out.below hb2 (Nat.le_refl _))
        clear hb2
        go_wp2_with fail
        refine (specBundles_any s _ B _ _ A2.out L2.out).mono ?_
        rintro e w3 ⟨rfl, hb3⟩
        rw [hok]
        have B3 := B2.trans (hb3.mono B2.size)
        have A3 := Lib.hid (A2.out.below hb3 (Nat.le_refl _))
        have L3 := Lib.hid (L2.out.below hb3 (Nat.le_refl _))
        have z3 := hb3.size
        clear hb3
        have hn := Lib.hid (vBn_nil HOK.out)
        have ht := Lib.hid (vBn_take HOK.out j)
        have LT := Lib.hid (L3.out.take (k := j) (by rw [HJ.out]; omega))
        go_wp2_with (go_at_call 27; first | (with_reducible refine (implBundles_any s _ (B.take j) _ _ A3.out LT.out).mono ?_; rintro e w4 ⟨rfl, hb4⟩; rw [ht.out]; have A4 := Lib.hid (A3.out.below hb4 (Nat.le_refl _))) | (with_reducible refine (implBundles_any s _ [] _ _ A4.out (RdB.nil _)).mono ?_; rintro e w5 ⟨rfl, hb5⟩; rw [hn.out]))
        go_ret
        exact ⟨ret_b (by simp), (B3.trans (hb4.mono B3.size)).trans (hb5.mono (B3.trans (hb4.mono B3.size)).size)⟩

open Go.ChangeShapes Go.WideShapes Go.ChangeAt

theorem lawOwn : ownKnob Try.prog.godebug = none := by kernel_rfl
theorem lawOut : laidOutB Try.prog = true := by kernel_rfl

set_option linter.unusedVariables false in
set_option maxRecDepth 100000 in
theorem liftedValidBundles (os : Os) (started : os.Started) (H : Type) (enc : TypeId × Value → H) :
    ReturnsInHanded {} Try.checked os 6 .any (Rows.fnValidBundlesSpec.pre6 enc Try.prog Try.f6 Rows.fnValidBundlesRow.domain false) (Rows.fnValidBundlesSpec.post enc Try.prog Try.f6 false true false false) := by
  refine returnsInHanded_of_change (C := Try.checked) lawOwn started (by kernel_rfl) Try.func6
    (ChangeSpec.witness6 (enc := enc) (C := Try.checked) false ⟨#[], #[.slice none 0 0], []⟩ 8 (by kernel_rfl) (by kernel_rfl) (by kernel_rfl) (by kernel_rfl)) ?_
  intro W base args ds gs before hval0 hW hcnd _
  have hval : ∀ (j : Nat) t v, Try.f6.params[j]? = some t → args[j]? = some v → Value.okWide Try.prog W .any base t v := hval0
  have hW' := hW
  obtain ⟨p, q, hA0, hV, rfl, hfz, hnd⟩ := hW
  have hA : DataW.TrodAll enc Try.prog W 0 (fun _ => true) true Try.f6.params.toList args.toList ds p := hA0
  rw [Try.params6] at hA hval
  obtain ⟨v0, vs0, d0, ds0, p0, q0, hargs, rfl, rfl, h0, r0⟩ := trodAll_cons hA
  obtain ⟨rfl, rfl, rfl⟩ := trodAll_nil r0
  obtain rfl : args = #[v0] := by cases args; simp_all
  obtain ⟨rfl, rfl⟩ := trodVars_none hV
  have k0 := h0
  have lt0 : ∀ x ∈ p0, x.block < W.heap.size := by obtain ⟨m, hm⟩ := k0; exact DataW.trod_lt m _ _ _ hm
  clear hA0 hval0
  obtain ⟨z0, w0⟩ : ∃ z : List Int, Rd W 1 v0 z.length (z.map (Value.int .u8)) ∧ ∀ x ∈ z, 0 ≤ x ∧ x ≤ 255 := by
    obtain ⟨a0, n0, c0, rfl⟩ := okWide_slice Try.underlying22 (hval 0 22 v0 rfl rfl)
    obtain ⟨fuel, hf⟩ := h0
    exact open_bytes Try.underlying22 Try.underlying5 (by kernel_rfl) hf
  refine (lawValidBundles z0 v0 W w0).mono fun e W' ⟨he, bel⟩ => ?_
  subst he
  exact ⟨_, rfl, _, _, _, [], _, [], hW', trodAll_mk1 (shut_bool Try.underlying4 _), (trodAll_cons_mk (Below.trod lawOut (by kernel_rfl) (of_decide_eq_true (by kernel_rfl)) k0 bel lt0) trodAll_mk0), rfl, bel.frame _, fun h => by cases h⟩

theorem closedValidBundles : joinedFacts Try.pinned.checked.prog 6 Try.f6 Rows.fnValidBundlesSpec Rows.fnValidBundlesRow = true := by
  unfold joinedFacts
  rw [headEnters, headMake, headFinal]
  kernel_rfl

theorem holdsValidBundles : Rows.FnValidBundlesSaid :=
  OpenClaim.holds_of_wide 6 Try.f6 rfl rfl rfl rfl rfl rfl rfl ⟨rfl, rfl, rfl, rfl, rfl⟩ rfl rfl rfl rfl rfl (by kernel_rfl) Try.func6 closedValidBundles
    (of_decide_eq_true (by kernel_rfl)) (by unfold Func.isWrapper; first | (rw [if_pos (by decide +kernel)]; kernel_rfl) | (rw [if_neg (by decide +kernel)]; exact ⟨rfl, rfl⟩))
    (fun os started H enc _ => liftedValidBundles os started H enc)

#print axioms holdsValidBundles

end Go.Proofs.Ytomapdedajdkkaa
