/- Joined texts: Walks: a rule counts from when it is added. The law SessionRule, as a tied card, out of its walk. Conditions: none. -/
import Derived.Test.YtijofgaekmahkaaGreatDoorM40
import Derived.Test.YtijofgaekmahkaaGreatDoorM43
import Derived.Test.YtijofgaekmahkaaGreatDoorTie
import Derived.Test.YtijofgaekmahkaaGreatDoorCards
import Derived.SevenTiedAt
namespace Go.Proofs.YtijofgaekmahkaaGreatDoor
open Go.RowKit
def sesSessionRule : List (List UInt8) := [kAdd12, kRule0, kPay, kNotes, kRule1]
def outSessionRule : List UInt8 := [111, 107, 10, 111, 107, 10, 50, 53, 48, 10, 49, 32, 55, 32, 50, 53, 48, 10, 110, 111, 10]
theorem runSessionRule : runS sesSessionRule = outSessionRule := run_rule
theorem lenSessionRule : ∀ x ∈ sesSessionRule, x.length ≤ 2000000 := fun x hx => by
 have : sesSessionRule.all (fun x => decide (x.length ≤ 100)) = true := by decide
 have h1 : x.length ≤ 100 := by simpa using List.all_eq_true.1 this x hx
 omega
set_option maxRecDepth 100000 in
set_option maxHeartbeats 8000000 in
theorem lawSessionRule (z : List Int) (v : Value) (w : World) (hv : Rd w 1 v z.length (z.map (Value.int .u8))) (hz : ∀ x ∈ z, 0 ≤ x ∧ x ≤ 255) (hE : EnvB w.heap.size w) :
   Calls Tryz.prog 5 #[v] w fun e w' => e = .returned (.bool true) ∧ Below w.heap.size w w' := by
 have HV := Lib.hid hv
 have HE := Lib.hid hE
 have hm := hv.len
 unfold maxLen at hm
 obtain ⟨_, bo, bcap, rfl, _⟩ := hv
 clear hE
 by_cases hbig : 1048576 < z.length
 · go_enter Tryz.func5, Tryz.ntmps5
   go_wp2
   go_ret
   exact ⟨rfl, Below.refl _ _⟩
 · go_enter Tryz.func5, Tryz.ntmps5
   go_wp2_with fail
   refine (DrawSession_any z _ w HV.out hz).mono ?_
   rintro e w1 ⟨ls, u, rfl, o1, sh, l2, l12, b1⟩
   have hm1 : ∀ x ∈ ls, x.length ≤ 2000000 := fun x hx => Nat.le_trans (sh x hx) (by decide)
   have HM := Lib.hid hm1
   obtain ⟨ao, cap, hu, hg1⟩ := owns_shape o1
   obtain ⟨g, rfl, _⟩ := hg1 (by omega)
   subst hu
   have O1 := Lib.hid o1
   have B1 := Lib.hid b1
   have L2 := Lib.hid l2
   clear o1 b1 sh hm1 hg1 l2 hbig hm hz
   obtain ⟨R, hR⟩ : ∃ R, R = runS ls := ⟨_, rfl⟩
   have hne : (R != R) = false := by simp
   have hRs : (⟨R.toArray⟩ : ByteArray).size = R.length := by simp [ByteArray.size]
   have hRl : R.length ≤ 50000 := by rw [hR]; exact runS_len ls
   have HR := Lib.hid hR
   clear hR
   go_wp2_with fail
   refine (implRun_any ls _ _ (Rd.of_owns O1.out) HM.out ((HE.out.below B1.out).upTo B1.out.size)).mono ?_
   rintro e w2 ⟨rfl, x2⟩
   rw [← HR.out]
   have B2 := Lib.hid (B1.out.trans (x2.mono B1.out.size))
   have O2 := Lib.hid (ownsRow_below O1.out x2 (Nat.le_refl _))
   clear x2 O1 B1
   go_wp2_with fail
   refine (specRun_any ls _ _ (Rd.of_owns O2.out) HM.out).mono ?_
   rintro e w3 ⟨rfl, x3⟩
   rw [← HR.out]
   have B3 := Lib.hid (B2.out.trans (x3.mono B2.out.size))
   have O3 := Lib.hid (ownsRow_below O2.out x3 (Nat.le_refl _))
   clear x3 O2 B2
   have ab := B3.out.alloc B3.out.size (.cells (sw sesSessionRule).toArray 9)
   have AB := Lib.hid ab
   have eq : (outSessionRule == [111, 107, 10, 111, 107, 10, 50, 53, 48, 10, 49, 32, 55, 32, 50, 53, 48, 10, 110, 111, 10]) = true := by decide
   clear ab O3
   go_wp2_with fail
   refine (implRun_any sesSessionRule _ (w3.alloc (.cells (sw sesSessionRule).toArray 9)) (Rd.of_owns (owns_lit w3 sesSessionRule 9 w3.heap.size (Nat.le_refl _) (by decide))) lenSessionRule ((HE.out.below AB.out).upTo AB.out.size)).mono ?_
   rintro e w4 ⟨rfl, x4⟩
   rw [runSessionRule]
   have X4 := Lib.hid (AB.out.trans (x4.mono AB.out.size))
   clear x4
   go_wp2
   go_ret
   exact ⟨rfl, X4.out⟩
end Go.Proofs.YtijofgaekmahkaaGreatDoor

namespace Go.Proofs.YtijofgaekmahkaaGreatDoor
open Go.ChangeShapes Go.WideShapes Go.ChangeAt Go.RowKit
set_option linter.unusedVariables false in
set_option maxRecDepth 100000 in
theorem liftedSessionRule (os : Os) (started : os.Started) (H : Type) (enc : TypeId × Value → H) :
   ReturnsInHanded {} Tryz.checked os 5 .any (fun w args => (Rows.fnSessionRuleSpec.pre enc Tryz.prog Tryz.f5 [] false w args ∧ laidMetH Tryz.prog laidP w) ∧ sizedMet enc Tryz.prog Tryz.f5 (OpenSpec.ofChange Rows.fnSessionRuleSpec) false w args)
     (Rows.fnSessionRuleSpec.post enc Tryz.prog Tryz.f5 false true false false) := by
 refine handed_shaped (C := Tryz.checked) (X := fun w _ => laidMetH Tryz.prog laidP w) (fun _ _ _ hh h => h.of_heap hh) lawOwnP started (by kernel_rfl) Tryz.func5
   (ChangeSpec.witness_shaped (enc := enc) (C := Tryz.checked) (os := os) (X := fun w _ => laidMetH Tryz.prog laidP w) false (worldP os) #[.slice none 0 0] 8 (worldP_os os) (laidShapedP os _) (by kernel_rfl) (by kernel_rfl) (by kernel_rfl) (laidMetP os _)) ?_
 intro W base args ds gs before hval0 hW hL hsh
 have hval : ∀ (j : Nat) t v, Tryz.f5.params[j]? = some t → args[j]? = some v → Value.okWide Tryz.prog W .any base t v := hval0
 have hW' := hW
 obtain ⟨p, q, hA0, hV0, rfl, hfz, hnd⟩ := hW
 have hA : DataW.TrodAll enc Tryz.prog W 0 (fun _ => true) true Tryz.f5.params.toList args.toList ds p := hA0
 have hV : DataW.TrodVars enc Tryz.prog W (fun _ => true) ["loop.example/promotionengine/impl.anySpan", "loop.example/promotionengine/impl.kindNames"] gs q := hV0
 obtain ⟨_, _, _, _, g1, _, _, _, _, _, g2, _, rfl, _⟩ := trodVars_two hV
 rw [Tryz.params5] at hA hval
 obtain ⟨v0, vs0, d0, ds0, p0, q0, hargs, rfl, rfl, h0, r0⟩ := trodAll_cons hA
 obtain ⟨rfl, rfl, rfl⟩ := trodAll_nil r0
 obtain rfl : args = #[v0] := by cases args; simp_all
 have k0 := h0
 have lt0 : ∀ x ∈ p0, x.block < W.heap.size := by obtain ⟨m, hm⟩ := k0; exact DataW.trod_lt m _ _ _ hm
 clear hA0 hval0
 have hE : EnvB W.heap.size W := envP_of_laid hL hsh
 obtain ⟨z0, w0⟩ : ∃ z : List Int, Rd W 1 v0 z.length (z.map (Value.int .u8)) ∧ ∀ x ∈ z, 0 ≤ x ∧ x ≤ 255 := by
   obtain ⟨a0, n0, c0, rfl⟩ := okWide_slice Tryz.underlying22 (hval 0 22 v0 rfl rfl)
   obtain ⟨fuel, hf⟩ := h0
   exact open_bytes Tryz.underlying22 Tryz.underlying5 (by kernel_rfl) hf
 refine (lawSessionRule z0 v0 W w0.1 w0.2 hE).mono fun e W' ⟨he, bel⟩ => ?_
 subst he
 exact ⟨_, rfl, _, _, _, [], _, q, hW', trodAll_mk1 (shut_bool Tryz.underlying4 _), (trodAll_cons_mk (Below.trod lawOutP (by kernel_rfl) (of_decide_eq_true (by kernel_rfl)) k0 bel lt0) trodAll_mk0), Below.trodVars lawOutP bel (by kernel_rfl) hV, bel.frame _, fun h => by cases h⟩
theorem saidSessionRule : Rows.FnSessionRuleSaid :=
 OpenClaim.holds_of_wide 5 Tryz.f5 rfl rfl rfl rfl rfl rfl rfl ⟨rfl, rfl, rfl, rfl, rfl⟩ rfl rfl rfl rfl rfl (by kernel_rfl) Tryz.func5 (by kernel_rfl)
   (of_decide_eq_true (by kernel_rfl)) (by unfold Func.isWrapper; first | (rw [if_pos (by decide +kernel)]; kernel_rfl) | (rw [if_neg (by decide +kernel)]; exact ⟨rfl, rfl⟩))
   (fun os started H enc _ => liftedSessionRule os started H enc)
theorem holdsSessionRule : Rows.FnSessionRuleCardSaid :=
 Claim7.holds_tied_plain_at .later [] [.data, .data, .data, .data, .sentinel, .sentinel, .data, .mapped, .pinned] true (true, "3af949e2787502fc77dadc90f35829bce54f71479ef125a3a7feb8fcb0d553a5") true
   saidSessionRule (fun _ h => by cases h) (by kernel_rfl) (fun _ h => by cases h) fnSessionRule_row_tie rfl ⟨rfl, rfl⟩ (by kernel_rfl) rfl
   (fun f fn hf hfn => by
     obtain rfl : f = 5 := Option.some.inj ((show Tryz.prog.funcNamed "loop.example/promotionengine/laws.FnSessionRule" = some 5 by kernel_rfl).symm.trans hf) |>.symm
     obtain rfl : fn = Tryz.f5 := (Option.some.inj (Tryz.func5.symm.trans hfn)).symm
     exact ⟨by kernel_rfl, fun j t ht => by
       rw [Tryz.params5] at ht
       have hm : t ∈ [22] := by simpa using Array.mem_of_getElem? ht
       have hall : ([22].all fun u => !Tryz.prog.wantsStandIn u) = true := by kernel_rfl
       exact (show Tryz.prog.wantsStandIn t = false by simpa using List.all_eq_true.1 hall t hm)⟩)
   (by kernel_rfl)
#print axioms holdsSessionRule
end Go.Proofs.YtijofgaekmahkaaGreatDoor
