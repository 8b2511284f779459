/- The law ExactFormatRule, as a tied card, out of its walk. Conditions: none. -/
import Derived.Test.YtdofpealmngmiaaDoorEF
import Derived.Test.YtdofpealmngmiaaDoorORD
import Derived.Test.YtdofpealmngmiaaDoorTie
import Derived.Test.YtdofpealmngmiaaDoorCards
import Derived.SevenTiedAt
namespace Go.Proofs.YtdofpealmngmiaaDoor
open Go.ChangeShapes Go.WideShapes Go.ChangeAt Go.RowKit

set_option linter.unusedVariables false in
set_option maxRecDepth 100000 in
theorem liftedExactFormatRule (os : Os) (started : os.Started) (H : Type) (enc : TypeId × Value → H) :
    ReturnsInHanded {} Tryd.checked os 5 .any (fun w args => (Rows.fnExactFormatRuleSpec.pre enc Tryd.prog Tryd.f5 [] false w args ∧ laidMetH Tryd.prog laidL w) ∧ sizedMet enc Tryd.prog Tryd.f5 (OpenSpec.ofChange Rows.fnExactFormatRuleSpec) false w args)
      (Rows.fnExactFormatRuleSpec.post enc Tryd.prog Tryd.f5 false true false false) := by
  refine returnsInHanded_of_change_and (C := Tryd.checked) (X := fun w _ => laidMetH Tryd.prog laidL w) (fun _ _ _ hh h => h.of_heap hh) lawOwn started (by kernel_rfl) Tryd.func5
    (ChangeSpec.witness_shaped (enc := enc) (C := Tryd.checked) (os := os) (X := fun w _ => laidMetH Tryd.prog laidL w) false (World.doorLaid Tryd.prog 400 os) #[.agg #[.int .i64 0, .int .i64 0, .int .i64 0, .int .i64 0, .int .i64 0, .int .i64 0, .int .i64 0, .int .i64 0, .int .i64 0, .slice none 0 0, .int .i64 0]] 8 rfl (World.shaped_of_RefB (by kernel_rfl) (by kernel_rfl)) (by kernel_rfl) (by kernel_rfl) (by kernel_rfl) (doorMet os _)) ?_
  intro W base args ds gs before hval0 hW _ _ hL _
  have hval : ∀ (j : Nat) t v, Tryd.f5.params[j]? = some t → args[j]? = some v → Value.okWide Tryd.prog W .any base t v := hval0
  have hW' := hW
  obtain ⟨p, q, hA0, hV0, rfl, hfz, hnd⟩ := hW
  have hA : DataW.TrodAll enc Tryd.prog W 0 (fun _ => true) true Tryd.f5.params.toList args.toList ds p := hA0
  have hV : DataW.TrodVars enc Tryd.prog W (fun _ => true) ["loop.example/promotionengine/impl.kindNames", "loop.example/promotionengine/impl.anySpan"] gs q := hV0
  obtain ⟨_, _, _, _, g1, _, _, _, _, _, g2, _, rfl, _⟩ := trodVars_two hV
  rw [Tryd.params5] at hA hval
  obtain ⟨v0, vs0, d0, ds0, p0, q0, hargs, rfl, rfl, h0, r0⟩ := trodAll_cons hA
  obtain ⟨rfl, rfl, rfl⟩ := trodAll_nil r0
  obtain rfl : args = #[v0] := by cases args; simp_all
  have k0 := h0
  have lt0 : ∀ x ∈ p0, x.block < W.heap.size := by obtain ⟨m, hm⟩ := k0; exact DataW.trod_lt m _ _ _ hm
  clear hA0 hval0
  have hE : Env W := ⟨W, env_of_laid hL, Below.refl _ _⟩
  obtain ⟨z0, a0, rfl, w0⟩ : ∃ (r : Rl) (a : Value), v0 = ruV r a ∧ Rd W 2 a r.counts.length (pr r.counts) := by
    obtain ⟨cs, rfl, hcs⟩ := okWide_struct Tryd.underlying39 (hval 0 39 v0 rfl rfl)
    rw [cRule] at hcs
    obtain ⟨l⟩ := cs
    rcases l with _ | ⟨a0, _ | ⟨a1, _ | ⟨a2, _ | ⟨a3, _ | ⟨a4, _ | ⟨a5, _ | ⟨a6, _ | ⟨a7, _ | ⟨a8, _ | ⟨a9, _ | ⟨a10, _ | ⟨a11, l2⟩⟩⟩⟩⟩⟩⟩⟩⟩⟩⟩⟩
    · simp at hcs
    · simp at hcs
    · simp at hcs
    · simp at hcs
    · simp at hcs
    · simp at hcs
    · simp at hcs
    · simp at hcs
    · simp at hcs
    · simp at hcs
    · simp at hcs
    · obtain ⟨fuel, hf⟩ := h0
      obtain ⟨r, h1, h2⟩ := open_rule hf
      exact ⟨r, a9, h1, h2⟩
    · simp at hcs
  refine (lawExactFormatRule z0 a0 W w0 hE).mono fun e W' ⟨he, bel⟩ => ?_
  subst he
  exact ⟨_, rfl, _, _, _, [], _, q, hW', trodAll_mk1 (shut_bool Tryd.underlying4 _), (trodAll_cons_mk (Below.trod lawOut (by kernel_rfl) (of_decide_eq_true (by kernel_rfl)) k0 bel lt0) trodAll_mk0), Below.trodVars lawOut bel (by kernel_rfl) hV, bel.frame _, fun h => by cases h⟩

theorem saidExactFormatRule : Rows.FnExactFormatRuleSaid :=
  OpenClaim.holds_of_wide 5 Tryd.f5 rfl rfl rfl rfl rfl rfl rfl ⟨rfl, rfl, rfl, rfl, rfl⟩ rfl rfl rfl rfl rfl (by kernel_rfl) Tryd.func5 (by kernel_rfl)
    (of_decide_eq_true (by kernel_rfl)) (by unfold Func.isWrapper; first | (rw [if_pos (by decide +kernel)]; kernel_rfl) | (rw [if_neg (by decide +kernel)]; exact ⟨rfl, rfl⟩))
    (fun os started H enc _ => liftedExactFormatRule os started H enc)

theorem holdsExactFormatRule : Rows.FnExactFormatRuleCardSaid :=
  Claim7.holds_tied_plain_at .later [] [.data, .data, .data, .data, .mapped] true (true, "7290c61413e99733f27ef70f815d257b431d4f0b45dff252c7b506e3f35f5757") true
    saidExactFormatRule (fun _ h => by cases h) (by kernel_rfl) (fun _ h => by cases h) fnExactFormatRule_row_tie rfl ⟨rfl, rfl⟩ (by kernel_rfl) rfl
    (fun f fn hf hfn => by
      obtain rfl : f = 5 := Option.some.inj ((show Tryd.prog.funcNamed "loop.example/promotionengine/laws.FnExactFormatRule" = some 5 by kernel_rfl).symm.trans hf) |>.symm
      obtain rfl : fn = Tryd.f5 := (Option.some.inj (Tryd.func5.symm.trans hfn)).symm
      exact ⟨by kernel_rfl, fun j t ht => by
        rw [Tryd.params5] at ht
        have hm : t ∈ [39] := by simpa using Array.mem_of_getElem? ht
        have hall : ([39].all fun u => !Tryd.prog.wantsStandIn u) = true := by kernel_rfl
        exact (show Tryd.prog.wantsStandIn t = false by simpa using List.all_eq_true.1 hall t hm)⟩)
    (by kernel_rfl)

#print axioms holdsExactFormatRule

end Go.Proofs.YtdofpealmngmiaaDoor
