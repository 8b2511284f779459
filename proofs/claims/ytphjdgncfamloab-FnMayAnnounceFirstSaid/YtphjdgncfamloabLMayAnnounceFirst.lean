/- First prices are no reductions: MayAnnounce is false on the day of the first change, and without changes, for every code. Conditions: none. -/
import Derived.Test.YtphjdgncfamloabWF
import Derived.Test.YtphjdgncfamloabWH
import Derived.Test.YtphjdgncfamloabPriceLaws
import Derived.Test.YtphjdgncfamloabLater
import Derived.Test.YtphjdgncfamloabOpen
import Derived.Test.YtphjdgncfamloabHead
namespace Go.Proofs.Ytphjdgncfamloab
open Go.RowKit

theorem may_nil : fMay [] 5 = false := by simp [fMay, pDay, pOn]

theorem may_first {l : List (Int × Int)} (h : 0 < l.length) : fMay (l.take 1) (pA l 0) = false := by
  have ht : (l.take 1).length = 1 := by rw [List.length_take]; omega
  have h0 : ∀ e, e < pA l 0 → pDay (l.take 1) e = 0 := fun e he => pOn_none _ fun j hj => by
    rw [ht] at hj
    obtain rfl : j = 0 := by omega
    rw [(pA_take (l := l) (m := 1) (k := 0) (by omega)).1]; exact he
  have hl : lowB (l.take 1) (pA l 0) = 0 := by
    rcases lowB_some (l := l.take 1) (pA l 0) with h1 | ⟨e, _, h2, h3⟩
    · exact h1
    · rw [← h3]; exact h0 e h2
  unfold fMay
  rw [hl]; simp

theorem rd_nil (w : World) (sz : Nat) : Rd w sz (.slice none 0 0) ([] : List (Int × Int)).length (pr []) :=
  ⟨by simp [pr], none, 0, rfl, Nat.le_refl _, Nat.zero_le _, fun h => absurd h (Nat.lt_irrefl _)⟩

set_option maxHeartbeats 2000000 in
theorem lawMayAnnounceFirst (z : List Int) (v : Value) (w : World) (hv : Rd w 1 v z.length (z.map (Value.int .u8)) ∧ ∀ x ∈ z, 0 ≤ x ∧ x ≤ 255) :
    Calls Try.prog 5 #[v] w fun e w' => e = .returned (.bool true) ∧ Below w.heap.size w w' := by
  have hm := hv.1.len
  unfold maxLen at hm
  obtain ⟨_, ao, cap, rfl, _⟩ := hv.1
  have HV := Lib.hid hv
  clear hv
  by_cases hn : 1048576 < z.length
  · go_enter Try.func5, Try.ntmps5
    go_wp2
    go_ret
    exact ⟨rfl, Below.refl _ _⟩
  · go_enter Try.func5, Try.ntmps5
    go_wp2_with fail
    refine (drawMayAnnounce_any z _ _ HV.out.1 HV.out.2).mono ?_
    rintro e w1 ⟨l, u, d, rfl, ho1, _, hl1, hd1, hd2, hb1⟩
    obtain ⟨bo, cap1, rfl, ⟨hcap1, hcap2⟩, hg⟩ := owns_shape_cap ho1
    have R1 := Lib.hid (Rd.of_owns ho1)
    have HG := Lib.hid hg
    clear ho1 hg
    go_wp2_with fail
    refine (implMay_any l _ _ _ R1.out).mono ?_
    rintro e w2 ⟨rfl, hb2⟩
    have B2 := hb1.trans (hb2.mono hb1.size)
    have R2 := Lib.hid (R1.out.below hb2 (Nat.le_refl _))
    clear hb1 hb2 R1
    have hne : (fMay l d != fMay l d) = false := by simp
    go_wp2_with fail
    refine (specMay_any l _ _ _ R2.out).mono ?_
    rintro e w3 ⟨rfl, hb3⟩
    have B3 := B2.trans (hb3.mono B2.size)
    have R3 := Lib.hid (R2.out.below hb3 (Nat.le_refl _))
    clear B2 hb3 R2
    have K1 : Hid (∀ x : Later w3, Calls Try.prog 22 #[.slice none 0 0, .int .i64 5] x.wld fun e w' => e = .returned (.bool false) ∧ ∃ y : Later w3, w' = y.wld) := by
      intro x
      have := implMay_any [] (.slice none 0 0) 5 x.wld (rd_nil _ _)
      rw [may_nil] at this
      exact Calls.later_of this
    by_cases h0 : l.length = 0
    · have h0b : ((l.length : Int) == 0) = true := by simp [h0]
      have H0 := Lib.hid h0
      clear h0
      go_wp2
      refine wp_region_later (by kernel_rfl) (by kernel_rfl) ?_
      repeat (go_big_quiet_step ((go_at_call 22; (with_reducible exact K1.out _))))
      refine wpQuiet_nil ?_
      rintro _ ⟨x, rfl⟩
      go_wp2
      go_ret
      exact ⟨ret_b (by simp), B3.trans (x.below.mono B3.size)⟩
    · have h0b : ((l.length : Int) == 0) = false := by rw [beq_eq_false_iff_ne]; omega
      have h1 : 0 < l.length := by omega
      have hc1 : 1 ≤ cap1 := by omega
      obtain ⟨g, rfl, hgb⟩ := HG.out h1
      obtain ⟨hg3, c0, c1⟩ := R3.out.at_pairs 0 h1
      have ht : (l.take 1).length = 1 := by rw [List.length_take]; omega
      have T3 : Hid (Rd w3 2 (.slice (some ⟨g, 0, none⟩) 1 cap1) (l.take 1).length (pr (l.take 1))) := by
        rw [Hid, ht, pr_take]; exact R3.out.take (by omega)
      have K2 : Hid (∀ x : Later w3, Calls Try.prog 22 #[.slice (some ⟨g, 0, none⟩) 1 cap1, .int .i64 (pA l 0)] x.wld fun e w' => e = .returned (.bool false) ∧ ∃ y : Later w3, w' = y.wld) := by
        intro x
        have := implMay_any _ _ (pA l 0) x.wld (T3.out.below x.below (Nat.le_refl _))
        rw [may_first h1] at this
        exact Calls.later_of this
      simp only [Nat.zero_mul, Nat.zero_add] at c0 c1
      clear ht h0
      go_wp2
      refine wp_region_later (by kernel_rfl) (by kernel_rfl) ?_
      repeat (go_big_quiet_step ((go_at_call 22; first | (with_reducible exact K1.out _) | (with_reducible exact K2.out _))))
      refine wpQuiet_nil ?_
      rintro _ ⟨x, rfl⟩
      go_wp2
      go_ret
      exact ⟨ret_b (by simp), B3.trans (x.below.mono B3.size)⟩

open Go.ChangeShapes Go.WideShapes Go.ChangeAt

theorem lawOwn : ownKnob Try.prog.godebug = none := by kernel_rfl
theorem lawOut : laidOutB Try.prog = true := by kernel_rfl

set_option linter.unusedVariables false in
set_option maxRecDepth 100000 in
theorem liftedMayAnnounceFirst (os : Os) (started : os.Started) (H : Type) (enc : TypeId × Value → H) :
    ReturnsInHanded {} Try.checked os 5 .any (Rows.fnMayAnnounceFirstSpec.pre6 enc Try.prog Try.f5 Rows.fnMayAnnounceFirstRow.domain false) (Rows.fnMayAnnounceFirstSpec.post enc Try.prog Try.f5 false true false false) := by
  refine returnsInHanded_of_change (C := Try.checked) lawOwn started (by kernel_rfl) Try.func5
    (ChangeSpec.witness6 (enc := enc) (C := Try.checked) false ⟨#[], #[.slice none 0 0], []⟩ 8 (by kernel_rfl) (by kernel_rfl) (by kernel_rfl) (by kernel_rfl)) ?_
  intro W base args ds gs before hval0 hW hcnd _
  have hval : ∀ (j : Nat) t v, Try.f5.params[j]? = some t → args[j]? = some v → Value.okWide Try.prog W .any base t v := hval0
  have hW' := hW
  obtain ⟨p, q, hA0, hV, rfl, hfz, hnd⟩ := hW
  have hA : DataW.TrodAll enc Try.prog W 0 (fun _ => true) true Try.f5.params.toList args.toList ds p := hA0
  rw [Try.params5] at hA hval
  obtain ⟨v0, vs0, d0, ds0, p0, q0, hargs, rfl, rfl, h0, r0⟩ := trodAll_cons hA
  obtain ⟨rfl, rfl, rfl⟩ := trodAll_nil r0
  obtain rfl : args = #[v0] := by cases args; simp_all
  obtain ⟨rfl, rfl⟩ := trodVars_none hV
  have k0 := h0
  have lt0 : ∀ x ∈ p0, x.block < W.heap.size := by obtain ⟨m, hm⟩ := k0; exact DataW.trod_lt m _ _ _ hm
  clear hA0 hval0
  obtain ⟨z0, w0⟩ : ∃ z : List Int, Rd W 1 v0 z.length (z.map (Value.int .u8)) ∧ ∀ x ∈ z, 0 ≤ x ∧ x ≤ 255 := by
    obtain ⟨a0, n0, c0, rfl⟩ := okWide_slice Try.underlying22 (hval 0 22 v0 rfl rfl)
    obtain ⟨fuel, hf⟩ := h0
    exact open_bytes Try.underlying22 Try.underlying5 (by kernel_rfl) hf
  refine (lawMayAnnounceFirst z0 v0 W w0).mono fun e W' ⟨he, bel⟩ => ?_
  subst he
  exact ⟨_, rfl, _, _, _, [], _, [], hW', trodAll_mk1 (shut_bool Try.underlying4 _), (trodAll_cons_mk (Below.trod lawOut (by kernel_rfl) (of_decide_eq_true (by kernel_rfl)) k0 bel lt0) trodAll_mk0), rfl, bel.frame _, fun h => by cases h⟩

theorem closedMayAnnounceFirst : joinedFacts Try.pinned.checked.prog 5 Try.f5 Rows.fnMayAnnounceFirstSpec Rows.fnMayAnnounceFirstRow = true := by
  unfold joinedFacts
  rw [headEnters, headMake, headFinal]
  kernel_rfl

theorem holdsMayAnnounceFirst : Rows.FnMayAnnounceFirstSaid :=
  OpenClaim.holds_of_wide 5 Try.f5 rfl rfl rfl rfl rfl rfl rfl ⟨rfl, rfl, rfl, rfl, rfl⟩ rfl rfl rfl rfl rfl (by kernel_rfl) Try.func5 closedMayAnnounceFirst
    (of_decide_eq_true (by kernel_rfl)) (by unfold Func.isWrapper; first | (rw [if_pos (by decide +kernel)]; kernel_rfl) | (rw [if_neg (by decide +kernel)]; exact ⟨rfl, rfl⟩))
    (fun os started H enc _ => liftedMayAnnounceFirst os started H enc)

#print axioms holdsMayAnnounceFirst

end Go.Proofs.Ytphjdgncfamloab
