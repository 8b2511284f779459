/- Bundles save the difference: GainOf is what the parts cost less the price, and all of it at the price 0, for every code. Conditions: none. -/
import Derived.Test.YtomapdedajdkkaaCU
import Derived.Test.YtomapdedajdkkaaCV
import Derived.Test.YtomapdedajdkkaaBE
import Derived.Lib.MinMax
import Derived.Test.YtomapdedajdkkaaOpen
import Derived.Test.YtomapdedajdkkaaHead
namespace Go.Proofs.Ytomapdedajdkkaa
open Go.RowKit

set_option maxHeartbeats 4000000 in
theorem lawGainOf (z : List Int) (v : Value) (w : World) (hv : Rd w 1 v z.length (z.map (Value.int .u8)) ∧ ∀ x ∈ z, 0 ≤ x ∧ x ≤ 255) :
    Calls Try.prog 7 #[v] w fun e w' => e = .returned (.bool true) ∧ Below w.heap.size w w' := by
  have hm := hv.1.len
  unfold maxLen at hm
  obtain ⟨_, ao, cap, rfl, _⟩ := hv.1
  have HV := Lib.hid hv
  clear hv
  by_cases hn : 1048576 < z.length
  · go_enter Try.func7, Try.ntmps7
    go_wp2
    go_ret
    exact ⟨rfl, Below.refl _ _⟩
  · go_enter Try.func7, Try.ntmps7
    go_wp2_with fail
    refine (drawGainOf_any z _ _ HV.out.1 HV.out.2).mono ?_
    rintro e w1 ⟨s, sv, l, lv, p, rfl, hs, hs10, hl, hl10, hb1⟩
    obtain ⟨lo, lcap, rfl, _⟩ := hl.pairs
    have hq : Below w1.heap.size w1 (w1.alloc (.cells #[.slice lo l.length lcap, .int .i64 p] 49)) := (Below.refl _ _).alloc (Nat.le_refl _) _
    have c0 : (w1.alloc (.cells #[.slice lo l.length lcap, .int .i64 p] 49)).cell? ⟨w1.heap.size, 0, none⟩ = some (.slice lo l.length lcap) := cell_of_row _ _ _ _ _ _ (heap_alloc_new w1 _)
    have c1 : (w1.alloc (.cells #[.slice lo l.length lcap, .int .i64 p] 49)).cell? ⟨w1.heap.size, 1, none⟩ = some (.int .i64 p) := cell_of_row _ _ _ _ _ _ (heap_alloc_new w1 _)
    have zw2 : w1.heap.size < (w1.alloc (.cells #[.slice lo l.length lcap, .int .i64 p] 49)).heap.size := by simp
    have Bw2 := hb1.trans (hq.mono hb1.size)
    have Aw2 := Lib.hid (hs.below hq (Nat.le_refl _))
    have Lw2 := Lib.hid (hl.below hq (Nat.le_refl _))
    obtain ⟨G, hG⟩ : ∃ G, G = fGain s l p := ⟨_, rfl⟩
    have HG := Lib.hid hG
    have hgb := gain_bd (s := s) (c := l) (p := p)
    rw [← hG] at hgb
    obtain ⟨hgb1, hgb2⟩ := hgb
    have hne : (G != G) = false := by simp
    clear hs hl hb1 hq hG
    go_wp2_with fail
    refine (implGain_any s _ l _ p _ Aw2.out Lw2.out).mono ?_
    rintro e w3 ⟨rfl, hb⟩
    rw [← HG.out]
    have Bw3 := Bw2.trans (hb.mono Bw2.size)
    have Aw3 := Lib.hid (Aw2.out.below hb (Nat.le_refl _))
    have Lw3 := Lib.hid (Lw2.out.below hb (Nat.le_refl _))
    have c0_ := (hb.cell (p := ⟨w1.heap.size, 0, none⟩) zw2).trans c0
    have c1_ := (hb.cell (p := ⟨w1.heap.size, 1, none⟩) zw2).trans c1
    have zw3 : w1.heap.size < w3.heap.size := Nat.lt_of_lt_of_le zw2 hb.size
    clear hb Aw2 Lw2 Bw2 c0 c1 zw2
    have c0 := c0_
    have c1 := c1_
    clear c0_ c1_
    go_wp2_with fail
    refine (specGain_any s _ l _ p _ Aw3.out Lw3.out).mono ?_
    rintro e w4 ⟨rfl, hb⟩
    rw [← HG.out]
    have Bw4 := Bw3.trans (hb.mono Bw3.size)
    have Aw4 := Lib.hid (Aw3.out.below hb (Nat.le_refl _))
    have Lw4 := Lib.hid (Lw3.out.below hb (Nat.le_refl _))
    have c0_ := (hb.cell (p := ⟨w1.heap.size, 0, none⟩) zw3).trans c0
    have c1_ := (hb.cell (p := ⟨w1.heap.size, 1, none⟩) zw3).trans c1
    have zw4 : w1.heap.size < w4.heap.size := Nat.lt_of_lt_of_le zw3 hb.size
    clear hb Aw3 Lw3 Bw3 c0 c1 zw3
    have c0 := c0_
    have c1 := c1_
    clear c0_ c1_
    by_cases hp : G < 0
    · go_wp2_with fail
      refine (specGain_any s _ l _ p _ Aw4.out Lw4.out).mono ?_
      rintro e w5 ⟨rfl, hb⟩
      rw [← HG.out]
      go_wp2
      go_ret
      exact ⟨ret_b (by simp), Bw4.trans (hb.mono Bw4.size)⟩
    · have hok : bOk s l p = true := by
        cases h : bOk s l p
        · have := fGain_no h; rw [← HG.out] at this; omega
        · rfl
      obtain ⟨h1, h2, h3, h4⟩ := bOk_pr hok
      have h0 := bOk_mk (p := 0) h1 h2 ⟨by omega, by omega⟩
      have hT := fTot_yes h1
      have hTb := fTot_bd s l
      have hT0 := totK_bd h1 l.length (Nat.le_refl _)
      have hg1 := fGain_yes hok
      have hg2 := fGain_yes h0
      rw [← HG.out] at hg1
      obtain ⟨T, hTT⟩ : ∃ T, T = totK s l l.length := ⟨_, rfl⟩
      rw [← hTT] at hT hg1 hg2 hT0
      rw [hT] at hTb
      have HT := Lib.hid hT
      have hg3 : fGain s l 0 = T := by rw [hg2]; omega
      have HG3 := Lib.hid hg3
      have e1 : IntKind.i64.wrap (T - p) = T - p := IntWalk.i64_in _ (by omega)
      have e2 : (G == max 0 (T - p)) = true := by rw [hg1]; simp
      have e3 : (T == T) = true := by simp
      clear hok h1 h2 h0 hT hg2 hg3 hTT hg1 hT0 hTb
      go_wp2_with fail
      refine (implTotal_any s _ l _ _ Aw4.out Lw4.out).mono ?_
      rintro e w5 ⟨rfl, hb⟩
      rw [HT.out]
      have Bw5 := Bw4.trans (hb.mono Bw4.size)
      have Aw5 := Lib.hid (Aw4.out.below hb (Nat.le_refl _))
      have Lw5 := Lib.hid (Lw4.out.below hb (Nat.le_refl _))
      have c0_ := (hb.cell (p := ⟨w1.heap.size, 0, none⟩) zw4).trans c0
      have c1_ := (hb.cell (p := ⟨w1.heap.size, 1, none⟩) zw4).trans c1
      have zw5 : w1.heap.size < w5.heap.size := Nat.lt_of_lt_of_le zw4 hb.size
      clear hb Aw4 Lw4 Bw4 c0 c1 zw4
      have c0 := c0_
      have c1 := c1_
      clear c0_ c1_
      go_wp2_with fail
      refine (implGain_any s _ l _ 0 _ Aw5.out Lw5.out).mono ?_
      rintro e w6 ⟨rfl, hb⟩
      rw [HG3.out]
      go_wp2
      go_ret
      exact ⟨ret_b (by simp), Bw5.trans (hb.mono Bw5.size)⟩

open Go.ChangeShapes Go.WideShapes Go.ChangeAt

theorem lawOwn : ownKnob Try.prog.godebug = none := by kernel_rfl
theorem lawOut : laidOutB Try.prog = true := by kernel_rfl

set_option linter.unusedVariables false in
set_option maxRecDepth 100000 in
theorem liftedGainOf (os : Os) (started : os.Started) (H : Type) (enc : TypeId × Value → H) :
    ReturnsInHanded {} Try.checked os 7 .any (Rows.fnGainOfSpec.pre6 enc Try.prog Try.f7 Rows.fnGainOfRow.domain false) (Rows.fnGainOfSpec.post enc Try.prog Try.f7 false true false false) := by
  refine returnsInHanded_of_change (C := Try.checked) lawOwn started (by kernel_rfl) Try.func7
    (ChangeSpec.witness6 (enc := enc) (C := Try.checked) false ⟨#[], #[.slice none 0 0], []⟩ 8 (by kernel_rfl) (by kernel_rfl) (by kernel_rfl) (by kernel_rfl)) ?_
  intro W base args ds gs before hval0 hW hcnd _
  have hval : ∀ (j : Nat) t v, Try.f7.params[j]? = some t → args[j]? = some v → Value.okWide Try.prog W .any base t v := hval0
  have hW' := hW
  obtain ⟨p, q, hA0, hV, rfl, hfz, hnd⟩ := hW
  have hA : DataW.TrodAll enc Try.prog W 0 (fun _ => true) true Try.f7.params.toList args.toList ds p := hA0
  rw [Try.params7] at hA hval
  obtain ⟨v0, vs0, d0, ds0, p0, q0, hargs, rfl, rfl, h0, r0⟩ := trodAll_cons hA
  obtain ⟨rfl, rfl, rfl⟩ := trodAll_nil r0
  obtain rfl : args = #[v0] := by cases args; simp_all
  obtain ⟨rfl, rfl⟩ := trodVars_none hV
  have k0 := h0
  have lt0 : ∀ x ∈ p0, x.block < W.heap.size := by obtain ⟨m, hm⟩ := k0; exact DataW.trod_lt m _ _ _ hm
  clear hA0 hval0
  obtain ⟨z0, w0⟩ : ∃ z : List Int, Rd W 1 v0 z.length (z.map (Value.int .u8)) ∧ ∀ x ∈ z, 0 ≤ x ∧ x ≤ 255 := by
    obtain ⟨a0, n0, c0, rfl⟩ := okWide_slice Try.underlying22 (hval 0 22 v0 rfl rfl)
    obtain ⟨fuel, hf⟩ := h0
    exact open_bytes Try.underlying22 Try.underlying5 (by kernel_rfl) hf
  refine (lawGainOf z0 v0 W w0).mono fun e W' ⟨he, bel⟩ => ?_
  subst he
  exact ⟨_, rfl, _, _, _, [], _, [], hW', trodAll_mk1 (shut_bool Try.underlying4 _), (trodAll_cons_mk (Below.trod lawOut (by kernel_rfl) (of_decide_eq_true (by kernel_rfl)) k0 bel lt0) trodAll_mk0), rfl, bel.frame _, fun h => by cases h⟩

theorem closedGainOf : joinedFacts Try.pinned.checked.prog 7 Try.f7 Rows.fnGainOfSpec Rows.fnGainOfRow = true := by
  unfold joinedFacts
  rw [headEnters, headMake, headFinal]
  kernel_rfl

theorem holdsGainOf : Rows.FnGainOfSaid :=
  OpenClaim.holds_of_wide 7 Try.f7 rfl rfl rfl rfl rfl rfl rfl ⟨rfl, rfl, rfl, rfl, rfl⟩ rfl rfl rfl rfl rfl (by kernel_rfl) Try.func7 closedGainOf
    (of_decide_eq_true (by kernel_rfl)) (by unfold Func.isWrapper; first | (rw [if_pos (by decide +kernel)]; kernel_rfl) | (rw [if_neg (by decide +kernel)]; exact ⟨rfl, rfl⟩))
    (fun os started H enc _ => liftedGainOf os started H enc)

#print axioms holdsGainOf

end Go.Proofs.Ytomapdedajdkkaa
