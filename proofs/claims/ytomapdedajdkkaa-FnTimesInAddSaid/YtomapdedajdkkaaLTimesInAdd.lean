/- More pieces are more bundles: TimesIn does not fall if a piece is added, and a bundle is once in its own parts, for every code. Conditions: none. -/
import Derived.Test.YtomapdedajdkkaaTI
import Derived.Test.YtomapdedajdkkaaCD
import Derived.Test.YtomapdedajdkkaaTaFns
import Derived.Test.YtomapdedajdkkaaBF
import Derived.Test.YtomapdedajdkkaaOpen
import Derived.Test.YtomapdedajdkkaaHead
namespace Go.Proofs.Ytomapdedajdkkaa
open Go.RowKit

set_option maxHeartbeats 8000000 in
set_option maxRecDepth 100000 in
theorem lawTimesInAdd (z : List Int) (v : Value) (w : World) (hv : Rd w 1 v z.length (z.map (Value.int .u8)) ∧ ∀ x ∈ z, 0 ≤ x ∧ x ≤ 255) :
    Calls Try.prog 11 #[v] w fun e w' => e = .returned (.bool true) ∧ Below w.heap.size w w' := by
  have hm := hv.1.len
  unfold maxLen at hm
  obtain ⟨_, ao, cap, rfl, _⟩ := hv.1
  have HV := Lib.hid hv
  clear hv
  by_cases hn : 1048576 < z.length
  · go_enter Try.func11, Try.ntmps11
    go_wp2
    go_ret
    exact ⟨rfl, Below.refl _ _⟩
  · go_enter Try.func11, Try.ntmps11
    go_wp2_with fail
    refine (drawTimesIn_any z _ _ HV.out.1 HV.out.2).mono ?_
    rintro e w1 ⟨s, sv, c, cv, l, lv, p, rfl, hs, hs10, hc, hc9, hl, hl10, hb1⟩
    obtain ⟨lo, lcap, rfl, _⟩ := hl.pairs
    obtain ⟨co, ccap, rfl, _⟩ := hc.pairs
    obtain ⟨so, scap, rfl, _⟩ := hs.arts
    have hq : Below w1.heap.size w1 (w1.alloc (.cells #[.slice lo l.length lcap, .int .i64 p] 49)) := (Below.refl _ _).alloc (Nat.le_refl _) _
    have c0 : (w1.alloc (.cells #[.slice lo l.length lcap, .int .i64 p] 49)).cell? ⟨w1.heap.size, 0, none⟩ = some (.slice lo l.length lcap) := cell_of_row _ _ _ _ _ _ (heap_alloc_new w1 _)
    have c1 : (w1.alloc (.cells #[.slice lo l.length lcap, .int .i64 p] 49)).cell? ⟨w1.heap.size, 1, none⟩ = some (.int .i64 p) := cell_of_row _ _ _ _ _ _ (heap_alloc_new w1 _)
    have zw2 : w1.heap.size < (w1.alloc (.cells #[.slice lo l.length lcap, .int .i64 p] 49)).heap.size := by simp
    have Bw2 := hb1.trans (hq.mono hb1.size)
    have Aw2 := Lib.hid (hs.below hq (Nat.le_refl _))
    have Lw2 := Lib.hid (hl.below hq (Nat.le_refl _))
    have Cw2 := Lib.hid (hc.below hq (Nat.le_refl _))
    obtain ⟨G, hG⟩ : ∃ G, G = fTimes s c l p := ⟨_, rfl⟩
    have HG := Lib.hid hG
    have hne : (G != G) = false := by simp
    clear hs hl hc hb1 hq hG
    go_wp2_with fail
    refine (implTimesIn_any s _ c _ l _ p _ Aw2.out Cw2.out Lw2.out).mono ?_
    rintro e w3 ⟨rfl, hb⟩
    rw [← HG.out]
    have Bw3 := Bw2.trans (hb.mono Bw2.size)
    have Aw3 := Lib.hid (Aw2.out.below hb (Nat.le_refl _))
    have Lw3 := Lib.hid (Lw2.out.below hb (Nat.le_refl _))
    have Cw3 := Lib.hid (Cw2.out.below hb (Nat.le_refl _))
    have c0_ := (hb.cell (p := ⟨w1.heap.size, 0, none⟩) zw2).trans c0
    have c1_ := (hb.cell (p := ⟨w1.heap.size, 1, none⟩) zw2).trans c1
    have zw3 : w1.heap.size < w3.heap.size := Nat.lt_of_lt_of_le zw2 hb.size
    clear hb Aw2 Lw2 Cw2 Bw2 c0 c1 zw2
    have c0 := c0_
    have c1 := c1_
    clear c0_ c1_
    go_wp2_with fail
    refine (specTimesIn_any s _ c _ l _ p _ Aw3.out Cw3.out Lw3.out).mono ?_
    rintro e w4 ⟨rfl, hb⟩
    rw [← HG.out]
    have Bw4 := Bw3.trans (hb.mono Bw3.size)
    have Aw4 := Lib.hid (Aw3.out.below hb (Nat.le_refl _))
    have Lw4 := Lib.hid (Lw3.out.below hb (Nat.le_refl _))
    have Cw4 := Lib.hid (Cw3.out.below hb (Nat.le_refl _))
    have c0_ := (hb.cell (p := ⟨w1.heap.size, 0, none⟩) zw3).trans c0
    have c1_ := (hb.cell (p := ⟨w1.heap.size, 1, none⟩) zw3).trans c1
    have zw4 : w1.heap.size < w4.heap.size := Nat.lt_of_lt_of_le zw3 hb.size
    clear hb Aw3 Lw3 Cw3 Bw3 c0 c1 zw3
    have c0 := c0_
    have c1 := c1_
    clear c0_ c1_
    by_cases hp : G < 0
    · go_wp2_with fail
      refine (specTimesIn_any s _ c _ l _ p _ Aw4.out Cw4.out Lw4.out).mono ?_
      rintro e w5 ⟨rfl, hb⟩
      rw [← HG.out]
      go_wp2
      go_ret
      exact ⟨ret_b (by simp), Bw4.trans (hb.mono Bw4.size)⟩
    · have hvc : vCart s c = true := by
        cases h : vCart s c
        · have := fTimes_c (b := l) (p := p) h; rw [← HG.out] at this; omega
        · rfl
      have hok : bOk s l p = true := by
        cases h : bOk s l p
        · have := fTimes_b (c := c) h; rw [← HG.out] at this; omega
        · rfl
      obtain ⟨hvl, hl0, hp1, hp2⟩ := bOk_pr hok
      have hgt : G = tmC s c l := by rw [HG.out, fTimes_y hvc hok]; rfl
      have hgb := tmC_bd hvc hvl
      rw [← hgt] at hgb
      obtain ⟨hgb1, hgb2⟩ := hgb
      have HVL := Lib.hid hvl
      have HVC := Lib.hid hvc
      have HOKB := Lib.hid hok
      have HGT := Lib.hid hgt
      have more : Hid (∀ a, addOk s c a 1 = true → G ≤ fTimes s (addR s c a 1) l p) := fun a ha => by
        rw [addR_yes ha, HGT.out, fTimes_y (addOk_pr ha).2.2.2.2.2 HOKB.out]; exact tmC_add HVL.out a 1 (by omega)
      have self : Hid (fTimes s l l p = 1) := by rw [Hid, fTimes_y HVL.out HOKB.out]; exact tmC_self HVL.out hl0
      clear hvc hok hvl hgt hp hl0
      go_wp2
      go_loopw [7] (fun i_ wr => ∃ k : Nat, k ≤ s.length ∧ i_ = .int .i64 k ∧ Below w4.heap.size w4 wr) (fun i_ _ => s.length - (intOf i_).toNat)
      case atStart => exact ⟨0, Nat.zero_le _, rfl, Below.refl _ _⟩
      case round =>
        obtain ⟨k, hk, rfl, hbl⟩ := hrel
        by_cases hlt : k < s.length
        · go_wp2_with fail
          refine (implAdd_any s _ c _ (k : Int) 1 _ (Aw4.out.below hbl (Nat.le_refl _)) (Cw4.out.below hbl (Nat.le_refl _))).mono ?_
          rintro e wt ⟨tv, rfl, hot, hbt⟩
          have bb := hbl.trans (hbt.mono hbl.size)
          have g0 := (bb.cell (p := ⟨w1.heap.size, 0, none⟩) zw4).trans c0
          have g1 := (bb.cell (p := ⟨w1.heap.size, 1, none⟩) zw4).trans c1
          obtain ⟨to, tcap, rfl, _⟩ := owns_shape hot
          cases hao : addOk s c (k : Int) 1
          · go_wp2
            go_roundw
            case rel => exact ⟨k + 1, by omega, by go_num, bb⟩
            case measure => simp [intOf]; omega
          · have hM := more.out _ hao
            obtain ⟨M, hMM⟩ : ∃ M, M = fTimes s (addR s c (k : Int) 1) l p := ⟨_, rfl⟩
            rw [← hMM] at hM
            have HM := Lib.hid hMM
            clear hMM
            have hlb : decide (M < G) = false := by simp; omega
            go_wp2_with fail
            refine (implTimesIn_any s _ (addR s c (k : Int) 1) _ l _ p _ (Aw4.out.below bb (Nat.le_refl _)) (Rd.of_owns hot) (Lw4.out.below bb (Nat.le_refl _))).mono ?_
            rintro e wu ⟨rfl, hbu⟩
            rw [← HM.out]
            go_wp2
            go_roundw
            case rel => exact ⟨k + 1, by omega, by go_num, bb.trans (hbu.mono bb.size)⟩
            case measure => simp [intOf]; omega
        · have g0 := (hbl.cell (p := ⟨w1.heap.size, 0, none⟩) zw4).trans c0
          have g1 := (hbl.cell (p := ⟨w1.heap.size, 1, none⟩) zw4).trans c1
          go_wp2_with fail
          refine (implTimesIn_any s _ l _ l _ p _ (Aw4.out.below hbl (Nat.le_refl _)) (Lw4.out.below hbl (Nat.le_refl _)) (Lw4.out.below hbl (Nat.le_refl _))).mono ?_
          rintro e wu ⟨rfl, hbu⟩
          rw [self.out]
          go_wp2
          go_ret
          exact ⟨ret_b (by simp), Bw4.trans ((hbl.trans (hbu.mono hbl.size)).mono Bw4.size)⟩

open Go.ChangeShapes Go.WideShapes Go.ChangeAt

theorem lawOwn : ownKnob Try.prog.godebug = none := by kernel_rfl
theorem lawOut : laidOutB Try.prog = true := by kernel_rfl

set_option linter.unusedVariables false in
set_option maxRecDepth 100000 in
theorem liftedTimesInAdd (os : Os) (started : os.Started) (H : Type) (enc : TypeId × Value → H) :
    ReturnsInHanded {} Try.checked os 11 .any (Rows.fnTimesInAddSpec.pre6 enc Try.prog Try.f11 Rows.fnTimesInAddRow.domain false) (Rows.fnTimesInAddSpec.post enc Try.prog Try.f11 false true false false) := by
  refine returnsInHanded_of_change (C := Try.checked) lawOwn started (by kernel_rfl) Try.func11
    (ChangeSpec.witness6 (enc := enc) (C := Try.checked) false ⟨#[], #[.slice none 0 0], []⟩ 8 (by kernel_rfl) (by kernel_rfl) (by kernel_rfl) (by kernel_rfl)) ?_
  intro W base args ds gs before hval0 hW hcnd _
  have hval : ∀ (j : Nat) t v, Try.f11.params[j]? = some t → args[j]? = some v → Value.okWide Try.prog W .any base t v := hval0
  have hW' := hW
  obtain ⟨p, q, hA0, hV, rfl, hfz, hnd⟩ := hW
  have hA : DataW.TrodAll enc Try.prog W 0 (fun _ => true) true Try.f11.params.toList args.toList ds p := hA0
  rw [Try.params11] at hA hval
  obtain ⟨v0, vs0, d0, ds0, p0, q0, hargs, rfl, rfl, h0, r0⟩ := trodAll_cons hA
  obtain ⟨rfl, rfl, rfl⟩ := trodAll_nil r0
  obtain rfl : args = #[v0] := by cases args; simp_all
  obtain ⟨rfl, rfl⟩ := trodVars_none hV
  have k0 := h0
  have lt0 : ∀ x ∈ p0, x.block < W.heap.size := by obtain ⟨m, hm⟩ := k0; exact DataW.trod_lt m _ _ _ hm
  clear hA0 hval0
  obtain ⟨z0, w0⟩ : ∃ z : List Int, Rd W 1 v0 z.length (z.map (Value.int .u8)) ∧ ∀ x ∈ z, 0 ≤ x ∧ x ≤ 255 := by
    obtain ⟨a0, n0, c0, rfl⟩ := okWide_slice Try.underlying22 (hval 0 22 v0 rfl rfl)
    obtain ⟨fuel, hf⟩ := h0
    exact open_bytes Try.underlying22 Try.underlying5 (by kernel_rfl) hf
  refine (lawTimesInAdd z0 v0 W w0).mono fun e W' ⟨he, bel⟩ => ?_
  subst he
  exact ⟨_, rfl, _, _, _, [], _, [], hW', trodAll_mk1 (shut_bool Try.underlying4 _), (trodAll_cons_mk (Below.trod lawOut (by kernel_rfl) (of_decide_eq_true (by kernel_rfl)) k0 bel lt0) trodAll_mk0), rfl, bel.frame _, fun h => by cases h⟩

theorem closedTimesInAdd : joinedFacts Try.pinned.checked.prog 11 Try.f11 Rows.fnTimesInAddSpec Rows.fnTimesInAddRow = true := by
  unfold joinedFacts
  rw [headEnters, headMake, headFinal]
  kernel_rfl

theorem holdsTimesInAdd : Rows.FnTimesInAddSaid :=
  OpenClaim.holds_of_wide 11 Try.f11 rfl rfl rfl rfl rfl rfl rfl ⟨rfl, rfl, rfl, rfl, rfl⟩ rfl rfl rfl rfl rfl (by kernel_rfl) Try.func11 closedTimesInAdd
    (of_decide_eq_true (by kernel_rfl)) (by unfold Func.isWrapper; first | (rw [if_pos (by decide +kernel)]; kernel_rfl) | (rw [if_neg (by decide +kernel)]; exact ⟨rfl, rfl⟩))
    (fun os started H enc _ => liftedTimesInAdd os started H enc)

#print axioms holdsTimesInAdd

end Go.Proofs.Ytomapdedajdkkaa
