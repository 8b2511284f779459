/- The program's GainOf returns what the reference's returns, for all arguments. Conditions: none. -/
import Derived.Test.YtomapdedajdkkabCV
import Derived.Test.YtomapdedajdkkabCX
import Derived.Test.YtomapdedajdkkabCQ
import Derived.Deep.RegionHeld3
import Derived.Test.YtomapdedajdkkabOpenB
import Derived.Test.YtomapdedajdkkabHead
namespace Go.Proofs.Ytomapdedajdkkab
open Go.RowKit

set_option maxHeartbeats 8000000 in
theorem lawExactGainOf (s : List Art) (u : Value) (c : List (Int × Int)) (v : Value) (p : Int) (w : World) (hs : Rd w 4 u s.length (ar s)) (hv : Rd w 2 v c.length (pr c)) :
    Calls Try.prog 3 #[u, .agg #[v, .int .i64 p]] w fun e w' => e = .returned (.bool true) ∧ Below w.heap.size w w' := by
  have hm := hs.len
  have hm2 := hv.len
  unfold maxLen at hm hm2
  obtain ⟨ao, cap, rfl, _⟩ := hs.arts
  obtain ⟨bo, cap2, rfl, _⟩ := hv.pairs
  have b0 : Below w.heap.size w (w.alloc (.cells #[.slice bo c.length cap2, .int .i64 p] 25)) := (Below.refl _ _).alloc (Nat.le_refl _) _
  have q0 : (w.alloc (.cells #[.slice bo c.length cap2, .int .i64 p] 25)).cell? ⟨w.heap.size, 0, none⟩ = some (.slice bo c.length cap2) := cell_of_row _ _ _ _ _ _ (heap_alloc_new w _)
  have q1 : (w.alloc (.cells #[.slice bo c.length cap2, .int .i64 p] 25)).cell? ⟨w.heap.size, 1, none⟩ = some (.int .i64 p) := cell_of_row _ _ _ _ _ _ (heap_alloc_new w _)
  have zb : w.heap.size < (w.alloc (.cells #[.slice bo c.length cap2, .int .i64 p] 25)).heap.size := by simp
  have HV := Lib.hid (hv.below b0 (Nat.le_refl _))
  have HS := Lib.hid (hs.below b0 (Nat.le_refl _))
  have hne : (fGain s c p != fGain s c p) = false := by simp
  clear hv hs
  by_cases hn : s.length ≤ 1048576
  · have hsz : Hid (szL 1048576 s.length = 1048576 - s.length) := by rw [Hid, szL, if_neg (by omega)]
    by_cases hc0 : c.length ≤ 1048576 - s.length
    · have hsz2 : Hid (szL (1048576 - s.length) c.length = 1048576 - s.length - c.length) := by rw [Hid, szL, if_neg (by omega)]
      have hc : c.length ≤ 1048576 := by omega
      go_enter Try.func3, Try.ntmps3
      go_wp2_with fail
      refine (szArticleS_any _ _ _ _ _ (by omega) (by omega) (by omega)).mono ?_
      rintro e w0 ⟨rfl, rfl⟩
      rw [hsz.out]
      go_wp2_with fail
      refine (szBundle_any _ _ _ _ _ _ (by omega) (by omega) (by omega)).mono ?_
      rintro e w0 ⟨rfl, B0⟩
      rw [hsz2.out]
      go_wp2_with fail
      have g0 := (B0.cell (p := ⟨w.heap.size, 0, none⟩) zb).trans q0
      have g1 := (B0.cell (p := ⟨w.heap.size, 1, none⟩) zb).trans q1
      go_region_held3 (fun w' => w'.cell? ⟨w.heap.size, 0, none⟩ = some (.slice bo c.length cap2) ∧ w'.cell? ⟨w.heap.size, 1, none⟩ = some (.int .i64 p) ∧ Below (w.alloc (.cells #[.slice bo c.length cap2, .int .i64 p] 25)).heap.size (w.alloc (.cells #[.slice bo c.length cap2, .int .i64 p] 25)) w')
        (first
          | exact ⟨(bb.cell (p := ⟨w.heap.size, 0, none⟩) zb).trans q0, (bb.cell (p := ⟨w.heap.size, 1, none⟩) zb).trans q1, bb⟩
          | exact ⟨g0, g1, B0.drew⟩
          | (go_keep; done))
        ((first
          | (go_at_call 15; (with_reducible refine (toArticleS_any s _ _ (HS.out.below B0.drew (Nat.le_refl _)) hn).mono ?_); rintro e w1 ⟨vs, rfl, ho1, hb1⟩; have bb := B0.drew.trans (hb1.mono B0.drew.size))
          | (go_at_call 16; (with_reducible refine (toBundle_any c _ p _ (HV.out.below bb (Nat.le_refl _)) hc).mono ?_); rintro e w2 ⟨vb, rfl, ho2, hb2⟩; have ho3 := ownsRow_below ho1 hb2 (Nat.le_refl _); have bb := bb.trans (hb2.mono bb.size))
          | (go_at_call 14; (with_reducible refine (specGain_any s _ c _ p _ (Rd.of_owns ho3) (Rd.of_owns ho2)).mono ?_); rintro e w3 ⟨rfl, hb3⟩; have bb := bb.trans (hb3.mono bb.size))))
      clear g0 g1
      have g0 := (bb.cell (p := ⟨w.heap.size, 0, none⟩) zb).trans q0
      have g1 := (bb.cell (p := ⟨w.heap.size, 1, none⟩) zb).trans q1
      go_wp2_with fail
      refine (toArticleS_any s _ _ (HS.out.below bb (Nat.le_refl _)) hn).mono ?_
      rintro e w4 ⟨v_x0, rfl, ho, hb⟩
      have B4 := bb.trans (hb.mono bb.size)
      have Z4 := hb.size
      have x0_4 := Lib.hid ho
      have L_x0 := Lib.hid (fun k hk => ho.lt k hk)
      clear ho hb bb
      clear g0 g1
      have g0 := (B4.cell (p := ⟨w.heap.size, 0, none⟩) zb).trans q0
      have g1 := (B4.cell (p := ⟨w.heap.size, 1, none⟩) zb).trans q1
      go_wp2_with fail
      refine (toBundle_any c _ p _ (HV.out.below B4 (Nat.le_refl _)) hc).mono ?_
      rintro e w5 ⟨v_x1, rfl, ho, hb⟩
      obtain ⟨xo, xcap, rfl, _⟩ := (Rd.of_owns ho).pairs
      have x0_5 := Lib.hid (ownsRow_below x0_4.out hb (Nat.le_refl _))
      have B5 := B4.trans (hb.mono B4.size)
      have Z5 := hb.size
      have x1_5 := Lib.hid ho
      have L_x1 := Lib.hid (fun k hk => ho.lt k hk)
      clear ho hb x0_4 B4
      have g0 := (B5.cell (p := ⟨w.heap.size, 0, none⟩) zb).trans q0
      have g1 := (B5.cell (p := ⟨w.heap.size, 1, none⟩) zb).trans q1
      have hb : Below w5.heap.size w5 (w5.alloc (.cells #[.slice xo c.length xcap, .int .i64 p] 33)) := (Below.refl _ _).alloc (Nat.le_refl _) _
      have r0 : (w5.alloc (.cells #[.slice xo c.length xcap, .int .i64 p] 33)).cell? ⟨w5.heap.size, 0, none⟩ = some (.slice xo c.length xcap) := cell_of_row _ _ _ _ _ _ (heap_alloc_new w5 _)
      have r1 : (w5.alloc (.cells #[.slice xo c.length xcap, .int .i64 p] 33)).cell? ⟨w5.heap.size, 1, none⟩ = some (.int .i64 p) := cell_of_row _ _ _ _ _ _ (heap_alloc_new w5 _)
      have zx : w5.heap.size < (w5.alloc (.cells #[.slice xo c.length xcap, .int .i64 p] 33)).heap.size := by simp
      have x0_6 := Lib.hid (ownsRow_below x0_5.out hb (Nat.le_refl _))
      have x1_6 := Lib.hid (ownsRow_below x1_5.out hb (Nat.le_refl _))
      have B6 := B5.trans (hb.mono B5.size)
      have Z6 := hb.size
      clear hb x0_5 x1_5 B5
      have g0 := (B6.cell (p := ⟨w.heap.size, 0, none⟩) zb).trans q0
      have g1 := (B6.cell (p := ⟨w.heap.size, 1, none⟩) zb).trans q1
      go_wp2_with fail
      refine (implGain_any s _ c _ p _ (Rd.of_owns x0_6.out) (Rd.of_owns x1_6.out)).mono ?_
      rintro e w7 ⟨rfl, hb⟩
      have bx := hb
      have x0_7 := Lib.hid (ownsRow_below x0_6.out hb (Nat.le_refl _))
      have x1_7 := Lib.hid (ownsRow_below x1_6.out hb (Nat.le_refl _))
      have B7 := B6.trans (hb.mono B6.size)
      have Z7 := hb.size
      clear hb x0_6 x1_6 B6
      clear g0 g1
      have g0 := (B7.cell (p := ⟨w.heap.size, 0, none⟩) zb).trans q0
      have g1 := (B7.cell (p := ⟨w.heap.size, 1, none⟩) zb).trans q1
      go_wp2_with fail
      refine (toArticleS_any s _ _ (HS.out.below B7 (Nat.le_refl _)) hn).mono ?_
      rintro e w8 ⟨v_t0, rfl, ho, hb⟩
      have bx := bx.trans (hb.mono bx.size)
      have x0_8 := Lib.hid (ownsRow_below x0_7.out hb (Nat.le_refl _))
      have x1_8 := Lib.hid (ownsRow_below x1_7.out hb (Nat.le_refl _))
      have B8 := B7.trans (hb.mono B7.size)
      have Z8 := hb.size
      have t0_8 := Lib.hid ho
      have L_t0 := Lib.hid (fun k hk => ho.lt k hk)
      clear ho hb x0_7 x1_7 B7
      clear g0 g1
      have g0 := (B8.cell (p := ⟨w.heap.size, 0, none⟩) zb).trans q0
      have g1 := (B8.cell (p := ⟨w.heap.size, 1, none⟩) zb).trans q1
      go_wp2_with fail
      refine (eqArticleS_any _ _ _ _ _ (Rd.of_owns x0_8.out) (Rd.of_owns t0_8.out)).mono ?_
      rintro e w9 ⟨rfl, hb⟩
      rw [show decide (s = s) = true by simp]; have bx := bx.trans (hb.mono bx.size)
      have x0_9 := Lib.hid (ownsRow_below x0_8.out hb (Nat.le_refl _))
      have x1_9 := Lib.hid (ownsRow_below x1_8.out hb (Nat.le_refl _))
      have t0_9 := Lib.hid (ownsRow_below t0_8.out hb (Nat.le_refl _))
      have B9 := B8.trans (hb.mono B8.size)
      have Z9 := hb.size
      clear hb x0_8 x1_8 t0_8 B8
      clear g0 g1
      have g0 := (B9.cell (p := ⟨w.heap.size, 0, none⟩) zb).trans q0
      have g1 := (B9.cell (p := ⟨w.heap.size, 1, none⟩) zb).trans q1
      go_wp2_with fail
      have g0 := (B9.cell (p := ⟨w.heap.size, 0, none⟩) zb).trans q0
      have g1 := (B9.cell (p := ⟨w.heap.size, 1, none⟩) zb).trans q1
      have c0 := (bx.cell (p := ⟨w5.heap.size, 0, none⟩) zx).trans r0
      have c1 := (bx.cell (p := ⟨w5.heap.size, 1, none⟩) zx).trans r1
      have zA : w.heap.size < w9.drew.heap.size := Nat.lt_of_lt_of_le zb B9.size
      have zX : w5.heap.size < w9.drew.heap.size := Nat.lt_of_lt_of_le zx bx.size
      have BD := B9.drew
      have OX := Lib.hid (x1_9.out.drew)
      go_region_held3 (fun w' => w'.cell? ⟨w.heap.size, 0, none⟩ = some (.slice bo c.length cap2) ∧ w'.cell? ⟨w.heap.size, 1, none⟩ = some (.int .i64 p) ∧ w'.cell? ⟨w5.heap.size, 0, none⟩ = some (.slice xo c.length xcap) ∧ w'.cell? ⟨w5.heap.size, 1, none⟩ = some (.int .i64 p))
        (first
          | exact ⟨(cb.cell (p := ⟨w.heap.size, 0, none⟩) zA).trans g0, (cb.cell (p := ⟨w.heap.size, 1, none⟩) zA).trans g1, (cb.cell (p := ⟨w5.heap.size, 0, none⟩) zX).trans c0, (cb.cell (p := ⟨w5.heap.size, 1, none⟩) zX).trans c1⟩
          | exact ⟨g0, g1, c0, c1⟩
          | (go_keep; done))
        ((first
          | (go_at_call 16; (with_reducible refine (toBundle_any c _ p _ (HV.out.below BD (Nat.le_refl _)) hc).mono ?_); rintro e wa ⟨vt, rfl, hot, cb⟩)
          | (go_at_call 19; (with_reducible refine (eqBundle_any c _ _ p _ (Rd.of_owns (ownsRow_below OX.out cb (Nat.le_refl _))) (Rd.of_owns hot)).mono ?_); rintro e wb ⟨rfl, hbb⟩; have cb := cb.trans (hbb.mono cb.size))))
      go_wp2
      go_ret
      exact ⟨rfl, b0.trans ((BD.trans (cb.mono BD.size)).mono b0.size)⟩
    · have hsz2 : Hid (szL (1048576 - s.length) c.length = -1) := by rw [Hid, szL, if_pos (by omega)]
      go_enter Try.func3, Try.ntmps3
      go_wp2_with fail
      refine (szArticleS_any _ _ _ _ _ (by omega) (by omega) (by omega)).mono ?_
      rintro e w0 ⟨rfl, rfl⟩
      rw [hsz.out]
      go_wp2_with fail
      refine (szBundle_any _ _ _ _ _ _ (by omega) (by omega) (by omega)).mono ?_
      rintro e w0 ⟨rfl, B0⟩
      rw [hsz2.out]
      go_wp2
      go_ret
      exact ⟨rfl, b0.trans (B0.mono b0.size)⟩
  · have hsz : Hid (szL 1048576 s.length = -1) := by rw [Hid, szL, if_pos (by omega)]
    go_enter Try.func3, Try.ntmps3
    go_wp2_with fail
    refine (szArticleS_any _ _ _ _ _ (by omega) (by omega) (by omega)).mono ?_
    rintro e w0 ⟨rfl, rfl⟩
    rw [hsz.out]
    go_wp2
    go_ret
    exact ⟨rfl, b0⟩

open Go.ChangeShapes Go.WideShapes Go.ChangeAt

theorem lawOwn : ownKnob Try.prog.godebug = none := by kernel_rfl
theorem lawOut : laidOutB Try.prog = true := by kernel_rfl

set_option linter.unusedVariables false in
set_option maxRecDepth 100000 in
theorem liftedExactGainOf (os : Os) (started : os.Started) (H : Type) (enc : TypeId × Value → H) :
    ReturnsInHanded {} Try.checked os 3 .any (Rows.fnExactGainOfSpec.pre6 enc Try.prog Try.f3 Rows.fnExactGainOfRow.domain false) (Rows.fnExactGainOfSpec.post enc Try.prog Try.f3 false true false false) := by
  refine returnsInHanded_of_change (C := Try.checked) lawOwn started (by kernel_rfl) Try.func3
    (ChangeSpec.witness6 (enc := enc) (C := Try.checked) false ⟨#[], #[.slice none 0 0, .agg #[.slice none 0 0, .int .i64 0]], []⟩ 8 (by kernel_rfl) (by kernel_rfl) (by kernel_rfl) (by kernel_rfl)) ?_
  intro W base args ds gs before hval0 hW hcnd _
  have hval : ∀ (j : Nat) t v, Try.f3.params[j]? = some t → args[j]? = some v → Value.okWide Try.prog W .any base t v := hval0
  have hW' := hW
  obtain ⟨p, q, hA0, hV, rfl, hfz, hnd⟩ := hW
  have hA : DataW.TrodAll enc Try.prog W 0 (fun _ => true) true Try.f3.params.toList args.toList ds p := hA0
  rw [Try.params3] at hA hval
  obtain ⟨v0, vs0, d0, ds0, p0, q0, hargs, rfl, rfl, h0, r0⟩ := trodAll_cons hA
  obtain ⟨v1, vs1, d1, ds1, p1, q1, rfl, rfl, rfl, h1, r1⟩ := trodAll_cons r0
  obtain ⟨rfl, rfl, rfl⟩ := trodAll_nil r1
  obtain rfl : args = #[v0, v1] := by cases args; simp_all
  obtain ⟨rfl, rfl⟩ := trodVars_none hV
  have k0 := h0
  have lt0 : ∀ x ∈ p0, x.block < W.heap.size := by obtain ⟨m, hm⟩ := k0; exact DataW.trod_lt m _ _ _ hm
  have k1 := h1
  have lt1 : ∀ x ∈ p1, x.block < W.heap.size := by obtain ⟨m, hm⟩ := k1; exact DataW.trod_lt m _ _ _ hm
  clear hA0 hval0
  obtain ⟨z0, w0⟩ : ∃ z : List Art, Rd W 4 v0 z.length (ar z) := by
    obtain ⟨a0, n0, c0, rfl⟩ := okWide_slice Try.underlying22 (hval 0 22 v0 rfl rfl)
    obtain ⟨fuel, hf⟩ := h0
    exact open_arts Try.underlying22 Try.underlying77 (by kernel_rfl) rfl rfl rfl rfl (by kernel_rfl) (by kernel_rfl) (by kernel_rfl) (by kernel_rfl) Try.underlying3 Try.underlying3 Try.underlying3 Try.underlying3 hf
  obtain ⟨z1, a1, y1, rfl, w1⟩ : ∃ (z : List (Int × Int)) (a : Value) (q : Int), v1 = .agg #[a, .int .i64 q] ∧ Rd W 2 a z.length (pr z) := by
    obtain ⟨cs, rfl, hcs⟩ := okWide_struct Try.underlying25 (hval 1 25 v1 rfl rfl)
    rw [show Try.prog.cellsOf 25 = 2 from (by kernel_rfl)] at hcs
    obtain ⟨l⟩ := cs
    rcases l with _ | ⟨a, _ | ⟨b, _ | ⟨b2, l2⟩⟩⟩
    · simp at hcs
    · simp at hcs
    · obtain ⟨fuel, hf⟩ := h1
      obtain ⟨z, q, h1, h2, _⟩ := open_bundle Try.underlying25 rfl rfl (by kernel_rfl) (by kernel_rfl) Try.underlying23 Try.underlying3 Try.underlying93 (by kernel_rfl) rfl rfl (by kernel_rfl) (by kernel_rfl) Try.underlying3 Try.underlying3 hf
      subst h2
      exact ⟨z, a, q, rfl, h1⟩
    · simp at hcs
  refine (lawExactGainOf z0 v0 z1 a1 y1 W w0 w1).mono fun e W' ⟨he, bel⟩ => ?_
  subst he
  exact ⟨_, rfl, _, _, _, [], _, [], hW', trodAll_mk1 (shut_bool Try.underlying4 _), (trodAll_cons_mk (Below.trod lawOut (by kernel_rfl) (of_decide_eq_true (by kernel_rfl)) k0 bel lt0) (trodAll_cons_mk (Below.trod lawOut (by kernel_rfl) (of_decide_eq_true (by kernel_rfl)) k1 bel lt1) trodAll_mk0)), rfl, bel.frame _, fun h => by cases h⟩

theorem closedExactGainOf : joinedFacts Try.pinned.checked.prog 3 Try.f3 Rows.fnExactGainOfSpec Rows.fnExactGainOfRow = true := by
  unfold joinedFacts
  rw [headEnters, headMake, headFinal]
  kernel_rfl

theorem holdsExactGainOf : Rows.FnExactGainOfSaid :=
  OpenClaim.holds_of_wide 3 Try.f3 rfl rfl rfl rfl rfl rfl rfl ⟨rfl, rfl, rfl, rfl, rfl⟩ rfl rfl rfl rfl rfl (by kernel_rfl) Try.func3 closedExactGainOf
    (of_decide_eq_true (by kernel_rfl)) (by unfold Func.isWrapper; first | (rw [if_pos (by decide +kernel)]; kernel_rfl) | (rw [if_neg (by decide +kernel)]; exact ⟨rfl, rfl⟩))
    (fun os started H enc _ => liftedExactGainOf os started H enc)

#print axioms holdsExactGainOf

end Go.Proofs.Ytomapdedajdkkab
