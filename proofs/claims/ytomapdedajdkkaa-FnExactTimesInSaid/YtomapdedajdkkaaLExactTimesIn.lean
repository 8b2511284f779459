/- The program's TimesIn returns what the reference's returns, for all arguments. Conditions: none. -/
import Derived.Test.YtomapdedajdkkaaTI
import Derived.Test.YtomapdedajdkkaaCX
import Derived.Test.YtomapdedajdkkaaCL
import Derived.Test.YtomapdedajdkkaaCQ
import Derived.Deep.RegionHeld3
import Derived.Test.YtomapdedajdkkaaOpenB
import Derived.Test.YtomapdedajdkkaaHead
namespace Go.Proofs.Ytomapdedajdkkaa
open Go.RowKit

set_option maxHeartbeats 8000000 in
theorem lawExactTimesIn (s : List Art) (u : Value) (c : List (Int × Int)) (k : Value) (b : List (Int × Int)) (v : Value) (p : Int) (w : World) (hs : Rd w 4 u s.length (ar s)) (hk : Rd w 2 k c.length (pr c)) (hv : Rd w 2 v b.length (pr b)) :
    Calls Try.prog 10 #[u, k, .agg #[v, .int .i64 p]] w fun e w' => e = .returned (.bool true) ∧ Below w.heap.size w w' := by
  have hm := hs.len
  have hm1 := hk.len
  have hm2 := hv.len
  unfold maxLen at hm hm1 hm2
  obtain ⟨ao, cap, rfl, _⟩ := hs.arts
  obtain ⟨ko, capk, rfl, _⟩ := hk.pairs
  obtain ⟨bo, cap2, rfl, _⟩ := hv.pairs
  have b0 : Below w.heap.size w (w.alloc (.cells #[.slice bo b.length cap2, .int .i64 p] 59)) := (Below.refl _ _).alloc (Nat.le_refl _) _
  have q0 : (w.alloc (.cells #[.slice bo b.length cap2, .int .i64 p] 59)).cell? ⟨w.heap.size, 0, none⟩ = some (.slice bo b.length cap2) := cell_of_row _ _ _ _ _ _ (heap_alloc_new w _)
  have q1 : (w.alloc (.cells #[.slice bo b.length cap2, .int .i64 p] 59)).cell? ⟨w.heap.size, 1, none⟩ = some (.int .i64 p) := cell_of_row _ _ _ _ _ _ (heap_alloc_new w _)
  have zb : w.heap.size < (w.alloc (.cells #[.slice bo b.length cap2, .int .i64 p] 59)).heap.size := by simp
  have HV := Lib.hid (hv.below b0 (Nat.le_refl _))
  have HC := Lib.hid (hk.below b0 (Nat.le_refl _))
  have HS := Lib.hid (hs.below b0 (Nat.le_refl _))
  have hne : (fTimes s c b p != fTimes s c b p) = false := by simp
  clear hv hs hk
  by_cases hn : s.length ≤ 1048576
  · have hsz : Hid (szL 1048576 s.length = 1048576 - s.length) := by rw [Hid, szL, if_neg (by omega)]
    by_cases hc0 : c.length ≤ 1048576 - s.length
    · have hsz2 : Hid (szL (1048576 - s.length) c.length = 1048576 - s.length - c.length) := by rw [Hid, szL, if_neg (by omega)]
      have hc : c.length ≤ 1048576 := by omega
      by_cases hd0 : b.length ≤ 1048576 - s.length - c.length
      · have hsz3 : Hid (szL (1048576 - s.length - c.length) b.length = 1048576 - s.length - c.length - b.length) := by rw [Hid, szL, if_neg (by omega)]
        have hc2 : b.length ≤ 1048576 := by omega
        go_enter Try.func10, Try.ntmps10
        go_wp2_with fail
        refine (szArticleS_any _ _ _ _ _ (by omega) (by omega) (by omega)).mono ?_
        rintro e w0 ⟨rfl, rfl⟩
        rw [hsz.out]
        go_wp2_with fail
        refine (szLineS_any _ _ _ _ _ (by omega) (by omega) (by omega)).mono ?_
        rintro e w0 ⟨rfl, rfl⟩
        rw [hsz2.out]
        go_wp2_with fail
        refine (szBundle_any _ _ _ _ _ _ (by omega) (by omega) (by omega)).mono ?_
        rintro e w0 ⟨rfl, B0⟩
        rw [hsz3.out]
        go_wp2_with fail
        have g0 := (B0.cell (p := ⟨w.heap.size, 0, none⟩) zb).trans q0
        have g1 := (B0.cell (p := ⟨w.heap.size, 1, none⟩) zb).trans q1
        go_region_held3 (fun w' => w'.cell? ⟨w.heap.size, 0, none⟩ = some (.slice bo b.length cap2) ∧ w'.cell? ⟨w.heap.size, 1, none⟩ = some (.int .i64 p) ∧ Below (w.alloc (.cells #[.slice bo b.length cap2, .int .i64 p] 59)).heap.size (w.alloc (.cells #[.slice bo b.length cap2, .int .i64 p] 59)) w')
          (first
            | exact ⟨(bb.cell (p := ⟨w.heap.size, 0, none⟩) zb).trans q0, (bb.cell (p := ⟨w.heap.size, 1, none⟩) zb).trans q1, bb⟩
            | exact ⟨g0, g1, B0.drew⟩
            | (go_keep; done))
          ((first
            | (go_at_call 18; (with_reducible refine (toArticleS_any s _ _ (HS.out.below B0.drew (Nat.le_refl _)) hn).mono ?_); rintro e w1 ⟨vs, rfl, ho1, hb1⟩; have bb := B0.drew.trans (hb1.mono B0.drew.size))
            | (go_at_call 19; (with_reducible refine (toLineS_any c _ _ (HC.out.below bb (Nat.le_refl _)) hc).mono ?_); rintro e wl ⟨vl, rfl, hol, hbl⟩; have ho2 := ownsRow_below ho1 hbl (Nat.le_refl _); have bb := bb.trans (hbl.mono bb.size))
            | (go_at_call 38; (with_reducible refine (toBundle_any b _ p _ (HV.out.below bb (Nat.le_refl _)) hc2).mono ?_); rintro e w2 ⟨vb, rfl, hob, hb2⟩; have ho3 := ownsRow_below ho2 hb2 (Nat.le_refl _); have ho4 := ownsRow_below hol hb2 (Nat.le_refl _); have bb := bb.trans (hb2.mono bb.size))
            | (go_at_call 35; (with_reducible refine (specTimesIn_any s _ c _ b _ p _ (Rd.of_owns ho3) (Rd.of_owns ho4) (Rd.of_owns hob)).mono ?_); rintro e w3 ⟨rfl, hb3⟩; have bb := bb.trans (hb3.mono bb.size))))
        clear g0 g1
        have g0 := (bb.cell (p := ⟨w.heap.size, 0, none⟩) zb).trans q0
        have g1 := (bb.cell (p := ⟨w.heap.size, 1, none⟩) zb).trans q1
        go_wp2_with fail
        refine (toArticleS_any s _ _ (HS.out.below bb (Nat.le_refl _)) hn).mono ?_
        rintro e w4 ⟨v_x0, rfl, ho, hb⟩
        have B4 := bb.trans (hb.mono bb.size)
        have Z4 := hb.size
        have x0_4 := Lib.hid ho
        have L_x0 := Lib.hid (fun k hk => ho.lt k hk)
        clear ho hb bb
        clear g0 g1
        have g0 := (B4.cell (p := ⟨w.heap.size, 0, none⟩) zb).trans q0
        have g1 := (B4.cell (p := ⟨w.heap.size, 1, none⟩) zb).trans q1
        go_wp2_with fail
        refine (toLineS_any c _ _ (HC.out.below B4 (Nat.le_refl _)) hc).mono ?_
        rintro e w5 ⟨v_x1, rfl, ho, hb⟩
        have x0_5 := Lib.hid (ownsRow_below x0_4.out hb (Nat.le_refl _))
        have B5 := B4.trans (hb.mono B4.size)
        have Z5 := hb.size
        have x1_5 := Lib.hid ho
        have L_x1 := Lib.hid (fun k hk => ho.lt k hk)
        clear ho hb x0_4 B4
        clear g0 g1
        have g0 := (B5.cell (p := ⟨w.heap.size, 0, none⟩) zb).trans q0
        have g1 := (B5.cell (p := ⟨w.heap.size, 1, none⟩) zb).trans q1
        go_wp2_with fail
        refine (toBundle_any b _ p _ (HV.out.below B5 (Nat.le_refl _)) hc2).mono ?_
        rintro e w6 ⟨v_x2, rfl, ho, hb⟩
        obtain ⟨xo, xcap, rfl, _⟩ := (Rd.of_owns ho).pairs
        have x0_6 := Lib.hid (ownsRow_below x0_5.out hb (Nat.le_refl _))
        have x1_6 := Lib.hid (ownsRow_below x1_5.out hb (Nat.le_refl _))
        have B6 := B5.trans (hb.mono B5.size)
        have Z6 := hb.size
        have x2_6 := Lib.hid ho
        have L_x2 := Lib.hid (fun k hk => ho.lt k hk)
        clear ho hb x0_5 x1_5 B5
        clear g0 g1
        have g0 := (B6.cell (p := ⟨w.heap.size, 0, none⟩) zb).trans q0
        have g1 := (B6.cell (p := ⟨w.heap.size, 1, none⟩) zb).trans q1
        have hb : Below w6.heap.size w6 (w6.alloc (.cells #[.slice xo b.length xcap, .int .i64 p] 49)) := (Below.refl _ _).alloc (Nat.le_refl _) _
        have r0 : (w6.alloc (.cells #[.slice xo b.length xcap, .int .i64 p] 49)).cell? ⟨w6.heap.size, 0, none⟩ = some (.slice xo b.length xcap) := cell_of_row _ _ _ _ _ _ (heap_alloc_new w6 _)
        have r1 : (w6.alloc (.cells #[.slice xo b.length xcap, .int .i64 p] 49)).cell? ⟨w6.heap.size, 1, none⟩ = some (.int .i64 p) := cell_of_row _ _ _ _ _ _ (heap_alloc_new w6 _)
        have zx : w6.heap.size < (w6.alloc (.cells #[.slice xo b.length xcap, .int .i64 p] 49)).heap.size := by simp
        have x0_7 := Lib.hid (ownsRow_below x0_6.out hb (Nat.le_refl _))
        have x1_7 := Lib.hid (ownsRow_below x1_6.out hb (Nat.le_refl _))
        have x2_7 := Lib.hid (ownsRow_below x2_6.out hb (Nat.le_refl _))
        have B7 := B6.trans (hb.mono B6.size)
        have Z7 := hb.size
        clear hb x0_6 x1_6 x2_6 B6
        clear g0 g1
        have g0 := (B7.cell (p := ⟨w.heap.size, 0, none⟩) zb).trans q0
        have g1 := (B7.cell (p := ⟨w.heap.size, 1, none⟩) zb).trans q1
        go_wp2_with fail
        refine (implTimesIn_any s _ c _ b _ p _ (Rd.of_owns x0_7.out) (Rd.of_owns x1_7.out) (Rd.of_owns x2_7.out)).mono ?_
        rintro e w8 ⟨rfl, hb⟩
        have bx := hb
        have x0_8 := Lib.hid (ownsRow_below x0_7.out hb (Nat.le_refl _))
        have x1_8 := Lib.hid (ownsRow_below x1_7.out hb (Nat.le_refl _))
        have x2_8 := Lib.hid (ownsRow_below x2_7.out hb (Nat.le_refl _))
        have B8 := B7.trans (hb.mono B7.size)
        have Z8 := hb.size
        clear hb x0_7 x1_7 x2_7 B7
        clear g0 g1
        have g0 := (B8.cell (p := ⟨w.heap.size, 0, none⟩) zb).trans q0
        have g1 := (B8.cell (p := ⟨w.heap.size, 1, none⟩) zb).trans q1
        go_wp2_with fail
        refine (toArticleS_any s _ _ (HS.out.below B8 (Nat.le_refl _)) hn).mono ?_
        rintro e w9 ⟨v_t0, rfl, ho, hb⟩
        have bx := bx.trans (hb.mono bx.size)
        have x0_9 := Lib.hid (ownsRow_below x0_8.out hb (Nat.le_refl _))
        have x1_9 := Lib.hid (ownsRow_below x1_8.out hb (Nat.le_refl _))
        have x2_9 := Lib.hid (ownsRow_below x2_8.out hb (Nat.le_refl _))
        have B9 := B8.trans (hb.mono B8.size)
        have Z9 := hb.size
        have t0_9 := Lib.hid ho
        have L_t0 := Lib.hid (fun k hk => ho.lt k hk)
        clear ho hb x0_8 x1_8 x2_8 B8
        clear g0 g1
        have g0 := (B9.cell (p := ⟨w.heap.size, 0, none⟩) zb).trans q0
        have g1 := (B9.cell (p := ⟨w.heap.size, 1, none⟩) zb).trans q1
        go_wp2_with fail
        refine (eqArticleS_any _ _ _ _ _ (Rd.of_owns x0_9.out) (Rd.of_owns t0_9.out)).mono ?_
        rintro e w10 ⟨rfl, hb⟩
        rw [show decide (s = s) = true by simp]; have bx := bx.trans (hb.mono bx.size)
        have x0_10 := Lib.hid (ownsRow_below x0_9.out hb (Nat.le_refl _))
        have x1_10 := Lib.hid (ownsRow_below x1_9.out hb (Nat.le_refl _))
        have x2_10 := Lib.hid (ownsRow_below x2_9.out hb (Nat.le_refl _))
        have t0_10 := Lib.hid (ownsRow_below t0_9.out hb (Nat.le_refl _))
        have B10 := B9.trans (hb.mono B9.size)
        have Z10 := hb.size
        clear hb x0_9 x1_9 x2_9 t0_9 B9
        clear g0 g1
        have g0 := (B10.cell (p := ⟨w.heap.size, 0, none⟩) zb).trans q0
        have g1 := (B10.cell (p := ⟨w.heap.size, 1, none⟩) zb).trans q1
        go_wp2_with fail
        refine (toLineS_any c _ _ (HC.out.below B10 (Nat.le_refl _)) hc).mono ?_
        rintro e w11 ⟨v_t1, rfl, ho, hb⟩
        have bx := bx.trans (hb.mono bx.size)
        have x1_11 := Lib.hid (ownsRow_below x1_10.out hb (Nat.le_refl _))
        have x2_11 := Lib.hid (ownsRow_below x2_10.out hb (Nat.le_refl _))
        have B11 := B10.trans (hb.mono B10.size)
        have Z11 := hb.size
        have t1_11 := Lib.hid ho
        have L_t1 := Lib.hid (fun k hk => ho.lt k hk)
        clear ho hb x1_10 x2_10 B10
        clear g0 g1
        have g0 := (B11.cell (p := ⟨w.heap.size, 0, none⟩) zb).trans q0
        have g1 := (B11.cell (p := ⟨w.heap.size, 1, none⟩) zb).trans q1
        go_wp2_with fail
        refine (eqLineS_any _ _ _ _ _ (Rd.of_owns x1_11.out) (Rd.of_owns t1_11.out)).mono ?_
        rintro e w12 ⟨rfl, hb⟩
        rw [show decide (c = c) = true by simp]; have bx := bx.trans (hb.mono bx.size)
        have x1_12 := Lib.hid (ownsRow_below x1_11.out hb (Nat.le_refl _))
        have x2_12 := Lib.hid (ownsRow_below x2_11.out hb (Nat.le_refl _))
        have t1_12 := Lib.hid (ownsRow_below t1_11.out hb (Nat.le_refl _))
        have B12 := B11.trans (hb.mono B11.size)
        have Z12 := hb.size
        clear hb x1_11 x2_11 t1_11 B11
        clear g0 g1
        have g0 := (B12.cell (p := ⟨w.heap.size, 0, none⟩) zb).trans q0
        have g1 := (B12.cell (p := ⟨w.heap.size, 1, none⟩) zb).trans q1
        go_wp2_with fail
        have g0 := (B12.cell (p := ⟨w.heap.size, 0, none⟩) zb).trans q0
        have g1 := (B12.cell (p := ⟨w.heap.size, 1, none⟩) zb).trans q1
        have c0 := (bx.cell (p := ⟨w6.heap.size, 0, none⟩) zx).trans r0
        have c1 := (bx.cell (p := ⟨w6.heap.size, 1, none⟩) zx).trans r1
        have zA : w.heap.size < w12.drew.heap.size := Nat.lt_of_lt_of_le zb B12.size
        have zX : w6.heap.size < w12.drew.heap.size := Nat.lt_of_lt_of_le zx bx.size
        have BD := B12.drew
        have OX := Lib.hid (x2_12.out.drew)
        go_region_held3 (fun w' => w'.cell? ⟨w.heap.size, 0, none⟩ = some (.slice bo b.length cap2) ∧ w'.cell? ⟨w.heap.size, 1, none⟩ = some (.int .i64 p) ∧ w'.cell? ⟨w6.heap.size, 0, none⟩ = some (.slice xo b.length xcap) ∧ w'.cell? ⟨w6.heap.size, 1, none⟩ = some (.int .i64 p))
          (first
            | exact ⟨(cb.cell (p := ⟨w.heap.size, 0, none⟩) zA).trans g0, (cb.cell (p := ⟨w.heap.size, 1, none⟩) zA).trans g1, (cb.cell (p := ⟨w6.heap.size, 0, none⟩) zX).trans c0, (cb.cell (p := ⟨w6.heap.size, 1, none⟩) zX).trans c1⟩
            | exact ⟨g0, g1, c0, c1⟩
            | (go_keep; done))
          ((first
            | (go_at_call 38; (with_reducible refine (toBundle_any b _ p _ (HV.out.below BD (Nat.le_refl _)) hc2).mono ?_); rintro e wa ⟨vt, rfl, hot, cb⟩)
            | (go_at_call 39; (with_reducible refine (eqBundle_any b _ _ p _ (Rd.of_owns (ownsRow_below OX.out cb (Nat.le_refl _))) (Rd.of_owns hot)).mono ?_); rintro e wb ⟨rfl, hbb⟩; have cb := cb.trans (hbb.mono cb.size))))
        go_wp2
        go_ret
        exact ⟨rfl, b0.trans ((BD.trans (cb.mono BD.size)).mono b0.size)⟩
      · have hsz3 : Hid (szL (1048576 - s.length - c.length) b.length = -1) := by rw [Hid, szL, if_pos (by omega)]
        go_enter Try.func10, Try.ntmps10
        go_wp2_with fail
        refine (szArticleS_any _ _ _ _ _ (by omega) (by omega) (by omega)).mono ?_
        rintro e w0 ⟨rfl, rfl⟩
        rw [hsz.out]
        go_wp2_with fail
        refine (szLineS_any _ _ _ _ _ (by omega) (by omega) (by omega)).mono ?_
        rintro e w0 ⟨rfl, rfl⟩
        rw [hsz2.out]
        go_wp2_with fail
        refine (szBundle_any _ _ _ _ _ _ (by omega) (by omega) (by omega)).mono ?_
        rintro e w0 ⟨rfl, B0⟩
        rw [hsz3.out]
        go_wp2
        go_ret
        exact ⟨rfl, b0.trans (B0.mono b0.size)⟩
    · have hsz2 : Hid (szL (1048576 - s.length) c.length = -1) := by rw [Hid, szL, if_pos (by omega)]
      go_enter Try.func10, Try.ntmps10
      go_wp2_with fail
      refine (szArticleS_any _ _ _ _ _ (by omega) (by omega) (by omega)).mono ?_
      rintro e w0 ⟨rfl, rfl⟩
      rw [hsz.out]
      go_wp2_with fail
      refine (szLineS_any _ _ _ _ _ (by omega) (by omega) (by omega)).mono ?_
      rintro e w0 ⟨rfl, rfl⟩
      rw [hsz2.out]
      go_wp2
      go_ret
      exact ⟨rfl, b0⟩
  · have hsz : Hid (szL 1048576 s.length = -1) := by rw [Hid, szL, if_pos (by omega)]
    go_enter Try.func10, Try.ntmps10
    go_wp2_with fail
    refine (szArticleS_any _ _ _ _ _ (by omega) (by omega) (by omega)).mono ?_
    rintro e w0 ⟨rfl, rfl⟩
    rw [hsz.out]
    go_wp2
    go_ret
    exact ⟨rfl, b0⟩

open Go.ChangeShapes Go.WideShapes Go.ChangeAt

theorem lawOwn : ownKnob Try.prog.godebug = none := by kernel_rfl
theorem lawOut : laidOutB Try.prog = true := by kernel_rfl

set_option linter.unusedVariables false in
set_option maxRecDepth 100000 in
theorem liftedExactTimesIn (os : Os) (started : os.Started) (H : Type) (enc : TypeId × Value → H) :
    ReturnsInHanded {} Try.checked os 10 .any (Rows.fnExactTimesInSpec.pre6 enc Try.prog Try.f10 Rows.fnExactTimesInRow.domain false) (Rows.fnExactTimesInSpec.post enc Try.prog Try.f10 false true false false) := by
  refine returnsInHanded_of_change (C := Try.checked) lawOwn started (by kernel_rfl) Try.func10
    (ChangeSpec.witness6 (enc := enc) (C := Try.checked) false ⟨#[], #[.slice none 0 0, .slice none 0 0, .agg #[.slice none 0 0, .int .i64 0]], []⟩ 8 (by kernel_rfl) (by kernel_rfl) (by kernel_rfl) (by kernel_rfl)) ?_
  intro W base args ds gs before hval0 hW hcnd _
  have hval : ∀ (j : Nat) t v, Try.f10.params[j]? = some t → args[j]? = some v → Value.okWide Try.prog W .any base t v := hval0
  have hW' := hW
  obtain ⟨p, q, hA0, hV, rfl, hfz, hnd⟩ := hW
  have hA : DataW.TrodAll enc Try.prog W 0 (fun _ => true) true Try.f10.params.toList args.toList ds p := hA0
  rw [Try.params10] at hA hval
  obtain ⟨v0, vs0, d0, ds0, p0, q0, hargs, rfl, rfl, h0, r0⟩ := trodAll_cons hA
  obtain ⟨v1, vs1, d1, ds1, p1, q1, rfl, rfl, rfl, h1, r1⟩ := trodAll_cons r0
  obtain ⟨v2, vs2, d2, ds2, p2, q2, rfl, rfl, rfl, h2, r2⟩ := trodAll_cons r1
  obtain ⟨rfl, rfl, rfl⟩ := trodAll_nil r2
  obtain rfl : args = #[v0, v1, v2] := by cases args; simp_all
  obtain ⟨rfl, rfl⟩ := trodVars_none hV
  have k0 := h0
  have lt0 : ∀ x ∈ p0, x.block < W.heap.size := by obtain ⟨m, hm⟩ := k0; exact DataW.trod_lt m _ _ _ hm
  have k1 := h1
  have lt1 : ∀ x ∈ p1, x.block < W.heap.size := by obtain ⟨m, hm⟩ := k1; exact DataW.trod_lt m _ _ _ hm
  have k2 := h2
  have lt2 : ∀ x ∈ p2, x.block < W.heap.size := by obtain ⟨m, hm⟩ := k2; exact DataW.trod_lt m _ _ _ hm
  clear hA0 hval0
  obtain ⟨z0, w0⟩ : ∃ z : List Art, Rd W 4 v0 z.length (ar z) := by
    obtain ⟨a0, n0, c0, rfl⟩ := okWide_slice Try.underlying29 (hval 0 29 v0 rfl rfl)
    obtain ⟨fuel, hf⟩ := h0
    exact open_arts Try.underlying29 Try.underlying75 (by kernel_rfl) rfl rfl rfl rfl (by kernel_rfl) (by kernel_rfl) (by kernel_rfl) (by kernel_rfl) Try.underlying3 Try.underlying3 Try.underlying3 Try.underlying3 hf
  obtain ⟨z1, w1⟩ : ∃ z : List (Int × Int), Rd W 2 v1 z.length (pr z) := by
    obtain ⟨a0, n0, c0, rfl⟩ := okWide_slice Try.underlying30 (hval 1 30 v1 rfl rfl)
    obtain ⟨fuel, hf⟩ := h1
    exact open_prs Try.underlying30 Try.underlying77 (by kernel_rfl) rfl rfl (by kernel_rfl) (by kernel_rfl) Try.underlying3 Try.underlying3 hf
  obtain ⟨z2, a2, y2, rfl, w2⟩ : ∃ (z : List (Int × Int)) (a : Value) (q : Int), v2 = .agg #[a, .int .i64 q] ∧ Rd W 2 a z.length (pr z) := by
    obtain ⟨cs, rfl, hcs⟩ := okWide_struct Try.underlying59 (hval 2 59 v2 rfl rfl)
    rw [show Try.prog.cellsOf 59 = 2 from (by kernel_rfl)] at hcs
    obtain ⟨l⟩ := cs
    rcases l with _ | ⟨a, _ | ⟨b, _ | ⟨b2, l2⟩⟩⟩
    · simp at hcs
    · simp at hcs
    · obtain ⟨fuel, hf⟩ := h2
      obtain ⟨z, q, h1, h2, _⟩ := open_bundle Try.underlying59 rfl rfl (by kernel_rfl) (by kernel_rfl) Try.underlying30 Try.underlying3 Try.underlying77 (by kernel_rfl) rfl rfl (by kernel_rfl) (by kernel_rfl) Try.underlying3 Try.underlying3 hf
      subst h2
      exact ⟨z, a, q, rfl, h1⟩
    · simp at hcs
  refine (lawExactTimesIn z0 v0 z1 v1 z2 a2 y2 W w0 w1 w2).mono fun e W' ⟨he, bel⟩ => ?_
  subst he
  exact ⟨_, rfl, _, _, _, [], _, [], hW', trodAll_mk1 (shut_bool Try.underlying4 _), (trodAll_cons_mk (Below.trod lawOut (by kernel_rfl) (of_decide_eq_true (by kernel_rfl)) k0 bel lt0) (trodAll_cons_mk (Below.trod lawOut (by kernel_rfl) (of_decide_eq_true (by kernel_rfl)) k1 bel lt1) (trodAll_cons_mk (Below.trod lawOut (by kernel_rfl) (of_decide_eq_true (by kernel_rfl)) k2 bel lt2) trodAll_mk0))), rfl, bel.frame _, fun h => by cases h⟩

theorem closedExactTimesIn : joinedFacts Try.pinned.checked.prog 10 Try.f10 Rows.fnExactTimesInSpec Rows.fnExactTimesInRow = true := by
  unfold joinedFacts
  rw [headEnters, headMake, headFinal]
  kernel_rfl

theorem holdsExactTimesIn : Rows.FnExactTimesInSaid :=
  OpenClaim.holds_of_wide 10 Try.f10 rfl rfl rfl rfl rfl rfl rfl ⟨rfl, rfl, rfl, rfl, rfl⟩ rfl rfl rfl rfl rfl (by kernel_rfl) Try.func10 closedExactTimesIn
    (of_decide_eq_true (by kernel_rfl)) (by unfold Func.isWrapper; first | (rw [if_pos (by decide +kernel)]; kernel_rfl) | (rw [if_neg (by decide +kernel)]; exact ⟨rfl, rfl⟩))
    (fun os started H enc _ => liftedExactTimesIn os started H enc)

#print axioms holdsExactTimesIn

end Go.Proofs.Ytomapdedajdkkaa
