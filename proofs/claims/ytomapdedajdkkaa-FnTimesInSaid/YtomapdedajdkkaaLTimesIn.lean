/- Bundles are in carts as often as their parts: TimesIn is as often as TakePieces of all parts succeeds, for every code. Conditions: none. -/
import Derived.Test.YtomapdedajdkkaaTI
import Derived.Test.YtomapdedajdkkaaTK
import Derived.Test.YtomapdedajdkkaaTmFns
import Derived.Test.YtomapdedajdkkaaBF
import Derived.Deep.RegionHeld3
import Derived.Test.YtomapdedajdkkaaOpen
import Derived.Test.YtomapdedajdkkaaHead
namespace Go.Proofs.Ytomapdedajdkkaa
open Go.RowKit

set_option maxHeartbeats 8000000 in
set_option maxRecDepth 100000 in
theorem lawTimesIn (z : List Int) (v : Value) (w : World) (hv : Rd w 1 v z.length (z.map (Value.int .u8)) ∧ ∀ x ∈ z, 0 ≤ x ∧ x ≤ 255) :
    Calls Try.prog 9 #[v] w fun e w' => e = .returned (.bool true) ∧ Below w.heap.size w w' := by
  have hm := hv.1.len
  unfold maxLen at hm
  obtain ⟨_, ao, cap, rfl, _⟩ := hv.1
  have HV := Lib.hid hv
  clear hv
  by_cases hn : 1048576 < z.length
  · go_enter Try.func9, Try.ntmps9
    go_wp2
    go_ret
    exact ⟨rfl, Below.refl _ _⟩
  · go_enter Try.func9, Try.ntmps9
    go_wp2_with fail
    refine (drawTimesIn_any z _ _ HV.out.1 HV.out.2).mono ?_
    rintro e w1 ⟨s, sv, c, cv, l, lv, p, rfl, hs, hs10, hc, hc9, hl, hl10, hb1⟩
    obtain ⟨lo, lcap, rfl, _⟩ := hl.pairs
    obtain ⟨co, ccap, rfl, _⟩ := hc.pairs
    obtain ⟨so, scap, rfl, _⟩ := hs.arts
    have hq : Below w1.heap.size w1 (w1.alloc (.cells #[.slice lo l.length lcap, .int .i64 p] 49)) := (Below.refl _ _).alloc (Nat.le_refl _) _
    have c0 : (w1.alloc (.cells #[.slice lo l.length lcap, .int .i64 p] 49)).cell? ⟨w1.heap.size, 0, none⟩ = some (.slice lo l.length lcap) := cell_of_row _ _ _ _ _ _ (heap_alloc_new w1 _)
    have c1 : (w1.alloc (.cells #[.slice lo l.length lcap, .int .i64 p] 49)).cell? ⟨w1.heap.size, 1, none⟩ = some (.int .i64 p) := cell_of_row _ _ _ _ _ _ (heap_alloc_new w1 _)
    have zw2 : w1.heap.size < (w1.alloc (.cells #[.slice lo l.length lcap, .int .i64 p] 49)).heap.size := by simp
    have Bw2 := hb1.trans (hq.mono hb1.size)
    have Aw2 := Lib.hid (hs.below hq (Nat.le_refl _))
    have Lw2 := Lib.hid (hl.below hq (Nat.le_refl _))
    have Cw2 := Lib.hid (hc.below hq (Nat.le_refl _))
    obtain ⟨G, hG⟩ : ∃ G, G = fTimes s c l p := ⟨_, rfl⟩
    have HG := Lib.hid hG
    have hne : (G != G) = false := by simp
    clear hs hl hc hb1 hq hG
    go_wp2_with fail
    refine (implTimesIn_any s _ c _ l _ p _ Aw2.out Cw2.out Lw2.out).mono ?_
    rintro e w3 ⟨rfl, hb⟩
    rw [← HG.out]
    have Bw3 := Bw2.trans (hb.mono Bw2.size)
    have Aw3 := Lib.hid (Aw2.out.below hb (Nat.le_refl _))
    have Lw3 := Lib.hid (Lw2.out.below hb (Nat.le_refl _))
    have Cw3 := Lib.hid (Cw2.out.below hb (Nat.le_refl _))
    have c0_ := (hb.cell (p := ⟨w1.heap.size, 0, none⟩) zw2).trans c0
    have c1_ := (hb.cell (p := ⟨w1.heap.size, 1, none⟩) zw2).trans c1
    have zw3 : w1.heap.size < w3.heap.size := Nat.lt_of_lt_of_le zw2 hb.size
    clear hb Aw2 Lw2 Cw2 Bw2 c0 c1 zw2
    have c0 := c0_
    have c1 := c1_
    clear c0_ c1_
    go_wp2_with fail
    refine (specTimesIn_any s _ c _ l _ p _ Aw3.out Cw3.out Lw3.out).mono ?_
    rintro e w4 ⟨rfl, hb⟩
    rw [← HG.out]
    have Bw4 := Bw3.trans (hb.mono Bw3.size)
    have Aw4 := Lib.hid (Aw3.out.below hb (Nat.le_refl _))
    have Lw4 := Lib.hid (Lw3.out.below hb (Nat.le_refl _))
    have Cw4 := Lib.hid (Cw3.out.below hb (Nat.le_refl _))
    have c0_ := (hb.cell (p := ⟨w1.heap.size, 0, none⟩) zw3).trans c0
    have c1_ := (hb.cell (p := ⟨w1.heap.size, 1, none⟩) zw3).trans c1
    have zw4 : w1.heap.size < w4.heap.size := Nat.lt_of_lt_of_le zw3 hb.size
    clear hb Aw3 Lw3 Cw3 Bw3 c0 c1 zw3
    have c0 := c0_
    have c1 := c1_
    clear c0_ c1_
    by_cases hp : G < 0
    · go_wp2_with fail
      refine (specTimesIn_any s _ c _ l _ p _ Aw4.out Cw4.out Lw4.out).mono ?_
      rintro e w5 ⟨rfl, hb⟩
      rw [← HG.out]
      go_wp2
      go_ret
      exact ⟨ret_b (by simp), Bw4.trans (hb.mono Bw4.size)⟩
    · have hvc : vCart s c = true := by
        cases h : vCart s c
        · have := fTimes_c (b := l) (p := p) h; rw [← HG.out] at this; omega
        · rfl
      have hok : bOk s l p = true := by
        cases h : bOk s l p
        · have := fTimes_b (c := c) h; rw [← HG.out] at this; omega
        · rfl
      obtain ⟨hvl, hl0, hp1, hp2⟩ := bOk_pr hok
      have hgt : G = tmC s c l := by rw [HG.out, fTimes_y hvc hok]; rfl
      have hgb := tmC_bd hvc hvl
      rw [← hgt] at hgb
      obtain ⟨hgb1, hgb2⟩ := hgb
      have HVL := Lib.hid hvl
      have HVC := Lib.hid hvc
      have HOKB := Lib.hid hok
      have HGT := Lib.hid hgt
      have hlp := Lw4.out.pairs
      obtain ⟨lo', lcap', e1, _, _, hrl⟩ := hlp
      simp only [Value.slice.injEq, true_and] at e1
      obtain ⟨e1a, e1b⟩ := e1
      subst e1a
      subst e1b
      obtain ⟨lb, loff, rfl, hlb, hcl⟩ := hrl hl0
      have HCL := Lib.hid hcl
      clear hvc hok hvl hgt hrl hcl hp
      have tk1 : Hid (∀ k, k < l.length → 0 < G → takeOk s c (pA l k) (G * pB l k) = true) := fun k hk hg => by rw [HGT.out] at hg ⊢; exact tm_take HVC.out HVL.out hk hg
      have tk2 : Hid (oneK s c l G l.length = true) := by rw [Hid, HGT.out]; exact oneK_end HVC.out HVL.out hl0
      have hle20 : G ≤ 20 := by omega
      clear hl0
      go_wp2
      go_loopw [7] (fun i_ wr => ∃ k : Nat, k ≤ l.length ∧ i_ = .int .i64 k ∧ Below w4.heap.size w4 wr) (fun i_ _ => l.length - (intOf i_).toNat)
      case atStart => exact ⟨0, Nat.zero_le _, rfl, Below.refl _ _⟩
      case round =>
        obtain ⟨k, hk, rfl, hbl⟩ := hrel
        have g0 := (hbl.cell (p := ⟨w1.heap.size, 0, none⟩) zw4).trans c0
        by_cases hlt : k < l.length
        · have g1 := (hbl.cell (p := ⟨lb, loff + k * 2, none⟩) hlb).trans (HCL.out k hlt).1
          have g2 := (hbl.cell (p := ⟨lb, loff + k * 2 + 1, none⟩) hlb).trans (HCL.out k hlt).2
          have hlw : lb < wr.heap.size := Nat.lt_of_lt_of_le hlb hbl.size
          have hbw : w1.heap.size < wr.heap.size := Nat.lt_of_lt_of_le zw4 hbl.size
          have hpb := lnOk_pr ((vLines_all (vCart_pr HVL.out).2).1 k hlt)
          have hbd := mul_bd (a := G) (b := pB l k) (m := 20) (n := 20) hgb1 hgb2 (by omega) (by omega)
          have hwm : IntKind.i64.wrap (G * pB l k) = G * pB l k := IntWalk.i64_in _ (by omega)
          have hb2 : Below w4.heap.size w4 (wr.alloc (.cells #[.int .i64 (pA l k), .int .i64 (pB l k)] 57)) := hbl.alloc hbl.size _
          clear hpb hbd
          by_cases hg0 : 0 < G
          · have htk := tk1.out k hlt hg0
            go_wp2_with fail
            refine (implTake_any s _ c _ (pA l k) (G * pB l k) _ (Aw4.out.below hb2 (Nat.le_refl _)) (Cw4.out.below hb2 (Nat.le_refl _))).mono ?_
            rintro e wt ⟨tv, rfl, hbt⟩
            rw [htk]
            go_wp2
            go_roundw
            case rel => exact ⟨k + 1, by omega, by go_num, hb2.trans (hbt.mono hb2.size)⟩
            case measure => simp [intOf]; omega
          · have hg0b : decide (0 < G) = false := by simpa using hg0
            go_wp2_with fail
            refine (implTake_any s _ c _ (pA l k) (G * pB l k) _ (Aw4.out.below hb2 (Nat.le_refl _)) (Cw4.out.below hb2 (Nat.le_refl _))).mono ?_
            rintro e wt ⟨tv, rfl, hbt⟩
            go_wp2
            go_roundw
            case rel => exact ⟨k + 1, by omega, by go_num, hb2.trans (hbt.mono hb2.size)⟩
            case measure => simp [intOf]; omega
        · go_wp2
          clear g0 hlt hk
          obtain ⟨wm, rfl⟩ : ∃ wm : World, wm = wr := ⟨_, rfl⟩
          go_loopw [11, 12] (fun o_ i_ wr => ∃ k : Nat, k ≤ l.length ∧ i_ = .int .i64 k ∧ o_ = .bool (oneK s c l G k) ∧ Below w4.heap.size w4 wr) (fun _ i_ _ => l.length - (intOf i_).toNat)
          case atStart => exact ⟨0, Nat.zero_le _, rfl, rfl, hbl⟩
          case round =>
            clear hbl
            obtain ⟨k, hk, rfl, rfl, hbl⟩ := hrel
            have g0 := (hbl.cell (p := ⟨w1.heap.size, 0, none⟩) zw4).trans c0
            by_cases hlt : k < l.length
            · have g1 := (hbl.cell (p := ⟨lb, loff + k * 2, none⟩) hlb).trans (HCL.out k hlt).1
              have g2 := (hbl.cell (p := ⟨lb, loff + k * 2 + 1, none⟩) hlb).trans (HCL.out k hlt).2
              have hlw : lb < wr.heap.size := Nat.lt_of_lt_of_le hlb hbl.size
              have hbw : w1.heap.size < wr.heap.size := Nat.lt_of_lt_of_le zw4 hbl.size
              have hpb := lnOk_pr ((vLines_all (vCart_pr HVL.out).2).1 k hlt)
              have hbd := mul_bd (a := G + 1) (b := pB l k) (m := 21) (n := 20) (by omega) (by omega) (by omega) (by omega)
              have hw1 : IntKind.i64.wrap (G + 1) = G + 1 := IntWalk.i64_in _ (by omega)
              have hwm : IntKind.i64.wrap ((G + 1) * pB l k) = (G + 1) * pB l k := IntWalk.i64_in _ (by omega)
              have hs1 : Hid (oneK s c l G (k + 1) = (oneK s c l G k || !takeOk s c (pA l k) ((G + 1) * pB l k))) := rfl
              clear hpb hbd
              have BD := hbl.drew
              go_wp2
              go_region_held3 (fun w' => w'.cell? ⟨w1.heap.size, 0, none⟩ = some (.slice (some ⟨lb, loff, none⟩) l.length lcap) ∧ w'.cell? ⟨lb, loff + k * 2, none⟩ = some (.int .i64 (pA l k)) ∧ w'.cell? ⟨lb, loff + k * 2 + 1, none⟩ = some (.int .i64 (pB l k)) ∧ Below w4.heap.size w4 w')
                (first
                  | exact ⟨(bb.cell (p := ⟨w1.heap.size, 0, none⟩) zw4).trans c0, (bb.cell (p := ⟨lb, loff + k * 2, none⟩) hlb).trans (HCL.out k hlt).1, (bb.cell (p := ⟨lb, loff + k * 2 + 1, none⟩) hlb).trans (HCL.out k hlt).2, bb⟩
                  | exact ⟨g0, g1, g2, BD⟩
                  | (go_keep; done))
                ((go_at_call 36; (with_reducible refine (implTake_any s _ c _ (pA l k) ((G + 1) * pB l k) _ (Aw4.out.below BD (Nat.le_refl _)) (Cw4.out.below BD (Nat.le_refl _))).mono ?_); rintro e wt ⟨tv, rfl, hbt⟩; have bb := BD.trans (hbt.mono BD.size)))
              cases ho : oneK s c l G k
              · go_wp2
                go_roundw
                case rel => exact ⟨k + 1, by omega, by go_num, by rw [hs1.out, ho]; rfl, bb⟩
                case measure => simp [intOf]; omega
              · go_wp2
                go_roundw
                case rel => exact ⟨k + 1, by omega, by go_num, by rw [hs1.out, ho]; rfl, bb⟩
                case measure => simp [intOf]; omega
            · obtain rfl : k = l.length := by omega
              rw [tk2.out]
              go_wp2
              go_ret
              exact ⟨ret_b (by simp), Bw4.trans (hbl.mono Bw4.size)⟩

open Go.ChangeShapes Go.WideShapes Go.ChangeAt

theorem lawOwn : ownKnob Try.prog.godebug = none := by kernel_rfl
theorem lawOut : laidOutB Try.prog = true := by kernel_rfl

set_option linter.unusedVariables false in
set_option maxRecDepth 100000 in
theorem liftedTimesIn (os : Os) (started : os.Started) (H : Type) (enc : TypeId × Value → H) :
    ReturnsInHanded {} Try.checked os 9 .any (Rows.fnTimesInSpec.pre6 enc Try.prog Try.f9 Rows.fnTimesInRow.domain false) (Rows.fnTimesInSpec.post enc Try.prog Try.f9 false true false false) := by
  refine returnsInHanded_of_change (C := Try.checked) lawOwn started (by kernel_rfl) Try.func9
    (ChangeSpec.witness6 (enc := enc) (C := Try.checked) false ⟨#[], #[.slice none 0 0], []⟩ 8 (by kernel_rfl) (by kernel_rfl) (by kernel_rfl) (by kernel_rfl)) ?_
  intro W base args ds gs before hval0 hW hcnd _
  have hval : ∀ (j : Nat) t v, Try.f9.params[j]? = some t → args[j]? = some v → Value.okWide Try.prog W .any base t v := hval0
  have hW' := hW
  obtain ⟨p, q, hA0, hV, rfl, hfz, hnd⟩ := hW
  have hA : DataW.TrodAll enc Try.prog W 0 (fun _ => true) true Try.f9.params.toList args.toList ds p := hA0
  rw [Try.params9] at hA hval
  obtain ⟨v0, vs0, d0, ds0, p0, q0, hargs, rfl, rfl, h0, r0⟩ := trodAll_cons hA
  obtain ⟨rfl, rfl, rfl⟩ := trodAll_nil r0
  obtain rfl : args = #[v0] := by cases args; simp_all
  obtain ⟨rfl, rfl⟩ := trodVars_none hV
  have k0 := h0
  have lt0 : ∀ x ∈ p0, x.block < W.heap.size := by obtain ⟨m, hm⟩ := k0; exact DataW.trod_lt m _ _ _ hm
  clear hA0 hval0
  obtain ⟨z0, w0⟩ : ∃ z : List Int, Rd W 1 v0 z.length (z.map (Value.int .u8)) ∧ ∀ x ∈ z, 0 ≤ x ∧ x ≤ 255 := by
    obtain ⟨a0, n0, c0, rfl⟩ := okWide_slice Try.underlying22 (hval 0 22 v0 rfl rfl)
    obtain ⟨fuel, hf⟩ := h0
    exact open_bytes Try.underlying22 Try.underlying5 (by kernel_rfl) hf
  refine (lawTimesIn z0 v0 W w0).mono fun e W' ⟨he, bel⟩ => ?_
  subst he
  exact ⟨_, rfl, _, _, _, [], _, [], hW', trodAll_mk1 (shut_bool Try.underlying4 _), (trodAll_cons_mk (Below.trod lawOut (by kernel_rfl) (of_decide_eq_true (by kernel_rfl)) k0 bel lt0) trodAll_mk0), rfl, bel.frame _, fun h => by cases h⟩

theorem closedTimesIn : joinedFacts Try.pinned.checked.prog 9 Try.f9 Rows.fnTimesInSpec Rows.fnTimesInRow = true := by
  unfold joinedFacts
  rw [headEnters, headMake, headFinal]
  kernel_rfl

theorem holdsTimesIn : Rows.FnTimesInSaid :=
  OpenClaim.holds_of_wide 9 Try.f9 rfl rfl rfl rfl rfl rfl rfl ⟨rfl, rfl, rfl, rfl, rfl⟩ rfl rfl rfl rfl rfl (by kernel_rfl) Try.func9 closedTimesIn
    (of_decide_eq_true (by kernel_rfl)) (by unfold Func.isWrapper; first | (rw [if_pos (by decide +kernel)]; kernel_rfl) | (rw [if_neg (by decide +kernel)]; exact ⟨rfl, rfl⟩))
    (fun os started H enc _ => liftedTimesIn os started H enc)

#print axioms holdsTimesIn

end Go.Proofs.Ytomapdedajdkkaa
