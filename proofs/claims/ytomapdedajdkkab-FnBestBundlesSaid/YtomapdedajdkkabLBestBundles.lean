/- Bundles take each piece once: the pieces of all bundles of the best choice are in the cart, for every code. Conditions: none. -/
import Derived.Test.YtomapdedajdkkabBK
import Derived.Test.YtomapdedajdkkabBG
import Derived.Test.YtomapdedajdkkabBcFns
import Derived.Test.YtomapdedajdkkabIN
import Derived.Test.YtomapdedajdkkabBhFns
import Derived.Test.YtomapdedajdkkabBT
import Derived.RegionTactic
import Derived.ChangeAlike
import Derived.BigRegion
import Derived.Test.YtomapdedajdkkabOpen
import Derived.Test.YtomapdedajdkkabHead
namespace Go.Proofs.Ytomapdedajdkkab
open Go.RowKit

set_option maxHeartbeats 8000000 in
set_option maxRecDepth 100000 in
theorem lawBestBundles (z : List Int) (v : Value) (w : World) (hv : Rd w 1 v z.length (z.map (Value.int .u8)) ∧ ∀ x ∈ z, 0 ≤ x ∧ x ≤ 255) :
    Calls Try.prog 4 #[v] w fun e w' => e = .returned (.bool true) ∧ Below w.heap.size w w' := by
  have hm := hv.1.len
  unfold maxLen at hm
  obtain ⟨_, ao, cap, rfl, _⟩ := hv.1
  have HV := Lib.hid hv
  clear hv
  by_cases hn : 1048576 < z.length
  · go_enter Try.func4, Try.ntmps4
    go_wp2
    go_ret
    exact ⟨rfl, Below.refl _ _⟩
  · go_enter Try.func4, Try.ntmps4
    go_wp2_with fail
    refine (drawBest_any z _ _ HV.out.1 HV.out.2).mono ?_
    rintro e w1 ⟨s, sv, c, cv, B, lv, rfl, hs, hs10, hc, hc9, hlo, hl, hB4, B1⟩
    obtain ⟨so, scap, rfl, _⟩ := hs.arts
    obtain ⟨co, ccap, rfl, _⟩ := hc.pairs
    obtain ⟨lo, lcap, rfl, ⟨hlc1, hlc2⟩, hlsh⟩ := owns_shape_cap hlo
    have A1 := Lib.hid hs
    have C1 := Lib.hid hc
    have L1 := Lib.hid hl
    have HSH := Lib.hid hlsh
    clear hs hc hl hlo hlsh
    obtain ⟨O, hO⟩ : ∃ O, O = fBest s c B := ⟨_, rfl⟩
    have HO := Lib.hid hO
    clear hO
    go_wp2_with fail
    refine (implBB_any s _ c _ B _ _ A1.out C1.out L1.out).mono ?_
    rintro e w2 ⟨ov, rfl, ho, hb⟩
    rw [← HO.out] at ho
    obtain ⟨oa, ocap, rfl, hosh⟩ := owns_shape ho
    have B2 := B1.trans (hb.mono B1.size)
    have A2 := Lib.hid (A1.out.below hb (Nat.le_refl _))
    have C2 := Lib.hid (C1.out.below hb (Nat.le_refl _))
    have L2 := Lib.hid (L1.out.below hb (Nat.le_refl _))
    have O2 := Lib.hid ho
    have HOSH := Lib.hid hosh
    clear ho hosh hb A1 C1 L1 B1
    go_wp2_with fail
    refine (specBB_any s _ c _ B _ _ A2.out C2.out L2.out).mono ?_
    rintro e w3 ⟨wv, rfl, ho, hb⟩
    rw [← HO.out] at ho
    have B3 := B2.trans (hb.mono B2.size)
    have A3 := Lib.hid (A2.out.below hb (Nat.le_refl _))
    have C3 := Lib.hid (C2.out.below hb (Nat.le_refl _))
    have L3 := Lib.hid (L2.out.below hb (Nat.le_refl _))
    have O3 := Lib.hid (ownsRow_below O2.out hb (Nat.le_refl _))
    have W3 := Lib.hid ho
    clear ho hb A2 C2 L2 B2 O2
    go_wp2_with fail
    refine (equalInts_any O O _ _ _ (Rd.of_owns O3.out) (Rd.of_owns W3.out)).mono ?_
    rintro e w4 ⟨rfl, hb⟩
    rw [show decide (O = O) = true by simp]
    have B4 := B3.trans (hb.mono B3.size)
    have A4 := Lib.hid (A3.out.below hb (Nat.le_refl _))
    have C4 := Lib.hid (C3.out.below hb (Nat.le_refl _))
    have L4 := Lib.hid (L3.out.below hb (Nat.le_refl _))
    have O4 := Lib.hid (ownsRow_below O3.out hb (Nat.le_refl _))
    clear hb A3 C3 L3 B3 O3 W3
    by_cases ho0 : O.length = 0
    · have ho0b : ((O.length : Int) == 0) = true := by simp [ho0]
      have HO0 := Lib.hid ho0
      clear ho0
      go_wp2_with fail
      refine (specBB_any s _ c _ B _ _ A4.out C4.out L4.out).mono ?_
      rintro e w5 ⟨wv, rfl, ho, hb⟩
      rw [← HO.out] at ho
      have B5 := B4.trans (hb.mono B4.size)
      go_wp2_with fail
      refine (equalInts_any O O _ _ _ (Rd.of_owns (ownsRow_below O4.out hb (Nat.le_refl _))) (Rd.of_owns ho)).mono ?_
      rintro e w6 ⟨rfl, hb6⟩
      rw [show decide (O = O) = true by simp]
      go_wp2
      go_ret
      exact ⟨ret_b (by simp), B5.trans (hb6.mono B5.size)⟩
    · have ho0b : ((O.length : Int) == 0) = false := by rw [beq_eq_false_iff_ne]; omega
      have hvc : vCart s c = true := by
        cases h : vCart s c
        · exact absurd (by rw [HO.out, fBest_c h]; rfl) ho0
        · rfl
      have hvb : vBn s B = true := by
        cases h : vBn s B
        · exact absurd (by rw [HO.out, fBest_b h]; rfl) ho0
        · rfl
      have HVC := Lib.hid hvc
      have HVB := Lib.hid hvb
      have hpr := vBn_pr hvb
      have HQ := Lib.hid (okQ_all hpr.2.1)
      have HB3 := hpr.2.2
      have HOY : Hid (O = (bestQ s (qsB B) (hvL s.length c)).2) := by rw [Hid, HO.out, fBest_y hvc hvb]
      have HOL : Hid (O.length = B.length) := by rw [Hid, HOY.out, best_len HQ.out hvc, qsB_len]
      have hB0 : 0 < B.length := by have := HOL.out; omega
      obtain ⟨lo', lcap', e1, _, _, hrl⟩ := L4.out.open
      simp only [Value.slice.injEq, true_and] at e1
      obtain ⟨e1a, e1b⟩ := e1
      subst e1a
      subst e1b
      obtain ⟨lb, loff, rfl, hlb, hcl⟩ := hrl hB0
      have HCL := Lib.hid hcl
      obtain ⟨og, rfl, hog0⟩ := HOSH.out (by omega)
      have hog := (O4.out.lt og rfl).2
      have HCO : Hid (∀ i, i < O.length → w4.cell? ⟨og, i, none⟩ = some (.int .i64 (iG O i))) := fun i hi => (O4.out.cellAt i (by omega)).trans (it_get O i hi)
      have hfit := (bestQ_fits (qsB B) _ HQ.out (hvL_len _ _) (okH_hvL hvc)).1
      have HBD : Hid (∀ j, 0 ≤ iG O j ∧ iG O j ≤ 20) := by rw [Hid, HOY.out]; exact fits_bd s (qsB B) _ _ HQ.out (hvL_len _ _) (okH_hvL hvc) hfit
      have HBS : Hid (∀ k, k ≤ B.length → 0 ≤ gnK s (qsB B) O k ∧ gnK s (qsB B) O k ≤ 16000000 * k) := fun k hk => gnK_bd HQ.out HBD.out k (by rw [qsB_len]; exact hk)
      clear hrl hcl hfit
      have hs1 := (vShop_all (vCart_pr hvc).1).2.1
      have hlb2 : ((O.length : Int) == (B.length : Int)) = true := by rw [HOL.out]; simp
      have hOB : B.length ≤ O.length := by have := HOL.out; omega
      have hQl : Hid ((qsB B).length = B.length) := qsB_len B
      have HEND : Hid (∀ i, i < s.length → ndC (qsB B) O c c.length i ≤ 0) := fun i hi => by rw [HOY.out]; exact ndC_end HQ.out HVC.out hi
      obtain ⟨co', ccap', e2, _, _, hrc⟩ := C4.out.pairs
      simp only [Value.slice.injEq, true_and] at e2
      obtain ⟨e2a, e2b⟩ := e2
      subst e2a
      subst e2b
      have HRC := Lib.hid hrc
      obtain ⟨t0, hi0, hz0, hz1, hz2⟩ := info_parts Try.info3b
      have HI := Lib.hid hi0
      have HZ0 := Lib.hid hz0
      have HZ1 := Lib.hid hz1
      have HZ2 := Lib.hid hz2
      clear hi0 hz0 hz1 hz2 hrc hvc hvb hpr ho0
      go_wp2_with (refine wpList_make_full _ rfl _ _ 42 rfl w4.heap.size 3 t0 _ 1 Try.underlying42 HI.out HZ0.out HZ1.out _ _ _ _ s.length rfl rfl rfl rfl (by rw [HZ2.out]; omega) (by unfold maxLen; omega) (Nat.le_refl _) ?_; intro w5 hown hgr)
      have N5 : Hid (w5.ownsRow w4.heap.size 3 1 (.slice (some ⟨w4.heap.size, 0, none⟩) s.length s.length) s.length (it (adL s.length (ndK (qsB B) O 0)))) := by
        rw [Hid, show adL s.length (ndK (qsB B) O 0) = List.replicate s.length 0 from adL_zero s.length, ← made_itP]; exact hown
      have hb5 : Below w4.heap.size w4 w5 := below_of_grownBy hgr
      clear hown hgr
      go_loopw [8] (fun i_ wr => ∃ a : Nat, a ≤ B.length ∧ i_ = .int .i64 a ∧ Below w4.heap.size w4 wr ∧ Hid (wr.ownsRow w4.heap.size 3 1 (.slice (some ⟨w4.heap.size, 0, none⟩) s.length s.length) s.length (it (adL s.length (ndK (qsB B) O a))))) (fun i_ _ => B.length - (intOf i_).toNat)
      case atStart => exact ⟨0, Nat.zero_le _, rfl, hb5, N5⟩
      case round =>
        clear hb5 N5
        obtain ⟨a, ha, rfl, hbl, N⟩ := hrel
        by_cases hlt : a < B.length
        · have hltO : a < O.length := by omega
          have q2 := (HCL.out a hlt).1
          have hpx := L4.out.2 _ (bT_mem hlt)
          obtain ⟨po, pcap, hpe, _, _, hpr⟩ := hpx.pairs
          rw [hpe] at q2
          have hbo := bOk_at HVB.out hlt
          obtain ⟨hpv, hpl0, _, _⟩ := bOk_pr hbo
          obtain ⟨pb, poff, rfl, hpb, hpc⟩ := hpr hpl0
          have HPC := Lib.hid hpc
          have HPV := Lib.hid hpv
          have HVL := Lib.hid (vCart_pr hpv).2
          have hpl8 := (vLines_all HVL.out).2
          have hgd := Lib.hid (qsB_getD hlt)
          have hx0 := HBD.out a
          have HA4 : Hid (a ≤ 4) := by unfold Hid; omega
          obtain ⟨x0, hx⟩ : ∃ x, x = iG O a := ⟨_, rfl⟩
          have HX := Lib.hid hx
          rw [← hx] at hx0
          have N0 : Hid (wr.ownsRow w4.heap.size 3 1 (.slice (some ⟨w4.heap.size, 0, none⟩) s.length s.length) s.length (it (adL s.length (ndM (qsB B) O (bT B a).l a 0)))) := by rw [Hid, ndM_zero]; exact N.out
          clear hpx hpe hpr hpc hbo hpv hpl0 hx N
          go_wp2
          obtain ⟨wo, rfl⟩ : ∃ wo : World, wo = wr := ⟨_, rfl⟩
          go_loopw [9] (fun i_ wr => ∃ m : Nat, m ≤ (bT B a).l.length ∧ i_ = .int .i64 m ∧ Below w4.heap.size w4 wr ∧ Hid (wr.ownsRow w4.heap.size 3 1 (.slice (some ⟨w4.heap.size, 0, none⟩) s.length s.length) s.length (it (adL s.length (ndM (qsB B) O (bT B a).l a m))))) (fun i_ _ => (bT B a).l.length - (intOf i_).toNat)
          case atStart => exact ⟨0, Nat.zero_le _, rfl, hbl, N0⟩
          case round =>
            clear hbl N0
            obtain ⟨m, hm, rfl, hbl, N⟩ := hrel
            have g2 := (hbl.cell (p := ⟨lb, loff + a * 2, none⟩) hlb).trans q2
            have hlw := Nat.lt_of_lt_of_le hlb hbl.size
            have ha0 : (0 : Int) ≤ (a : Int) := by omega
            have ha1 : (a : Int) < (B.length : Int) := by omega
            have ha2 : (a : Int) < (O.length : Int) := by omega
            by_cases hlt2 : m < (bT B a).l.length
            · obtain ⟨h4, h5, h6, h7, _⟩ := lnOk_pr ((vLines_all HVL.out).1 m hlt2)
              obtain ⟨k, hk⟩ := Int.eq_ofNat_of_zero_le h4
              have hkn : k < s.length := by omega
              have g1 := (hbl.cell (p := ⟨og, a, none⟩) hog).trans (HCO.out a hltO)
              rw [← HX.out] at g1
              have g3 := (hbl.cell (p := ⟨pb, poff + m * 2, none⟩) hpb).trans (HPC.out m hlt2).1
              have g4 := (hbl.cell (p := ⟨pb, poff + m * 2 + 1, none⟩) hpb).trans (HPC.out m hlt2).2
              have hpw := Nat.lt_of_lt_of_le hpb hbl.size
              have how := Nat.lt_of_lt_of_le hog hbl.size
              have hgw : w4.heap.size < wr.heap.size := (N.out.lt _ rfl).2
              have hst := ndM_step (qs := qsB B) (cs := O) (a := a) hlt2 hk hkn
              have hbd := ndM_bd (qs := qsB B) HQ.out HBD.out HPV.out k a m (by rw [hQl.out]; exact ha)
              rw [← adL_get (d := ndM (qsB B) O (bT B a).l a m) hkn] at hbd
              obtain ⟨hx1, hx2⟩ := hbd
              obtain ⟨c0, f0⟩ := owns_at1 N.out k hkn
              rw [hk] at g3
              rw [← HX.out] at hst
              have HST := Lib.hid hst
              clear hk h4 h5 hst
              obtain ⟨y, hy⟩ : ∃ y, y = pB (bT B a).l m := ⟨_, rfl⟩
              obtain ⟨x, hx⟩ : ∃ x, x = iG (adL s.length (ndM (qsB B) O (bT B a).l a m)) k := ⟨_, rfl⟩
              rw [← hy] at g4 HST h6 h7
              rw [← hx] at c0 hx1 hx2 HST
              clear hy hx
              have hmb := mul_bd (a := x0) (b := y) (m := 20) (n := 20) hx0.1 hx0.2 (by omega) (by omega)
              have e1 : IntKind.i64.wrap (x0 * y) = x0 * y := IntWalk.i64_in _ (by omega)
              have e2 : IntKind.i64.wrap (x + x0 * y) = x + x0 * y := IntWalk.i64_in _ (by have := HA4.out; omega)
              have hk0 : (0 : Int) ≤ (k : Int) := by omega
              have hk1 : (k : Int) < (s.length : Int) := by omega
              have hm0 : (0 : Int) ≤ (m : Int) := by omega
              have hm1 : (m : Int) < ((bT B a).l.length : Int) := by omega
              have hne1 : ¬ w4.heap.size = wr.heap.size := by omega
              clear hmb hx1 hx2
              go_wp2
              go_region
              go_wp2
              have o3 := (owns_set1 N.out k (x + x0 * y)).1
              rw [HST.out] at o3
              go_roundw
              case rel => exact ⟨m + 1, by omega, by go_num, ((hbl.setCell (Nat.le_refl _) _).alloc (hbl.setCell (Nat.le_refl _) _).size _).drew, (o3.alloc _).drew⟩
              case measure => simp [intOf]; omega
            · obtain rfl : m = (bT B a).l.length := by omega
              have N2 := N.out
              rw [ndM_end (qsB B) O (bT B a).l a s.length (by rw [hgd.out])] at N2
              go_wp2
              go_roundw
              case rel => exact ⟨a + 1, by omega, by go_num, hbl, N2⟩
              case measure => simp [intOf]; omega
        · obtain rfl : a = B.length := by omega
          have N0 : Hid (wr.ownsRow w4.heap.size 3 1 (.slice (some ⟨w4.heap.size, 0, none⟩) s.length s.length) s.length (it (adL s.length (ndC (qsB B) O c 0)))) := by rw [Hid, ndC_zero, hQl.out]; exact N.out
          clear N hlt ha
          go_wp2
          obtain ⟨wo, rfl⟩ : ∃ wo : World, wo = wr := ⟨_, rfl⟩
          go_loopw [11] (fun i_ wr => ∃ m : Nat, m ≤ c.length ∧ i_ = .int .i64 m ∧ Below w4.heap.size w4 wr ∧ Hid (wr.ownsRow w4.heap.size 3 1 (.slice (some ⟨w4.heap.size, 0, none⟩) s.length s.length) s.length (it (adL s.length (ndC (qsB B) O c m))))) (fun i_ _ => c.length - (intOf i_).toNat)
          case atStart => exact ⟨0, Nat.zero_le _, rfl, hbl, N0⟩
          case round =>
            clear hbl N0
            obtain ⟨m, hm, rfl, hbl, N⟩ := hrel
            by_cases hlt2 : m < c.length
            · obtain ⟨h4, h5, h6, h7, _⟩ := lnOk_pr ((vLines_all (vCart_pr HVC.out).2).1 m hlt2)
              obtain ⟨k, hk⟩ := Int.eq_ofNat_of_zero_le h4
              have hkn : k < s.length := by omega
              obtain ⟨cb, coff, rfl, hcb, hcc⟩ := HRC.out (by omega)
              have g3 := (hbl.cell (p := ⟨cb, coff + m * 2, none⟩) hcb).trans (hcc m hlt2).1
              have g4 := (hbl.cell (p := ⟨cb, coff + m * 2 + 1, none⟩) hcb).trans (hcc m hlt2).2
              have hcw := Nat.lt_of_lt_of_le hcb hbl.size
              have hgw : w4.heap.size < wr.heap.size := (N.out.lt _ rfl).2
              have hst := ndC_step (qs := qsB B) (cs := O) hlt2 hk hkn
              have hbd := ndC_bd (qs := qsB B) HQ.out HBD.out HVC.out k m
              rw [← adL_get (d := ndC (qsB B) O c m) hkn, hQl.out] at hbd
              obtain ⟨hx1, hx2⟩ := hbd
              obtain ⟨c0, f0⟩ := owns_at1 N.out k hkn
              rw [hk] at g3
              have HST := Lib.hid hst
              clear hk h4 h5 hst hcc
              obtain ⟨y, hy⟩ : ∃ y, y = pB c m := ⟨_, rfl⟩
              obtain ⟨x, hx⟩ : ∃ x, x = iG (adL s.length (ndC (qsB B) O c m)) k := ⟨_, rfl⟩
              rw [← hy] at g4 HST h6 h7
              rw [← hx] at c0 hx1 hx2 HST
              clear hy hx
              have e2 : IntKind.i64.wrap (x - y) = x - y := IntWalk.i64_in _ (by omega)
              have hk0 : (0 : Int) ≤ (k : Int) := by omega
              have hk1 : (k : Int) < (s.length : Int) := by omega
              have hm0 : (0 : Int) ≤ (m : Int) := by omega
              have hm1 : (m : Int) < (c.length : Int) := by omega
              have hne1 : ¬ w4.heap.size = cb := by omega
              have hne2 : ¬ cb = w4.heap.size := by omega
              clear hx1 hx2
              go_wp2
              go_region
              go_wp2
              have o3 := (owns_set1 N.out k (x - y)).1
              rw [HST.out] at o3
              go_roundw
              case rel => exact ⟨m + 1, by omega, by go_num, (hbl.setCell (Nat.le_refl _) _).drew, o3.drew⟩
              case measure => simp [intOf]; omega
            · obtain rfl : m = c.length := by omega
              go_wp2
              obtain ⟨wp, rfl⟩ : ∃ wp : World, wp = wr := ⟨_, rfl⟩
              go_loopw [12] (fun i_ wr => ∃ i : Nat, i ≤ s.length ∧ i_ = .int .i64 i ∧ Below w4.heap.size w4 wr ∧ Hid (wr.ownsRow w4.heap.size 3 1 (.slice (some ⟨w4.heap.size, 0, none⟩) s.length s.length) s.length (it (adL s.length (ndC (qsB B) O c c.length))))) (fun i_ _ => s.length - (intOf i_).toNat)
              case atStart => exact ⟨0, Nat.zero_le _, rfl, hbl, N⟩
              case round =>
                clear hbl N
                obtain ⟨i, hi, rfl, hbl, N⟩ := hrel
                by_cases hlt3 : i < s.length
                · obtain ⟨c0, f0⟩ := owns_at1 N.out i hlt3
                  have hle := HEND.out i hlt3
                  rw [adL_get hlt3] at c0
                  have hgw : w4.heap.size < wr.heap.size := (N.out.lt _ rfl).2
                  obtain ⟨x, hx⟩ : ∃ x, x = ndC (qsB B) O c c.length i := ⟨_, rfl⟩
                  rw [← hx] at c0 hle
                  have hxn : decide (0 < x) = false := by rw [decide_eq_false_iff_not]; omega
                  clear hx
                  go_wp2
                  go_roundw
                  case rel => exact ⟨i + 1, by omega, by go_num, hbl, N⟩
                  case measure => simp [intOf]; omega
                · go_wp2
                  go_ret
                  exact ⟨ret_b (by simp), B4.trans (hbl.mono B4.size)⟩

open Go.ChangeShapes Go.WideShapes Go.ChangeAt

theorem lawOwn : ownKnob Try.prog.godebug = none := by kernel_rfl
theorem lawOut : laidOutB Try.prog = true := by kernel_rfl

set_option linter.unusedVariables false in
set_option maxRecDepth 100000 in
theorem liftedBestBundles (os : Os) (started : os.Started) (H : Type) (enc : TypeId × Value → H) :
    ReturnsInHanded {} Try.checked os 4 .any (Rows.fnBestBundlesSpec.pre6 enc Try.prog Try.f4 Rows.fnBestBundlesRow.domain false) (Rows.fnBestBundlesSpec.post enc Try.prog Try.f4 false true false false) := by
  refine returnsInHanded_of_change (C := Try.checked) lawOwn started (by kernel_rfl) Try.func4
    (ChangeSpec.witness6 (enc := enc) (C := Try.checked) false ⟨#[], #[.slice none 0 0], []⟩ 8 (by kernel_rfl) (by kernel_rfl) (by kernel_rfl) (by kernel_rfl)) ?_
  intro W base args ds gs before hval0 hW hcnd _
  have hval : ∀ (j : Nat) t v, Try.f4.params[j]? = some t → args[j]? = some v → Value.okWide Try.prog W .any base t v := hval0
  have hW' := hW
  obtain ⟨p, q, hA0, hV, rfl, hfz, hnd⟩ := hW
  have hA : DataW.TrodAll enc Try.prog W 0 (fun _ => true) true Try.f4.params.toList args.toList ds p := hA0
  rw [Try.params4] at hA hval
  obtain ⟨v0, vs0, d0, ds0, p0, q0, hargs, rfl, rfl, h0, r0⟩ := trodAll_cons hA
  obtain ⟨rfl, rfl, rfl⟩ := trodAll_nil r0
  obtain rfl : args = #[v0] := by cases args; simp_all
  obtain ⟨rfl, rfl⟩ := trodVars_none hV
  have k0 := h0
  have lt0 : ∀ x ∈ p0, x.block < W.heap.size := by obtain ⟨m, hm⟩ := k0; exact DataW.trod_lt m _ _ _ hm
  clear hA0 hval0
  obtain ⟨z0, w0⟩ : ∃ z : List Int, Rd W 1 v0 z.length (z.map (Value.int .u8)) ∧ ∀ x ∈ z, 0 ≤ x ∧ x ≤ 255 := by
    obtain ⟨a0, n0, c0, rfl⟩ := okWide_slice Try.underlying38 (hval 0 38 v0 rfl rfl)
    obtain ⟨fuel, hf⟩ := h0
    exact open_bytes Try.underlying38 Try.underlying5 (by kernel_rfl) hf
  refine (lawBestBundles z0 v0 W w0).mono fun e W' ⟨he, bel⟩ => ?_
  subst he
  exact ⟨_, rfl, _, _, _, [], _, [], hW', trodAll_mk1 (shut_bool Try.underlying4 _), (trodAll_cons_mk (Below.trod lawOut (by kernel_rfl) (of_decide_eq_true (by kernel_rfl)) k0 bel lt0) trodAll_mk0), rfl, bel.frame _, fun h => by cases h⟩

theorem closedBestBundles : joinedFacts Try.pinned.checked.prog 4 Try.f4 Rows.fnBestBundlesSpec Rows.fnBestBundlesRow = true := by
  unfold joinedFacts
  rw [headEnters, headMake, headFinal]
  kernel_rfl

theorem holdsBestBundles : Rows.FnBestBundlesSaid :=
  OpenClaim.holds_of_wide 4 Try.f4 rfl rfl rfl rfl rfl rfl rfl ⟨rfl, rfl, rfl, rfl, rfl⟩ rfl rfl rfl rfl rfl (by kernel_rfl) Try.func4 closedBestBundles
    (of_decide_eq_true (by kernel_rfl)) (by unfold Func.isWrapper; first | (rw [if_pos (by decide +kernel)]; kernel_rfl) | (rw [if_neg (by decide +kernel)]; exact ⟨rfl, rfl⟩))
    (fun os started H enc _ => liftedBestBundles os started H enc)

#print axioms holdsBestBundles

end Go.Proofs.Ytomapdedajdkkab
