/- More bundles save more: the gains of the best choice of all bundles are at least those without the last one, for every code. Conditions: none. -/
import Derived.Test.YtomapdedajdkkabBK
import Derived.Test.YtomapdedajdkkabBG
import Derived.Test.YtomapdedajdkkabBcFns
import Derived.Test.YtomapdedajdkkabIN
import Derived.Test.YtomapdedajdkkabBeFns
import Derived.Test.YtomapdedajdkkabBT
import Derived.Deep.RegionHeld3
import Derived.Test.YtomapdedajdkkabOpen
import Derived.Test.YtomapdedajdkkabHead
namespace Go.Proofs.Ytomapdedajdkkab
open Go.RowKit

set_option maxHeartbeats 8000000 in
set_option maxRecDepth 100000 in
theorem lawBestBundlesMore (z : List Int) (v : Value) (w : World) (hv : Rd w 1 v z.length (z.map (Value.int .u8)) ∧ ∀ x ∈ z, 0 ≤ x ∧ x ≤ 255) :
    Calls Try.prog 5 #[v] w fun e w' => e = .returned (.bool true) ∧ Below w.heap.size w w' := by
  have hm := hv.1.len
  unfold maxLen at hm
  obtain ⟨_, ao, cap, rfl, _⟩ := hv.1
  have HV := Lib.hid hv
  clear hv
  by_cases hn : 1048576 < z.length
  · go_enter Try.func5, Try.ntmps5
    go_wp2
    go_ret
    exact ⟨rfl, Below.refl _ _⟩
  · go_enter Try.func5, Try.ntmps5
    go_wp2_with fail
    refine (drawBest_any z _ _ HV.out.1 HV.out.2).mono ?_
    rintro e w1 ⟨s, sv, c, cv, B, lv, rfl, hs, hs10, hc, hc9, hlo, hl, hB4, B1⟩
    obtain ⟨so, scap, rfl, _⟩ := hs.arts
    obtain ⟨co, ccap, rfl, _⟩ := hc.pairs
    obtain ⟨lo, lcap, rfl, ⟨hlc1, hlc2⟩, hlsh⟩ := owns_shape_cap hlo
    have A1 := Lib.hid hs
    have C1 := Lib.hid hc
    have L1 := Lib.hid hl
    have HSH := Lib.hid hlsh
    clear hs hc hl hlo hlsh
    obtain ⟨O, hO⟩ : ∃ O, O = fBest s c B := ⟨_, rfl⟩
    have HO := Lib.hid hO
    clear hO
    go_wp2_with fail
    refine (implBB_any s _ c _ B _ _ A1.out C1.out L1.out).mono ?_
    rintro e w2 ⟨ov, rfl, ho, hb⟩
    rw [← HO.out] at ho
    obtain ⟨oa, ocap, rfl, hosh⟩ := owns_shape ho
    have B2 := B1.trans (hb.mono B1.size)
    have A2 := Lib.hid (A1.out.below hb (Nat.le_refl _))
    have C2 := Lib.hid (C1.out.below hb (Nat.le_refl _))
    have L2 := Lib.hid (L1.out.below hb (Nat.le_refl _))
    have O2 := Lib.hid ho
    have HOSH := Lib.hid hosh
    clear ho hosh hb A1 C1 L1 B1
    go_wp2_with fail
    refine (specBB_any s _ c _ B _ _ A2.out C2.out L2.out).mono ?_
    rintro e w3 ⟨wv, rfl, ho, hb⟩
    rw [← HO.out] at ho
    have B3 := B2.trans (hb.mono B2.size)
    have A3 := Lib.hid (A2.out.below hb (Nat.le_refl _))
    have C3 := Lib.hid (C2.out.below hb (Nat.le_refl _))
    have L3 := Lib.hid (L2.out.below hb (Nat.le_refl _))
    have O3 := Lib.hid (ownsRow_below O2.out hb (Nat.le_refl _))
    have W3 := Lib.hid ho
    clear ho hb A2 C2 L2 B2 O2
    go_wp2_with fail
    refine (equalInts_any O O _ _ _ (Rd.of_owns O3.out) (Rd.of_owns W3.out)).mono ?_
    rintro e w4 ⟨rfl, hb⟩
    rw [show decide (O = O) = true by simp]
    have B4 := B3.trans (hb.mono B3.size)
    have A4 := Lib.hid (A3.out.below hb (Nat.le_refl _))
    have C4 := Lib.hid (C3.out.below hb (Nat.le_refl _))
    have L4 := Lib.hid (L3.out.below hb (Nat.le_refl _))
    have O4 := Lib.hid (ownsRow_below O3.out hb (Nat.le_refl _))
    clear hb A3 C3 L3 B3 O3 W3
    by_cases ho0 : O.length = 0
    · have ho0b : ((O.length : Int) == 0) = true := by simp [ho0]
      have HO0 := Lib.hid ho0
      clear ho0
      go_wp2_with fail
      refine (specBB_any s _ c _ B _ _ A4.out C4.out L4.out).mono ?_
      rintro e w5 ⟨wv, rfl, ho, hb⟩
      rw [← HO.out] at ho
      have B5 := B4.trans (hb.mono B4.size)
      go_wp2_with fail
      refine (equalInts_any O O _ _ _ (Rd.of_owns (ownsRow_below O4.out hb (Nat.le_refl _))) (Rd.of_owns ho)).mono ?_
      rintro e w6 ⟨rfl, hb6⟩
      rw [show decide (O = O) = true by simp]
      go_wp2
      go_ret
      exact ⟨ret_b (by simp), B5.trans (hb6.mono B5.size)⟩
    · have ho0b : ((O.length : Int) == 0) = false := by rw [beq_eq_false_iff_ne]; omega
      have hvc : vCart s c = true := by
        cases h : vCart s c
        · exact absurd (by rw [HO.out, fBest_c h]; rfl) ho0
        · rfl
      have hvb : vBn s B = true := by
        cases h : vBn s B
        · exact absurd (by rw [HO.out, fBest_b h]; rfl) ho0
        · rfl
      have HVC := Lib.hid hvc
      have HVB := Lib.hid hvb
      have hpr := vBn_pr hvb
      have HQ := Lib.hid (okQ_all hpr.2.1)
      have HB3 := hpr.2.2
      have HOY : Hid (O = (bestQ s (qsB B) (hvL s.length c)).2) := by rw [Hid, HO.out, fBest_y hvc hvb]
      have HOL : Hid (O.length = B.length) := by rw [Hid, HOY.out, best_len HQ.out hvc, qsB_len]
      have hB0 : 0 < B.length := by have := HOL.out; omega
      obtain ⟨lo', lcap', e1, _, _, hrl⟩ := L4.out.open
      simp only [Value.slice.injEq, true_and] at e1
      obtain ⟨e1a, e1b⟩ := e1
      subst e1a
      subst e1b
      obtain ⟨lb, loff, rfl, hlb, hcl⟩ := hrl hB0
      have HCL := Lib.hid hcl
      obtain ⟨og, rfl, hog0⟩ := HOSH.out (by omega)
      have hog := (O4.out.lt og rfl).2
      have HCO : Hid (∀ i, i < O.length → w4.cell? ⟨og, i, none⟩ = some (.int .i64 (iG O i))) := fun i hi => (O4.out.cellAt i (by omega)).trans (it_get O i hi)
      have hfit := (bestQ_fits (qsB B) _ HQ.out (hvL_len _ _) (okH_hvL hvc)).1
      have HBD : Hid (∀ j, 0 ≤ iG O j ∧ iG O j ≤ 20) := by rw [Hid, HOY.out]; exact fits_bd s (qsB B) _ _ HQ.out (hvL_len _ _) (okH_hvL hvc) hfit
      have HBS : Hid (∀ k, k ≤ B.length → 0 ≤ gnK s (qsB B) O k ∧ gnK s (qsB B) O k ≤ 16000000 * k) := fun k hk => gnK_bd HQ.out HBD.out k (by rw [qsB_len]; exact hk)
      clear hrl hcl hfit
      obtain ⟨j, hj⟩ : ∃ j, B.length = j + 1 := ⟨B.length - 1, by omega⟩
      have hjw : IntKind.i64.wrap ((B.length : Int) - 1) = (j : Int) := by rw [hj, IntWalk.i64_in _ (by omega)]; omega
      have hj0 : (0 : Int) ≤ (j : Int) := by omega
      have hjc : (j : Int) ≤ (lcap : Int) := by omega
      have hjB : j ≤ B.length := by omega
      obtain ⟨E, hE⟩ : ∃ E, E = fBest s c (B.take j) := ⟨_, rfl⟩
      have hEy : E = (bestQ s ((qsB B).take j) (hvL s.length c)).2 := by rw [hE, fBest_y hvc (vBn_takeT hvb j), qsB_take]
      have hqj : okQ s ((qsB B).take j) := fun x hx => HQ.out x (List.mem_of_mem_take hx)
      have hEl : E.length = j := by rw [hEy, best_len hqj hvc, List.length_take, qsB_len]; omega
      have hfE := (bestQ_fits ((qsB B).take j) _ hqj (hvL_len _ _) (okH_hvL hvc)).1
      have HBE : Hid (∀ i, 0 ≤ iG E i ∧ iG E i ≤ 20) := by rw [Hid, hEy]; exact fits_bd s _ _ _ hqj (hvL_len _ _) (okH_hvL hvc) hfE
      have HBT : Hid (∀ k, k ≤ B.length → 0 ≤ gnK s (qsB B) E k ∧ gnK s (qsB B) E k ≤ 16000000 * k) := fun k hk => gnK_bd HQ.out HBE.out k (by rw [qsB_len]; exact hk)
      have fin : Hid (gnK s (qsB B) E j ≤ gnK s (qsB B) O B.length) := by
        have := gain_less (j := j) HQ.out (hvL_len s.length c) (okH_hvL hvc) (by rw [qsB_len]; exact hj)
        rw [Hid, hEy, HOY.out]; rw [qsB_len] at this; exact this
      have HE := Lib.hid hE
      have HEL := Lib.hid hEl
      have HJ := Lib.hid hj
      have hOB : B.length ≤ O.length := by have := HOL.out; omega
      clear hE hEy hEl hqj hfE hvc hvb hpr ho0 hj
      go_wp2
      go_loopw [7, 8] (fun n_ i_ wr => ∃ i : Nat, i ≤ B.length ∧ i_ = .int .i64 i ∧ n_ = .int .i64 (gnK s (qsB B) O i) ∧ Below w4.heap.size w4 wr) (fun _ i_ _ => B.length - (intOf i_).toNat)
      case atStart => exact ⟨0, Nat.zero_le _, rfl, rfl, Below.refl _ _⟩
      case round =>
        obtain ⟨i, hi, rfl, rfl, hbl⟩ := hrel
        by_cases hlt : i < B.length
        · have hltB : i < B.length := by omega
          have hltO : i < O.length := by omega
          have g1 := (hbl.cell (p := ⟨og, i, none⟩) hog).trans (HCO.out i (by omega))
          have g2 := (hbl.cell (p := ⟨lb, loff + i * 2, none⟩) hlb).trans (HCL.out i hltB).1
          have g3 := (hbl.cell (p := ⟨lb, loff + i * 2 + 1, none⟩) hlb).trans (HCL.out i hltB).2
          have hlw := Nat.lt_of_lt_of_le hlb hbl.size
          have hrw := Nat.lt_of_lt_of_le hog hbl.size
          have hpx := (L4.out.below hbl (Nat.le_refl _)).2 _ (bT_mem hltB)
          obtain ⟨po, pcap, hpe, _⟩ := hpx.pairs
          rw [hpe] at g2 hpx
          have HPX := Lib.hid hpx
          have hgn := gain_nn (bOk_at HVB.out hltB)
          obtain ⟨G, hG⟩ : ∃ G, G = fGain s (bT B i).l (bT B i).p := ⟨_, rfl⟩
          have hstep : Hid (gnK s (qsB B) O (i + 1) = gnK s (qsB B) O i + iG O i * G) := by rw [Hid, gnK, qsB_getD hltB, hG]
          have hbi := HBS.out i (by omega)
          have hbx := HBD.out i
          rw [← hG] at hgn
          have HG := Lib.hid hG
          obtain ⟨x, hx⟩ : ∃ x, x = iG O i := ⟨_, rfl⟩
          rw [← hx] at g1 hbx hstep
          obtain ⟨y, hy⟩ : ∃ y, y = gnK s (qsB B) O i := ⟨_, rfl⟩
          rw [← hy] at hbi hstep ⊢
          have hmb := mul_bd hbx.1 hbx.2 hgn.1 hgn.2
          obtain ⟨hmb1, hmb2⟩ := hmb
          obtain ⟨hbi1, hbi2⟩ := hbi
          have e1 : IntKind.i64.wrap (x * G) = x * G := IntWalk.i64_in _ (by omega)
          have e2 : IntKind.i64.wrap (y + x * G) = y + x * G := IntWalk.i64_in _ (by omega)
          have hi0 : (0 : Int) ≤ (i : Int) := by omega
          have hi1 : (i : Int) < (O.length : Int) := by omega
          have hi2 : (i : Int) < (B.length : Int) := by omega
          have BD := hbl.drew
          clear hpx hpe hG hx hy hgn hbx
          go_wp2
          go_region_held3 (fun w' => w'.cell? ⟨og, i, none⟩ = some (.int .i64 (x)) ∧ w'.cell? ⟨lb, loff + i * 2, none⟩ = some (.slice po (bT B i).l.length pcap) ∧ w'.cell? ⟨lb, loff + i * 2 + 1, none⟩ = some (.int .i64 (bT B i).p) ∧ Below w4.heap.size w4 w')
            (first
              | exact ⟨(bb.cell (p := ⟨og, i, none⟩) hrw).trans g1, (bb.cell (p := ⟨lb, loff + i * 2, none⟩) hlw).trans g2, (bb.cell (p := ⟨lb, loff + i * 2 + 1, none⟩) hlw).trans g3, BD.trans (bb.mono BD.size)⟩
              | exact ⟨g1, g2, g3, BD⟩
              | (go_keep; done))
            ((go_at_call 17; (with_reducible refine (implGain_any s _ (bT B i).l _ (bT B i).p _ (A4.out.below BD (Nat.le_refl _)) (HPX.out.below (Below.refl _ _).drew (Nat.le_refl _))).mono ?_); rintro e wt ⟨rfl, hbt⟩; rw [← HG.out]; have bb := hbt))
          go_wp2
          go_roundw
          case rel => exact ⟨i + 1, by omega, by go_num, by rw [hstep.out], BD.trans (bb.mono BD.size)⟩
          case measure => simp [intOf]; omega
        · obtain rfl : i = B.length := by omega
          have hL4 := L4.out.below hbl (Nat.le_refl _)
          go_wp2_with fail
          refine (implBB_any s _ c _ (B.take j) _ _ (A4.out.below hbl (Nat.le_refl _)) (C4.out.below hbl (Nat.le_refl _)) (hL4.takeT hjB)).mono ?_
          rintro e w5 ⟨ev, rfl, ho, hb⟩
          rw [← HE.out] at ho
          have hb45 := hbl.trans (hb.mono hbl.size)
          have B5 := B4.trans (hb45.mono B4.size)
          have A5 := Lib.hid (A4.out.below hb45 (Nat.le_refl _))
          have L5 := Lib.hid (L4.out.below hb45 (Nat.le_refl _))
          have E5 := Lib.hid ho
          have hlb5 := Nat.lt_of_lt_of_le hlb hb45.size
          have HCL5 : Hid (∀ i, i < B.length → w5.cell? ⟨lb, loff + i * 2, none⟩ = some (bT B i).v ∧ w5.cell? ⟨lb, loff + i * 2 + 1, none⟩ = some (.int .i64 (bT B i).p)) := fun i hi => ⟨(hb45.cell (p := ⟨lb, loff + i * 2, none⟩) hlb).trans (HCL.out i hi).1, (hb45.cell (p := ⟨lb, loff + i * 2 + 1, none⟩) hlb).trans (HCL.out i hi).2⟩
          obtain ⟨ea, ecap, rfl, hesh⟩ := owns_shape ho
          have HESH := Lib.hid hesh
          have htop := HBS.out B.length (Nat.le_refl _)
          obtain ⟨top, htp⟩ : ∃ top, top = gnK s (qsB B) O B.length := ⟨_, rfl⟩
          rw [← htp] at htop fin ⊢
          have hEj : E.length ≤ j ∧ j ≤ E.length := by have := HEL.out; omega
          clear ho hb hbl hb45 hL4 hesh htp hlt hi B4
          go_wp2
          go_loopw [7, 10] (fun n_ i_ wr => ∃ i : Nat, i ≤ j ∧ i_ = .int .i64 i ∧ n_ = .int .i64 (top - gnK s (qsB B) E i) ∧ Below w5.heap.size w5 wr) (fun _ i_ _ => j - (intOf i_).toNat)
          case atStart => exact ⟨0, Nat.zero_le _, rfl, by simp [gnK], Below.refl _ _⟩
          case round =>
            obtain ⟨i, hi, rfl, rfl, hbl⟩ := hrel
            by_cases hlt : i < j
            · have hltB : i < B.length := by omega
              have hltO : i < E.length := by omega
              obtain ⟨eg, rfl, _⟩ := HESH.out (by omega)
              have hew := (E5.out.lt eg rfl).2
              have g1 := (hbl.cell (p := ⟨eg, i, none⟩) hew).trans ((E5.out.cellAt i (by omega)).trans (it_get E i (by omega)))
              have g2 := (hbl.cell (p := ⟨lb, loff + i * 2, none⟩) hlb5).trans (HCL5.out i hltB).1
              have g3 := (hbl.cell (p := ⟨lb, loff + i * 2 + 1, none⟩) hlb5).trans (HCL5.out i hltB).2
              have hlw := Nat.lt_of_lt_of_le hlb5 hbl.size
              have hrw := Nat.lt_of_lt_of_le hew hbl.size
              have hpx := (L5.out.below hbl (Nat.le_refl _)).2 _ (bT_mem hltB)
              obtain ⟨po, pcap, hpe, _⟩ := hpx.pairs
              rw [hpe] at g2 hpx
              have HPX := Lib.hid hpx
              have hgn := gain_nn (bOk_at HVB.out hltB)
              obtain ⟨G, hG⟩ : ∃ G, G = fGain s (bT B i).l (bT B i).p := ⟨_, rfl⟩
              have hstep : Hid (gnK s (qsB B) E (i + 1) = gnK s (qsB B) E i + iG E i * G) := by rw [Hid, gnK, qsB_getD hltB, hG]
              have hbi := HBT.out i (by omega)
              have hbx := HBE.out i
              rw [← hG] at hgn
              have HG := Lib.hid hG
              obtain ⟨x, hx⟩ : ∃ x, x = iG E i := ⟨_, rfl⟩
              rw [← hx] at g1 hbx hstep
              obtain ⟨y, hy⟩ : ∃ y, y = gnK s (qsB B) E i := ⟨_, rfl⟩
              rw [← hy] at hbi hstep ⊢
              have hmb := mul_bd hbx.1 hbx.2 hgn.1 hgn.2
              obtain ⟨hmb1, hmb2⟩ := hmb
              obtain ⟨hbi1, hbi2⟩ := hbi
              have e1 : IntKind.i64.wrap (x * G) = x * G := IntWalk.i64_in _ (by omega)
              have e2 : IntKind.i64.wrap (top - y - x * G) = top - y - x * G := IntWalk.i64_in _ (by omega)
              have hi0 : (0 : Int) ≤ (i : Int) := by omega
              have hi1 : (i : Int) < (E.length : Int) := by omega
              have hi2 : (i : Int) < (B.length : Int) := by omega
              have BD := hbl.drew
              clear hpx hpe hG hx hy hgn hbx
              go_wp2
              go_region_held3 (fun w' => w'.cell? ⟨eg, i, none⟩ = some (.int .i64 (x)) ∧ w'.cell? ⟨lb, loff + i * 2, none⟩ = some (.slice po (bT B i).l.length pcap) ∧ w'.cell? ⟨lb, loff + i * 2 + 1, none⟩ = some (.int .i64 (bT B i).p) ∧ Below w5.heap.size w5 w')
                (first
                  | exact ⟨(bb.cell (p := ⟨eg, i, none⟩) hrw).trans g1, (bb.cell (p := ⟨lb, loff + i * 2, none⟩) hlw).trans g2, (bb.cell (p := ⟨lb, loff + i * 2 + 1, none⟩) hlw).trans g3, BD.trans (bb.mono BD.size)⟩
                  | exact ⟨g1, g2, g3, BD⟩
                  | (go_keep; done))
                ((go_at_call 17; (with_reducible refine (implGain_any s _ (bT B i).l _ (bT B i).p _ (A5.out.below BD (Nat.le_refl _)) (HPX.out.below (Below.refl _ _).drew (Nat.le_refl _))).mono ?_); rintro e wt ⟨rfl, hbt⟩; rw [← HG.out]; have bb := hbt))
              go_wp2
              go_roundw
              case rel => exact ⟨i + 1, by omega, by go_num, by rw [hstep.out]; rw [Int.sub_sub], BD.trans (bb.mono BD.size)⟩
              case measure => simp [intOf]; omega
            · obtain rfl : i = j := by omega
              have hge : 0 ≤ top - gnK s (qsB B) E i := by have := fin.out; omega
              go_wp2
              go_ret
              exact ⟨ret_b (by simp; omega), B5.trans (hbl.mono B5.size)⟩

open Go.ChangeShapes Go.WideShapes Go.ChangeAt

theorem lawOwn : ownKnob Try.prog.godebug = none := by kernel_rfl
theorem lawOut : laidOutB Try.prog = true := by kernel_rfl

set_option linter.unusedVariables false in
set_option maxRecDepth 100000 in
theorem liftedBestBundlesMore (os : Os) (started : os.Started) (H : Type) (enc : TypeId × Value → H) :
    ReturnsInHanded {} Try.checked os 5 .any (Rows.fnBestBundlesMoreSpec.pre6 enc Try.prog Try.f5 Rows.fnBestBundlesMoreRow.domain false) (Rows.fnBestBundlesMoreSpec.post enc Try.prog Try.f5 false true false false) := by
  refine returnsInHanded_of_change (C := Try.checked) lawOwn started (by kernel_rfl) Try.func5
    (ChangeSpec.witness6 (enc := enc) (C := Try.checked) false ⟨#[], #[.slice none 0 0], []⟩ 8 (by kernel_rfl) (by kernel_rfl) (by kernel_rfl) (by kernel_rfl)) ?_
  intro W base args ds gs before hval0 hW hcnd _
  have hval : ∀ (j : Nat) t v, Try.f5.params[j]? = some t → args[j]? = some v → Value.okWide Try.prog W .any base t v := hval0
  have hW' := hW
  obtain ⟨p, q, hA0, hV, rfl, hfz, hnd⟩ := hW
  have hA : DataW.TrodAll enc Try.prog W 0 (fun _ => true) true Try.f5.params.toList args.toList ds p := hA0
  rw [Try.params5] at hA hval
  obtain ⟨v0, vs0, d0, ds0, p0, q0, hargs, rfl, rfl, h0, r0⟩ := trodAll_cons hA
  obtain ⟨rfl, rfl, rfl⟩ := trodAll_nil r0
  obtain rfl : args = #[v0] := by cases args; simp_all
  obtain ⟨rfl, rfl⟩ := trodVars_none hV
  have k0 := h0
  have lt0 : ∀ x ∈ p0, x.block < W.heap.size := by obtain ⟨m, hm⟩ := k0; exact DataW.trod_lt m _ _ _ hm
  clear hA0 hval0
  obtain ⟨z0, w0⟩ : ∃ z : List Int, Rd W 1 v0 z.length (z.map (Value.int .u8)) ∧ ∀ x ∈ z, 0 ≤ x ∧ x ≤ 255 := by
    obtain ⟨a0, n0, c0, rfl⟩ := okWide_slice Try.underlying38 (hval 0 38 v0 rfl rfl)
    obtain ⟨fuel, hf⟩ := h0
    exact open_bytes Try.underlying38 Try.underlying5 (by kernel_rfl) hf
  refine (lawBestBundlesMore z0 v0 W w0).mono fun e W' ⟨he, bel⟩ => ?_
  subst he
  exact ⟨_, rfl, _, _, _, [], _, [], hW', trodAll_mk1 (shut_bool Try.underlying4 _), (trodAll_cons_mk (Below.trod lawOut (by kernel_rfl) (of_decide_eq_true (by kernel_rfl)) k0 bel lt0) trodAll_mk0), rfl, bel.frame _, fun h => by cases h⟩

theorem closedBestBundlesMore : joinedFacts Try.pinned.checked.prog 5 Try.f5 Rows.fnBestBundlesMoreSpec Rows.fnBestBundlesMoreRow = true := by
  unfold joinedFacts
  rw [headEnters, headMake, headFinal]
  kernel_rfl

theorem holdsBestBundlesMore : Rows.FnBestBundlesMoreSaid :=
  OpenClaim.holds_of_wide 5 Try.f5 rfl rfl rfl rfl rfl rfl rfl ⟨rfl, rfl, rfl, rfl, rfl⟩ rfl rfl rfl rfl rfl (by kernel_rfl) Try.func5 closedBestBundlesMore
    (of_decide_eq_true (by kernel_rfl)) (by unfold Func.isWrapper; first | (rw [if_pos (by decide +kernel)]; kernel_rfl) | (rw [if_neg (by decide +kernel)]; exact ⟨rfl, rfl⟩))
    (fun os started H enc _ => liftedBestBundlesMore os started H enc)

#print axioms holdsBestBundlesMore

end Go.Proofs.Ytomapdedajdkkab
