/- The program's BestBundles returns what the reference's returns, for all arguments, leaves its arguments unmodified, and shares no memory. Conditions: none. -/
import Derived.Test.YtomapdedajdkkabBK
import Derived.Test.YtomapdedajdkkabMB
import Derived.Test.YtomapdedajdkkabIN
import Derived.Test.YtomapdedajdkkabOpenC
import Derived.Test.YtomapdedajdkkabHead
namespace Go.Proofs.Ytomapdedajdkkab
open Go.RowKit

theorem SameB.qs {B C : List Bn} (h : SameB B C) : qsB C = qsB B := by
  apply List.ext_getElem
  · rw [qsB_len, qsB_len, h.1]
  · intro i h1 h2
    rw [qsB_len] at h1 h2
    have := h.2 i h2
    simp only [qsB, List.getElem_map]
    rw [bT_at h1, bT_at h2, this.1, this.2]
theorem SameB.fBest {B C : List Bn} (s : List Art) (c : List (Int × Int)) (h : SameB B C) : fBest s c C = fBest s c B := by
  unfold Go.Proofs.Ytomapdedajdkkab.fBest
  rw [h.vBn s, h.qs]
theorem fBest_len (s : List Art) (c : List (Int × Int)) (B : List Bn) : (fBest s c B).length ≤ 3 := by
  cases h : vCart s c
  · rw [fBest_c h]; simp
  · cases h2 : vBn s B
    · rw [fBest_b h2]; simp
    · have hp := vBn_pr h2
      rw [fBest_y h h2, fits_len (bestQ_fits (qsB B) _ (okQ_all hp.2.1) (hvL_len _ _) (okH_hvL h)).1, qsB_len]
      exact hp.2.2

set_option maxHeartbeats 16000000 in
set_option maxRecDepth 100000 in
theorem lawExactBestBundles (s : List Art) (u : Value) (c : List (Int × Int)) (cv : Value) (B : List Bn) (v : Value) (w : World) (hs : Rd w 4 u s.length (ar s)) (hcv : Rd w 2 cv c.length (pr c)) (hv : RdB w v B) :
    Calls Try.prog 9 #[u, cv, v] w fun e w' => e = .returned (.bool true) ∧ Below w.heap.size w w' := by
  have hm := hs.len
  have hm1 := hcv.len
  have hm2 := hv.len
  unfold maxLen at hm hm1
  obtain ⟨ao, cap, rfl, _⟩ := hs.arts
  obtain ⟨co, ccap, rfl, _⟩ := hcv.pairs
  obtain ⟨bo, cap2, rfl, _⟩ := hv.open
  have HV := Lib.hid hv
  have HS := Lib.hid hs
  have HC := Lib.hid hcv
  obtain ⟨O, hO⟩ : ∃ O, O = fBest s c B := ⟨_, rfl⟩
  have hO3 : O.length ≤ 3 := by rw [hO]; exact fBest_len s c B
  have HO := Lib.hid hO
  clear hv hs hcv hO
  by_cases hn : s.length ≤ 1048576
  · have hsz : Hid (szL 1048576 s.length = 1048576 - s.length) := by rw [Hid, szL, if_neg (by omega)]
    by_cases hc0 : c.length ≤ 1048576 - s.length
    · have hsz2 : Hid (szL (1048576 - s.length) c.length = 1048576 - s.length - c.length) := by rw [Hid, szL, if_neg (by omega)]
      have hc : c.length ≤ 1048576 := by omega
      go_enter Try.func9, Try.ntmps9
      go_wp2_with fail
      refine (szArticleS_any _ _ _ _ _ (by omega) (by omega) (by omega)).mono ?_
      rintro e w0 ⟨rfl, rfl⟩
      rw [hsz.out]
      go_wp2_with fail
      refine (szLineS_any _ _ _ _ _ (by omega) (by omega) (by omega)).mono ?_
      rintro e w0 ⟨rfl, rfl⟩
      rw [hsz2.out]
      go_wp2_with fail
      refine (szBundleS_any B _ _ _ HV.out (by omega) (by omega)).mono ?_
      rintro e wz ⟨z', rfl, hz1, hz2, hbz⟩
      by_cases hz : z' < 0
      · go_wp2
        go_ret
        exact ⟨rfl, hbz⟩
      · obtain ⟨hbl, hbl2⟩ := hz2 (by omega)
        clear hz2
        have ZZ := hbz.size
        go_wp2_with fail
        refine (toArticleS_any s _ _ (HS.out.below hbz (Nat.le_refl _)) hn).mono ?_
        rintro e w1 ⟨v_s0, rfl, ho, hb⟩
        have B1 := hbz.trans (hb.mono hbz.size)
        have Z1 := hb.size
        have s0_1 := Lib.hid ho
        have L_s0 := Lib.hid (fun k hk => ho.lt k hk)
        clear ho hb hbz
        go_wp2_with fail
        refine (toLineS_any c _ _ (HC.out.below B1 (Nat.le_refl _)) hc).mono ?_
        rintro e w2 ⟨v_s1, rfl, ho, hb⟩
        have s0_2 := Lib.hid (ownsRow_below s0_1.out hb (Nat.le_refl _))
        have B2 := B1.trans (hb.mono B1.size)
        have Z2 := hb.size
        have s1_2 := Lib.hid ho
        have L_s1 := Lib.hid (fun k hk => ho.lt k hk)
        clear ho hb s0_1 B1
        go_wp2_with fail
        refine (toBundleS_any B _ _ (HV.out.below B2 (Nat.le_refl _)) hbl hbl2).mono ?_
        rintro e w3 ⟨C_b0, g_b0, rfl, hsame, ho, hp, hb, hdis⟩
        have S_b0 := Lib.hid hsame
        have hr := Lib.hid (ToB.rdB ho hp)
        have s0_3 := Lib.hid (ownsRow_below s0_2.out hb (Nat.le_refl _))
        have s1_3 := Lib.hid (ownsRow_below s1_2.out hb (Nat.le_refl _))
        have B3 := B2.trans (hb.mono B2.size)
        have Z3 := hb.size
        have b0_3 := Lib.hid hr.out
        clear hr
        clear ho hp hb hsame hdis s0_2 s1_2 B2
        go_wp2_with fail
        refine (specBB_any s _ c _ C_b0 _ _ (Rd.of_owns s0_3.out) (Rd.of_owns s1_3.out) b0_3.out).mono ?_
        rintro e w4 ⟨v_w0, rfl, ho, hb⟩
        rw [S_b0.out.fBest s c, ← HO.out] at ho
        have s0_4 := Lib.hid (ownsRow_below s0_3.out hb (Nat.le_refl _))
        have s1_4 := Lib.hid (ownsRow_below s1_3.out hb (Nat.le_refl _))
        have B4 := B3.trans (hb.mono B3.size)
        have Z4 := hb.size
        have b0_4 := Lib.hid (b0_3.out.below hb (Nat.le_refl _))
        have w0_4 := Lib.hid ho
        have L_w0 := Lib.hid (fun k hk => ho.lt k hk)
        clear ho hb s0_3 s1_3 B3 b0_3
        go_wp2_with fail
        refine (toArticleS_any s _ _ (HS.out.below B4 (Nat.le_refl _)) hn).mono ?_
        rintro e w5 ⟨v_x0, rfl, ho, hb⟩
        have w0_5 := Lib.hid (ownsRow_below w0_4.out hb (Nat.le_refl _))
        have B5 := B4.trans (hb.mono B4.size)
        have Z5 := hb.size
        have x0_5 := Lib.hid ho
        have L_x0 := Lib.hid (fun k hk => ho.lt k hk)
        clear ho hb w0_4 B4
        go_wp2_with fail
        refine (toLineS_any c _ _ (HC.out.below B5 (Nat.le_refl _)) hc).mono ?_
        rintro e w6 ⟨v_x1, rfl, ho, hb⟩
        have w0_6 := Lib.hid (ownsRow_below w0_5.out hb (Nat.le_refl _))
        have x0_6 := Lib.hid (ownsRow_below x0_5.out hb (Nat.le_refl _))
        have B6 := B5.trans (hb.mono B5.size)
        have Z6 := hb.size
        have x1_6 := Lib.hid ho
        have L_x1 := Lib.hid (fun k hk => ho.lt k hk)
        clear ho hb w0_5 x0_5 B5
        go_wp2_with fail
        refine (toBundleS_any B _ _ (HV.out.below B6 (Nat.le_refl _)) hbl hbl2).mono ?_
        rintro e w7 ⟨C_b1, g_b1, rfl, hsame, ho, hp, hb, hdis⟩
        have S_b1 := Lib.hid hsame
        have D_b1 := Lib.hid hdis
        have L_b1 : Hid (∀ b, (b = g_b1 ∨ ∃ y, y ∈ C_b1 ∧ y.v.ownBlock = some b) → w6.heap.size ≤ b ∧ b < w7.heap.size) := fun b hb => by rcases hb with rfl | ⟨y, hy, hb⟩; exact ho.lt _ rfl; exact (hp y hy).1.lt b hb
        have hoo := Lib.hid ho
        have hpp := Lib.hid hp
        have hll : Hid (C_b1.length = B.length) := hsame.1
        have w0_7 := Lib.hid (ownsRow_below w0_6.out hb (Nat.le_refl _))
        have x0_7 := Lib.hid (ownsRow_below x0_6.out hb (Nat.le_refl _))
        have x1_7 := Lib.hid (ownsRow_below x1_6.out hb (Nat.le_refl _))
        have B7 := B6.trans (hb.mono B6.size)
        have Z7 := hb.size
        have b1o_7 : Hid (w7.ownsRow w6.heap.size 33 2 (.slice (some ⟨g_b1, 0, none⟩) B.length B.length) B.length (bn C_b1)) := by have := hoo.out; rw [hll.out] at this; exact this
        have b1p_7 := Lib.hid hpp.out
        clear hoo hpp hll
        clear ho hp hb hsame hdis w0_6 x0_6 x1_6 B6
        go_wp2_with fail
        refine (implBB_any s _ c _ C_b1 _ _ (Rd.of_owns x0_7.out) (Rd.of_owns x1_7.out) (⟨Rd.of_owns (by rw [S_b1.out.1]; exact b1o_7.out), fun y hy => Rd.of_owns (b1p_7.out y hy).1⟩ : RdB _ _ C_b1)).mono ?_
        rintro e w8 ⟨v_g0, rfl, ho, hb⟩
        rw [S_b1.out.fBest s c, ← HO.out] at ho
        have w0_8 := Lib.hid (ownsRow_below w0_7.out hb (Nat.le_refl _))
        have x0_8 := Lib.hid (ownsRow_below x0_7.out hb (Nat.le_refl _))
        have x1_8 := Lib.hid (ownsRow_below x1_7.out hb (Nat.le_refl _))
        have B8 := B7.trans (hb.mono B7.size)
        have Z8 := hb.size
        have b1o_8 := Lib.hid (ownsRow_below b1o_7.out hb (Nat.le_refl _))
        have b1p_8 := Lib.hid (b1p_7.out.below hb (Nat.le_refl _))
        have g0_8 := Lib.hid ho
        have L_g0 := Lib.hid (fun k hk => ho.lt k hk)
        clear ho hb w0_7 x0_7 x1_7 B7 b1o_7 b1p_7
        go_wp2_with fail
        refine (eqIntS_any _ _ _ _ _ (Rd.of_owns g0_8.out) (Rd.of_owns w0_8.out)).mono ?_
        rintro e w9 ⟨rfl, hb⟩
        rw [show decide (O = O) = true by simp]
        have w0_9 := Lib.hid (ownsRow_below w0_8.out hb (Nat.le_refl _))
        have x0_9 := Lib.hid (ownsRow_below x0_8.out hb (Nat.le_refl _))
        have x1_9 := Lib.hid (ownsRow_below x1_8.out hb (Nat.le_refl _))
        have g0_9 := Lib.hid (ownsRow_below g0_8.out hb (Nat.le_refl _))
        have B9 := B8.trans (hb.mono B8.size)
        have Z9 := hb.size
        have b1o_9 := Lib.hid (ownsRow_below b1o_8.out hb (Nat.le_refl _))
        have b1p_9 := Lib.hid (b1p_8.out.below hb (Nat.le_refl _))
        clear hb w0_8 x0_8 x1_8 g0_8 B8 b1o_8 b1p_8
        go_wp2_with fail
        refine (toArticleS_any s _ _ (HS.out.below B9 (Nat.le_refl _)) hn).mono ?_
        rintro e w10 ⟨v_t0, rfl, ho, hb⟩
        have w0_10 := Lib.hid (ownsRow_below w0_9.out hb (Nat.le_refl _))
        have x0_10 := Lib.hid (ownsRow_below x0_9.out hb (Nat.le_refl _))
        have x1_10 := Lib.hid (ownsRow_below x1_9.out hb (Nat.le_refl _))
        have g0_10 := Lib.hid (ownsRow_below g0_9.out hb (Nat.le_refl _))
        have B10 := B9.trans (hb.mono B9.size)
        have Z10 := hb.size
        have b1o_10 := Lib.hid (ownsRow_below b1o_9.out hb (Nat.le_refl _))
        have b1p_10 := Lib.hid (b1p_9.out.below hb (Nat.le_refl _))
        have t0_10 := Lib.hid ho
        have L_t0 := Lib.hid (fun k hk => ho.lt k hk)
        clear ho hb w0_9 x0_9 x1_9 g0_9 B9 b1o_9 b1p_9
        go_wp2_with fail
        refine (eqArticleS_any _ _ _ _ _ (Rd.of_owns x0_10.out) (Rd.of_owns t0_10.out)).mono ?_
        rintro e w11 ⟨rfl, hb⟩
        rw [show decide (s = s) = true by simp]
        have w0_11 := Lib.hid (ownsRow_below w0_10.out hb (Nat.le_refl _))
        have x0_11 := Lib.hid (ownsRow_below x0_10.out hb (Nat.le_refl _))
        have x1_11 := Lib.hid (ownsRow_below x1_10.out hb (Nat.le_refl _))
        have g0_11 := Lib.hid (ownsRow_below g0_10.out hb (Nat.le_refl _))
        have t0_11 := Lib.hid (ownsRow_below t0_10.out hb (Nat.le_refl _))
        have B11 := B10.trans (hb.mono B10.size)
        have Z11 := hb.size
        have b1o_11 := Lib.hid (ownsRow_below b1o_10.out hb (Nat.le_refl _))
        have b1p_11 := Lib.hid (b1p_10.out.below hb (Nat.le_refl _))
        clear hb w0_10 x0_10 x1_10 g0_10 t0_10 B10 b1o_10 b1p_10
        go_wp2_with fail
        refine (toLineS_any c _ _ (HC.out.below B11 (Nat.le_refl _)) hc).mono ?_
        rintro e w12 ⟨v_t1, rfl, ho, hb⟩
        have w0_12 := Lib.hid (ownsRow_below w0_11.out hb (Nat.le_refl _))
        have x0_12 := Lib.hid (ownsRow_below x0_11.out hb (Nat.le_refl _))
        have x1_12 := Lib.hid (ownsRow_below x1_11.out hb (Nat.le_refl _))
        have g0_12 := Lib.hid (ownsRow_below g0_11.out hb (Nat.le_refl _))
        have B12 := B11.trans (hb.mono B11.size)
        have Z12 := hb.size
        have b1o_12 := Lib.hid (ownsRow_below b1o_11.out hb (Nat.le_refl _))
        have b1p_12 := Lib.hid (b1p_11.out.below hb (Nat.le_refl _))
        have t1_12 := Lib.hid ho
        have L_t1 := Lib.hid (fun k hk => ho.lt k hk)
        clear ho hb w0_11 x0_11 x1_11 g0_11 B11 b1o_11 b1p_11
        go_wp2_with fail
        refine (eqLineS_any _ _ _ _ _ (Rd.of_owns x1_12.out) (Rd.of_owns t1_12.out)).mono ?_
        rintro e w13 ⟨rfl, hb⟩
        rw [show decide (c = c) = true by simp]
        have w0_13 := Lib.hid (ownsRow_below w0_12.out hb (Nat.le_refl _))
        have x0_13 := Lib.hid (ownsRow_below x0_12.out hb (Nat.le_refl _))
        have x1_13 := Lib.hid (ownsRow_below x1_12.out hb (Nat.le_refl _))
        have g0_13 := Lib.hid (ownsRow_below g0_12.out hb (Nat.le_refl _))
        have t1_13 := Lib.hid (ownsRow_below t1_12.out hb (Nat.le_refl _))
        have B13 := B12.trans (hb.mono B12.size)
        have Z13 := hb.size
        have b1o_13 := Lib.hid (ownsRow_below b1o_12.out hb (Nat.le_refl _))
        have b1p_13 := Lib.hid (b1p_12.out.below hb (Nat.le_refl _))
        clear hb w0_12 x0_12 x1_12 g0_12 t1_12 B12 b1o_12 b1p_12
        go_wp2_with fail
        refine (toBundleS_any B _ _ (HV.out.below B13 (Nat.le_refl _)) hbl hbl2).mono ?_
        rintro e w14 ⟨C_b2, g_b2, rfl, hsame, ho, hp, hb, hdis⟩
        have S_b2 := Lib.hid hsame
        have hr := Lib.hid (ToB.rdB ho hp)
        have w0_14 := Lib.hid (ownsRow_below w0_13.out hb (Nat.le_refl _))
        have x0_14 := Lib.hid (ownsRow_below x0_13.out hb (Nat.le_refl _))
        have x1_14 := Lib.hid (ownsRow_below x1_13.out hb (Nat.le_refl _))
        have g0_14 := Lib.hid (ownsRow_below g0_13.out hb (Nat.le_refl _))
        have B14 := B13.trans (hb.mono B13.size)
        have Z14 := hb.size
        have b1o_14 := Lib.hid (ownsRow_below b1o_13.out hb (Nat.le_refl _))
        have b1p_14 := Lib.hid (b1p_13.out.below hb (Nat.le_refl _))
        have b2_14 := Lib.hid hr.out
        clear hr
        clear ho hp hb hsame hdis w0_13 x0_13 x1_13 g0_13 B13 b1o_13 b1p_13
        go_wp2_with fail
        refine (eqBundleS_any C_b1 C_b2 _ _ _ (⟨Rd.of_owns (by rw [S_b1.out.1]; exact b1o_14.out), fun y hy => Rd.of_owns (b1p_14.out y hy).1⟩ : RdB _ _ C_b1) b2_14.out (S_b1.out.symm.trans S_b2.out)).mono ?_
        rintro e w15 ⟨rfl, hb⟩
        have w0_15 := Lib.hid (ownsRow_below w0_14.out hb (Nat.le_refl _))
        have x0_15 := Lib.hid (ownsRow_below x0_14.out hb (Nat.le_refl _))
        have x1_15 := Lib.hid (ownsRow_below x1_14.out hb (Nat.le_refl _))
        have g0_15 := Lib.hid (ownsRow_below g0_14.out hb (Nat.le_refl _))
        have B15 := B14.trans (hb.mono B14.size)
        have Z15 := hb.size
        have b2_15 := Lib.hid (b2_14.out.below hb (Nat.le_refl _))
        have b1o_15 := Lib.hid (ownsRow_below b1o_14.out hb (Nat.le_refl _))
        have b1p_15 := Lib.hid (b1p_14.out.below hb (Nat.le_refl _))
        clear hb w0_14 x0_14 x1_14 g0_14 B14 b2_14 b1o_14 b1p_14
        go_wp2_with fail
        refine (markArtK_any _ _ _ s _ 1 _ x0_15.out (by omega) (by omega) (by omega) (fun b hb => L_x0.out b hb)).mono ?_
        rintro e w16 ⟨rfl, hK, hblk⟩
        have hg : w15.grownBy w16 (v_x0).ownBlock := ⟨hK.os, hK.tape, hK.output, hK.size, fun i hi hr => hblk i hr hi⟩
        clear hK hblk
        have w0_16 := Lib.hid (owns_apart w0_15.out hg (fun k k' h1 h2 => by have := L_w0.out k h1; have := L_x0.out k' h2; omega))
        have x1_16 := Lib.hid (owns_apart x1_15.out hg (fun k k' h1 h2 => by have := L_x1.out k h1; have := L_x0.out k' h2; omega))
        have g0_16 := Lib.hid (owns_apart g0_15.out hg (fun k k' h1 h2 => by have := L_g0.out k h1; have := L_x0.out k' h2; omega))
        have b1o_16 := Lib.hid (owns_apart b1o_15.out hg (fun k k' h1 h2 => by simp only [Value.ownBlock, Option.some.injEq] at h1; have := L_b1.out k (.inl h1.symm); have := L_x0.out k' h2; omega))
        have b1p_16 := Lib.hid (b1p_15.out.grown hg (fun y hy k hk e => by have := L_b1.out k (.inr ⟨y, hy, hk⟩); have := L_x0.out k e; omega))
        have B16 := B15.grown hg B15.size (fun k hk => by have := L_x0.out k hk; omega)
        have Z16 := hg.size
        clear hg w0_15 x1_15 g0_15 b1o_15 b1p_15 B15 x0_15
        go_wp2_with fail
        refine (markLinK_any _ _ _ c _ _ _ x1_16.out (by omega) (by omega) (by omega) (fun b hb => L_x1.out b hb)).mono ?_
        rintro e w17 ⟨rfl, hK, hblk⟩
        have hg : w16.grownBy w17 (v_x1).ownBlock := ⟨hK.os, hK.tape, hK.output, hK.size, fun i hi hr => hblk i hr hi⟩
        clear hK hblk
        have w0_17 := Lib.hid (owns_apart w0_16.out hg (fun k k' h1 h2 => by have := L_w0.out k h1; have := L_x1.out k' h2; omega))
        have g0_17 := Lib.hid (owns_apart g0_16.out hg (fun k k' h1 h2 => by have := L_g0.out k h1; have := L_x1.out k' h2; omega))
        have b1o_17 := Lib.hid (owns_apart b1o_16.out hg (fun k k' h1 h2 => by simp only [Value.ownBlock, Option.some.injEq] at h1; have := L_b1.out k (.inl h1.symm); have := L_x1.out k' h2; omega))
        have b1p_17 := Lib.hid (b1p_16.out.grown hg (fun y hy k hk e => by have := L_b1.out k (.inr ⟨y, hy, hk⟩); have := L_x1.out k e; omega))
        have B17 := B16.grown hg B16.size (fun k hk => by have := L_x1.out k hk; omega)
        have Z17 := hg.size
        clear hg w0_16 g0_16 b1o_16 b1p_16 B16 x1_16
        go_wp2_with fail
        refine (markBunK_any _ _ _ g_b1 C_b1 B.length B.length _ _ b1o_17.out b1p_17.out D_b1.out (by omega) (by omega) (by omega) (fun b hb => L_b1.out b hb)).mono ?_
        rintro e w18 ⟨z, rfl, hz0, hK⟩
        have hzb : decide (z < 0) = false := by rw [decide_eq_false_iff_not]; omega
        have w0_18 := Lib.hid (hK.owns w0_17.out (fun k hk => by have := L_w0.out k hk; omega))
        have g0_18 := Lib.hid (hK.owns g0_17.out (fun k hk => by have := L_g0.out k hk; omega))
        have B18 := hK.below B17 (by omega) B17.size
        have Z18 := hK.size
        clear hK w0_17 g0_17 B17 b1o_17 b1p_17
        go_wp2_with fail
        refine (eqIntS_any _ _ _ _ _ (Rd.of_owns g0_18.out) (Rd.of_owns w0_18.out)).mono ?_
        rintro e w19 ⟨rfl, hb⟩
        rw [show decide (O = O) = true by simp]
        have w0_19 := Lib.hid (ownsRow_below w0_18.out hb (Nat.le_refl _))
        have g0_19 := Lib.hid (ownsRow_below g0_18.out hb (Nat.le_refl _))
        have B19 := B18.trans (hb.mono B18.size)
        have Z19 := hb.size
        clear hb w0_18 g0_18 B18
        go_wp2_with fail
        refine (markIntS_any _ _ _ 1 _ g0_19.out (by omega) (by omega) (by omega)).mono ?_
        rintro e w20 ⟨rfl, ho, hg⟩
        have w0_20 := Lib.hid (owns_apart w0_19.out hg (fun k k' h1 h2 => by have := L_w0.out k h1; have := L_g0.out k' h2; omega))
        have B20 := B19.grown hg B19.size (fun k hk => by have := L_g0.out k hk; omega)
        have Z20 := hg.size
        have g0_20 : Hid (Rd w20 1 v_g0 (markL 1 (O).length).length (it (markL 1 (O).length))) := by
          rw [Hid, markL_len]; exact Rd.of_owns ho
        clear ho hg w0_19 B19 g0_19
        have HML := Lib.hid (markL_len 1 (O).length)
        have HMK : Hid (markL 1 (O).length = markL 1 (markL 1 (O).length).length) := by rw [Hid, HML.out]
        go_wp2_with fail
        refine (heldIntS_any _ _ 1 _ g0_20.out (by rw [HML.out]; omega) (by omega) (by omega) HMK.out).mono ?_
        rintro e wh ⟨rfl, rfl⟩
        rw [HML.out]
        go_wp2_with fail
        refine (toArticleS_any s _ _ (HS.out.below B20 (Nat.le_refl _)) hn).mono ?_
        rintro e w21 ⟨v_y0, rfl, ho, hb⟩
        have w0_21 := Lib.hid (ownsRow_below w0_20.out hb (Nat.le_refl _))
        have g0_21 := Lib.hid (g0_20.out.below hb (Nat.le_refl _))
        have B21 := B20.trans (hb.mono B20.size)
        have Z21 := hb.size
        have y0_21 := Lib.hid ho
        have L_y0 := Lib.hid (fun k hk => ho.lt k hk)
        clear ho hb w0_20 g0_20 B20
        go_wp2_with fail
        refine (toLineS_any c _ _ (HC.out.below B21 (Nat.le_refl _)) hc).mono ?_
        rintro e w22 ⟨v_y1, rfl, ho, hb⟩
        have w0_22 := Lib.hid (ownsRow_below w0_21.out hb (Nat.le_refl _))
        have g0_22 := Lib.hid (g0_21.out.below hb (Nat.le_refl _))
        have y0_22 := Lib.hid (ownsRow_below y0_21.out hb (Nat.le_refl _))
        have B22 := B21.trans (hb.mono B21.size)
        have Z22 := hb.size
        have y1_22 := Lib.hid ho
        have L_y1 := Lib.hid (fun k hk => ho.lt k hk)
        clear ho hb w0_21 g0_21 y0_21 B21
        go_wp2_with fail
        refine (toBundleS_any B _ _ (HV.out.below B22 (Nat.le_refl _)) hbl hbl2).mono ?_
        rintro e w23 ⟨C_b3, g_b3, rfl, hsame, ho, hp, hb, hdis⟩
        have S_b3 := Lib.hid hsame
        have hr := Lib.hid (ToB.rdB ho hp)
        have w0_23 := Lib.hid (ownsRow_below w0_22.out hb (Nat.le_refl _))
        have g0_23 := Lib.hid (g0_22.out.below hb (Nat.le_refl _))
        have y0_23 := Lib.hid (ownsRow_below y0_22.out hb (Nat.le_refl _))
        have y1_23 := Lib.hid (ownsRow_below y1_22.out hb (Nat.le_refl _))
        have B23 := B22.trans (hb.mono B22.size)
        have Z23 := hb.size
        have b3_23 := Lib.hid hr.out
        clear hr
        clear ho hp hb hsame hdis w0_22 g0_22 y0_22 y1_22 B22
        go_wp2_with fail
        refine (implBB_any s _ c _ C_b3 _ _ (Rd.of_owns y0_23.out) (Rd.of_owns y1_23.out) b3_23.out).mono ?_
        rintro e w24 ⟨v_h0, rfl, ho, hb⟩
        rw [S_b3.out.fBest s c, ← HO.out] at ho
        have w0_24 := Lib.hid (ownsRow_below w0_23.out hb (Nat.le_refl _))
        have g0_24 := Lib.hid (g0_23.out.below hb (Nat.le_refl _))
        have y0_24 := Lib.hid (ownsRow_below y0_23.out hb (Nat.le_refl _))
        have y1_24 := Lib.hid (ownsRow_below y1_23.out hb (Nat.le_refl _))
        have B24 := B23.trans (hb.mono B23.size)
        have Z24 := hb.size
        have b3_24 := Lib.hid (b3_23.out.below hb (Nat.le_refl _))
        have h0_24 := Lib.hid ho
        have L_h0 := Lib.hid (fun k hk => ho.lt k hk)
        clear ho hb w0_23 g0_23 y0_23 y1_23 B23 b3_23
        go_wp2_with fail
        refine (eqIntS_any _ _ _ _ _ (Rd.of_owns h0_24.out) (Rd.of_owns w0_24.out)).mono ?_
        rintro e w25 ⟨rfl, hb⟩
        rw [show decide (O = O) = true by simp]
        have w0_25 := Lib.hid (ownsRow_below w0_24.out hb (Nat.le_refl _))
        have g0_25 := Lib.hid (g0_24.out.below hb (Nat.le_refl _))
        have h0_25 := Lib.hid (ownsRow_below h0_24.out hb (Nat.le_refl _))
        have B25 := B24.trans (hb.mono B24.size)
        have Z25 := hb.size
        clear hb w0_24 g0_24 h0_24 B24
        go_wp2_with fail
        refine (heldIntS_any _ _ 1 _ g0_25.out (by rw [HML.out]; omega) (by omega) (by omega) HMK.out).mono ?_
        rintro e wh ⟨rfl, rfl⟩
        rw [HML.out]
        go_wp2
        go_ret
        exact ⟨rfl, B25⟩
    · have hsz2 : Hid (szL (1048576 - s.length) c.length = -1) := by rw [Hid, szL, if_pos (by omega)]
      go_enter Try.func9, Try.ntmps9
      go_wp2_with fail
      refine (szArticleS_any _ _ _ _ _ (by omega) (by omega) (by omega)).mono ?_
      rintro e w0 ⟨rfl, rfl⟩
      rw [hsz.out]
      go_wp2_with fail
      refine (szLineS_any _ _ _ _ _ (by omega) (by omega) (by omega)).mono ?_
      rintro e w0 ⟨rfl, rfl⟩
      rw [hsz2.out]
      go_wp2
      go_ret
      exact ⟨rfl, Below.refl _ _⟩
  · have hsz : Hid (szL 1048576 s.length = -1) := by rw [Hid, szL, if_pos (by omega)]
    go_enter Try.func9, Try.ntmps9
    go_wp2_with fail
    refine (szArticleS_any _ _ _ _ _ (by omega) (by omega) (by omega)).mono ?_
    rintro e w0 ⟨rfl, rfl⟩
    rw [hsz.out]
    go_wp2
    go_ret
    exact ⟨rfl, Below.refl _ _⟩

open Go.ChangeShapes Go.WideShapes Go.ChangeAt

theorem lawOwn : ownKnob Try.prog.godebug = none := by kernel_rfl
theorem lawOut : laidOutB Try.prog = true := by kernel_rfl

set_option linter.unusedVariables false in
set_option maxRecDepth 100000 in
theorem liftedExactBestBundles (os : Os) (started : os.Started) (H : Type) (enc : TypeId × Value → H) :
    ReturnsInHanded {} Try.checked os 9 .any (Rows.fnExactBestBundlesSpec.pre6 enc Try.prog Try.f9 Rows.fnExactBestBundlesRow.domain false) (Rows.fnExactBestBundlesSpec.post enc Try.prog Try.f9 false true false false) := by
  refine returnsInHanded_of_change (C := Try.checked) lawOwn started (by kernel_rfl) Try.func9
    (ChangeSpec.witness6 (enc := enc) (C := Try.checked) false ⟨#[], #[.slice none 0 0, .slice none 0 0, .slice none 0 0], []⟩ 8 (by kernel_rfl) (by kernel_rfl) (by kernel_rfl) (by kernel_rfl)) ?_
  intro W base args ds gs before hval0 hW hcnd _
  have hval : ∀ (j : Nat) t v, Try.f9.params[j]? = some t → args[j]? = some v → Value.okWide Try.prog W .any base t v := hval0
  have hW' := hW
  obtain ⟨p, q, hA0, hV, rfl, hfz, hnd⟩ := hW
  have hA : DataW.TrodAll enc Try.prog W 0 (fun _ => true) true Try.f9.params.toList args.toList ds p := hA0
  rw [Try.params9] at hA hval
  obtain ⟨v0, vs0, d0, ds0, p0, q0, hargs, rfl, rfl, h0, r0⟩ := trodAll_cons hA
  obtain ⟨v1, vs1, d1, ds1, p1, q1, rfl, rfl, rfl, h1, r1⟩ := trodAll_cons r0
  obtain ⟨v2, vs2, d2, ds2, p2, q2, rfl, rfl, rfl, h2, r2⟩ := trodAll_cons r1
  obtain ⟨rfl, rfl, rfl⟩ := trodAll_nil r2
  obtain rfl : args = #[v0, v1, v2] := by cases args; simp_all
  obtain ⟨rfl, rfl⟩ := trodVars_none hV
  have k0 := h0
  have lt0 : ∀ x ∈ p0, x.block < W.heap.size := by obtain ⟨m, hm⟩ := k0; exact DataW.trod_lt m _ _ _ hm
  have k1 := h1
  have lt1 : ∀ x ∈ p1, x.block < W.heap.size := by obtain ⟨m, hm⟩ := k1; exact DataW.trod_lt m _ _ _ hm
  have k2 := h2
  have lt2 : ∀ x ∈ p2, x.block < W.heap.size := by obtain ⟨m, hm⟩ := k2; exact DataW.trod_lt m _ _ _ hm
  clear hA0 hval0
  obtain ⟨z0, w0⟩ : ∃ z : List Art, Rd W 4 v0 z.length (ar z) := by
    obtain ⟨a0, n0, c0, rfl⟩ := okWide_slice Try.underlying22 (hval 0 22 v0 rfl rfl)
    obtain ⟨fuel, hf⟩ := h0
    exact open_arts Try.underlying22 Try.underlying77 (by kernel_rfl) rfl rfl rfl rfl (by kernel_rfl) (by kernel_rfl) (by kernel_rfl) (by kernel_rfl) Try.underlying3 Try.underlying3 Try.underlying3 Try.underlying3 hf
  obtain ⟨z1, w1⟩ : ∃ z : List (Int × Int), Rd W 2 v1 z.length (pr z) := by
    obtain ⟨a0, n0, c0, rfl⟩ := okWide_slice Try.underlying23 (hval 1 23 v1 rfl rfl)
    obtain ⟨fuel, hf⟩ := h1
    exact open_prs Try.underlying23 Try.underlying93 (by kernel_rfl) rfl rfl (by kernel_rfl) (by kernel_rfl) Try.underlying3 Try.underlying3 hf
  obtain ⟨z2, w2⟩ : ∃ z : List Bn, RdB W v2 z := by
    obtain ⟨a0, n0, c0, rfl⟩ := okWide_slice Try.underlying51 (hval 2 51 v2 rfl rfl)
    obtain ⟨fuel, hf⟩ := h2
    exact open_bundles Try.underlying51 Try.underlying25 (by kernel_rfl) rfl rfl (by kernel_rfl) (by kernel_rfl) Try.underlying23 Try.underlying3 Try.underlying93 (by kernel_rfl) rfl rfl (by kernel_rfl) (by kernel_rfl) Try.underlying3 Try.underlying3 hf
  refine (lawExactBestBundles z0 v0 z1 v1 z2 v2 W w0 w1 w2).mono fun e W' ⟨he, bel⟩ => ?_
  subst he
  exact ⟨_, rfl, _, _, _, [], _, [], hW', trodAll_mk1 (shut_bool Try.underlying4 _), (trodAll_cons_mk (Below.trod lawOut (by kernel_rfl) (of_decide_eq_true (by kernel_rfl)) k0 bel lt0) (trodAll_cons_mk (Below.trod lawOut (by kernel_rfl) (of_decide_eq_true (by kernel_rfl)) k1 bel lt1) (trodAll_cons_mk (Below.trod lawOut (by kernel_rfl) (of_decide_eq_true (by kernel_rfl)) k2 bel lt2) trodAll_mk0))), rfl, bel.frame _, fun h => by cases h⟩

theorem closedExactBestBundles : joinedFacts Try.pinned.checked.prog 9 Try.f9 Rows.fnExactBestBundlesSpec Rows.fnExactBestBundlesRow = true := by
  unfold joinedFacts
  rw [headEnters, headMake, headFinal]
  kernel_rfl

theorem holdsExactBestBundles : Rows.FnExactBestBundlesSaid :=
  OpenClaim.holds_of_wide 9 Try.f9 rfl rfl rfl rfl rfl rfl rfl ⟨rfl, rfl, rfl, rfl, rfl⟩ rfl rfl rfl rfl rfl (by kernel_rfl) Try.func9 closedExactBestBundles
    (of_decide_eq_true (by kernel_rfl)) (by unfold Func.isWrapper; first | (rw [if_pos (by decide +kernel)]; kernel_rfl) | (rw [if_neg (by decide +kernel)]; exact ⟨rfl, rfl⟩))
    (fun os started H enc _ => liftedExactBestBundles os started H enc)

#print axioms holdsExactBestBundles

end Go.Proofs.Ytomapdedajdkkab
