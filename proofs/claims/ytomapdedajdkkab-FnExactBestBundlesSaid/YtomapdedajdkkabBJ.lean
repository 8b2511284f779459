/- The walk of the closure of BestBundles, which calls itself. Conditions: none. -/
import Derived.Test.YtomapdedajdkkabBI
import Derived.Deep.RegionHeld3
import Derived.RegionTactic
import Derived.ChangeAlike
namespace Go.Proofs.Ytomapdedajdkkab
open Go.RowKit

theorem upd_nil (st : Int × List Int) (gain : Int) (now : List Int) (n : Nat) (hn : now.length = n) : upd st (gain + (0, ([] : List Int)).1) (now.take n ++ (0, ([] : List Int)).2) = upd st gain now := by
  subst hn
  simp

set_option maxHeartbeats 4000000 in
set_option maxRecDepth 100000 in
theorem try_leaf (s : List Art) (B : List Bn) (W : World) (so lo : Option Addr) (scap lcap : Nat) (S L M N Bb Hb Tb gH gN cH cN nH nN : Nat) (O : Ord W.heap.size S L M N Bb Hb Tb gH gN) (gain m : Int) (h now best : List Int) (w : World) (hnN : nN = B.length) (hB3 : B.length ≤ 3)
    (E : Env W (.slice so s.length scap) (.slice lo B.length lcap) S L M N Bb Hb Tb gH gN cH cN nH nN w h now best m) :
    Calls Try.prog 60 #[.int .i64 (B.length : Int), .int .i64 gain, .pointer (some ⟨L, 0, none⟩), .pointer (some ⟨M, 0, none⟩), .pointer (some ⟨N, 0, none⟩), .pointer (some ⟨Bb, 0, none⟩), .pointer (some ⟨S, 0, none⟩), .pointer (some ⟨Hb, 0, none⟩), .pointer (some ⟨Tb, 0, none⟩)] w fun e w' => e = .returned (.tuple #[]) ∧ Env W (.slice so s.length scap) (.slice lo B.length lcap) S L M N Bb Hb Tb gH gN cH cN nH nN w' h now (upd (m, best) gain now).2 (upd (m, best) gain now).1 := by
  subst hnN
  obtain ⟨i0, hi, hz0, hz1, hz2⟩ := info_parts Try.info3b
  have HI := Lib.hid hi
  have HZ0 := Lib.hid hz0
  have HZ1 := Lib.hid hz1
  have HZ2 := Lib.hid hz2
  have HE := Lib.hid E
  have HO := Lib.hid O
  have cL := cell_of_one E.iL
  have cM := cell_of_one E.iM
  have hkb : ((B.length : Int) == (B.length : Int)) = true := by simp
  by_cases hg : m < gain
  · have fin : Hid (upd (m, best) gain now = (gain, now)) := by unfold Hid upd; rw [if_pos hg]
    have fM := free_of_one E.iM
    have E1 := E.setMost O gain
    have HE1 := Lib.hid E1
    have c4 := cell_of_one E.iN
    have N1 := Lib.hid (E1.alloc (.cells #[] 3)).oN
    have hnl := E.nl
    have hszM : (w.setCell ⟨M, 0, none⟩ (.int .i64 gain)).heap.size = w.heap.size := by simp
    have O1 := Lib.hid (show ((w.setCell ⟨M, 0, none⟩ (.int .i64 gain)).alloc (.cells #[] 3)).ownsRow w.heap.size 3 1 (.slice (some ⟨w.heap.size, 0, none⟩) 0 0) 0 [] from by
      have := World.ownsRow_made (base := w.heap.size) (e := 3) (size := 1) (w.setCell ⟨M, 0, none⟩ (.int .i64 gain)) #[] 0 (by simp) (by simp) (by simp)
      rw [hszM] at this; exact this)
    have HSZ := Lib.hid hszM
    have E0 := Lib.hid E.old.size
    have HT := Lib.hid (lt_of_block E.iT)
    have HNL := Lib.hid hnl
    have hNM : ¬ N = M := by unfold Ord at O; omega
    have hMN : ¬ M = N := by omega
    have hNw := lt_of_block E.iN
    have hMw := lt_of_block E.iM
    have hNz : ¬ N = w.heap.size := by omega
    have hMz : ¬ M = w.heap.size := by omega
    have hB1 := Lib.hid (show Below w.heap.size (w.setCell ⟨M, 0, none⟩ (.int .i64 gain)) ((w.setCell ⟨M, 0, none⟩ (.int .i64 gain)).alloc (.cells #[] 3)) from (by have := (Below.refl (w.setCell ⟨M, 0, none⟩ (.int .i64 gain)).heap.size (w.setCell ⟨M, 0, none⟩ (.int .i64 gain))).alloc (Nat.le_refl _) (.cells #[] 3); rw [hszM] at this; exact this))
    have hsml : B.length ≤ 1000000 := by omega
    clear hi hz0 hz1 hz2 E1 E hnl hszM O
    go_enter Try.func60, Try.ntmps60
    go_wp2_with (at_builtin; refine app_copy1 rfl (.tmp 25) (.tmp 26) 42 rfl w.heap.size W.heap.size 3 i0 _ Try.underlying42 HI.out HZ0.out HZ1.out HZ2.out rfl _ rfl O1.out now _ rfl (by rw [HNL.out]; exact N1.out) (by rw [HNL.out]; omega) (by simp) ?_; intro vA wA hoA hgA; have BA := below_row (w := w.setCell ⟨M, 0, none⟩ (.int .i64 gain)) (by rw [HSZ.out]; exact hB1.out) hgA (fun k hk => by obtain rfl : w.heap.size = k := Option.some.inj hk; rw [HSZ.out]; exact Nat.le_refl _); have E2 := Lib.hid (HE1.out.below BA); have OA := Lib.hid hoA; obtain ⟨va, vcap, rfl, _⟩ := owns_shape OA.out; obtain ⟨vb, v1, _⟩ := E2.out.iB; have cB := cell_of_one v1; have fB := free_of_one v1; clear hoA hgA v1)
    refine bodyPost_ret (results_none rfl _ _ _) rfl ?_
    rw [fin.out]
    refine ⟨rfl, E2.out.setBest HO.out _ now (owns_base OA.out E0.out) (fun k hk => ?_)⟩
    have h1 := (OA.out.lt k hk).1
    have h2 := HO.out
    have h3 := HT.out
    unfold Ord at h2
    omega
  · have fin : Hid (upd (m, best) gain now = (m, best)) := by unfold Hid upd; rw [if_neg hg]
    have hgb : decide (m < gain) = false := by simpa using hg
    clear hi hz0 hz1 hz2 E O
    go_enter Try.func60, Try.ntmps60
    go_wp2
    refine bodyPost_ret (results_none rfl _ _ _) rfl ?_
    rw [fin.out]
    exact ⟨rfl, HE.out⟩

theorem take_set (l : List Int) (k : Nat) (c : Int) (h : k < l.length) : (l.set k c).take (k + 1) = l.take k ++ [c] := by
  rw [List.take_succ_eq_append_getElem (by rw [List.length_set]; exact h), List.getElem_set_self, List.take_set_of_le (Nat.le_refl _)]

set_option maxHeartbeats 16000000 in
set_option maxRecDepth 100000 in
theorem implTry_any (s : List Art) (B : List Bn) (W : World) (so lo : Option Addr) (scap lcap : Nat) (S L M N Bb Hb Tb gH gN cH cN : Nat) (hok : ∀ k, k < B.length → bOkT s B k = true) (hB3 : B.length ≤ 3) (hs10 : s.length ≤ 10) (O : Ord W.heap.size S L M N Bb Hb Tb gH gN) (hsW : Rd W 4 (.slice so s.length scap) s.length (ar s)) (hlW : RdB W (.slice lo B.length lcap) B) :
    ∀ (r k : Nat) (gain m : Int) (h now best : List Int) (w : World), k + r = B.length → Env W (.slice so s.length scap) (.slice lo B.length lcap) S L M N Bb Hb Tb gH gN cH cN s.length B.length w h now best m → okH h → 0 ≤ gain → gain ≤ 16000000 * k →
    Calls Try.prog 60 #[.int .i64 k, .int .i64 gain, .pointer (some ⟨L, 0, none⟩), .pointer (some ⟨M, 0, none⟩), .pointer (some ⟨N, 0, none⟩), .pointer (some ⟨Bb, 0, none⟩), .pointer (some ⟨S, 0, none⟩), .pointer (some ⟨Hb, 0, none⟩), .pointer (some ⟨Tb, 0, none⟩)] w fun e w' => e = .returned (.tuple #[]) ∧ ∃ now', now'.take k = now.take k ∧ Env W (.slice so s.length scap) (.slice lo B.length lcap) S L M N Bb Hb Tb gH gN cH cN s.length B.length w' h now' (upd (m, best) (gain + (bestQ s ((qsB B).drop k) h).1) (now.take k ++ (bestQ s ((qsB B).drop k) h).2)).2 (upd (m, best) (gain + (bestQ s ((qsB B).drop k) h).1) (now.take k ++ (bestQ s ((qsB B).drop k) h).2)).1 := by
  intro r
  induction r with
  | zero =>
    intro k gain m h now best w hk E _ _ _
    obtain rfl : k = B.length := by omega
    rw [qsB_end]
    refine (try_leaf s B W so lo scap lcap S L M N Bb Hb Tb gH gN cH cN s.length B.length O gain m h now best w rfl hB3 E).mono ?_
    rintro e w' ⟨rfl, E'⟩
    have hu := upd_nil (m, best) gain now B.length E.nl
    exact ⟨rfl, now, rfl, by rw [show bestQ s [] h = (0, []) from rfl, hu]; exact E'⟩
  | succ r ih =>
    intro k gain m h now best w hkr E hoh hg0 hg1
    have hkl : k < B.length := by omega
    have hkb : ((k : Int) == (B.length : Int)) = false := by rw [beq_eq_false_iff_ne]; omega
    have hlen := E.hl
    have hnl := E.nl
    have HNL0 := Lib.hid hnl
    have HS := Lib.hid hsW
    have HL := Lib.hid hlW
    have HOH := Lib.hid hoh
    have HLEN := Lib.hid hlen
    have HO := Lib.hid O
    obtain ⟨lo', lcap', e1, _, _, hrl⟩ := hlW.open
    simp only [Value.slice.injEq, true_and] at e1
    obtain ⟨e1a, e1b⟩ := e1
    subst e1a
    subst e1b
    obtain ⟨lb, loff, rfl, hlb, hcl⟩ := hrl (by omega)
    obtain ⟨q0, q1⟩ := hcl k hkl
    have hpx := hlW.2 _ (bT_mem hkl)
    obtain ⟨po, pcap, hpe, _, _, hpr⟩ := hpx.pairs
    rw [hpe] at q0 hpx
    have hbk := hok k hkl
    unfold bOkT at hbk
    obtain ⟨hvc, hpl0, _, _⟩ := bOk_pr hbk
    have hvl := (vCart_pr hvc).2
    have hgn := gain_nn hbk
    obtain ⟨pb, poff, rfl, hpb, hpc⟩ := hpr hpl0
    have HPC := Lib.hid hpc
    have HVL := Lib.hid hvl
    have HBK := Lib.hid hbk
    have hqk := Lib.hid (okQ_drop (okQ_all hok) (k + 1))
    have htm := tm_nn hvl hlen hoh
    obtain ⟨n, hn⟩ := Int.eq_ofNat_of_zero_le htm.1
    have hl8 := (vLines_all hvl).2
    have hn20 : n ≤ 20 := by omega
    obtain ⟨hG0, hG8⟩ := hgn
    obtain ⟨G, hG⟩ : ∃ G, G = fGain s (bT B k).l (bT B k).p := ⟨_, rfl⟩
    rw [← hG] at hG0 hG8
    have HG := Lib.hid hG
    have HN := Lib.hid hn
    have fin : Hid (bestQ s ((qsB B).drop k) h = lpQ (fun c => bestQ s ((qsB B).drop (k + 1)) (lsL h (bT B k).l c (bT B k).l.length)) G n (n + 1)) := by
      unfold Hid
      rw [qsB_drop hkl, hG]
      show lpQ _ _ (tmN h (bT B k).l (bT B k).l.length) ((tmN h (bT B k).l (bT B k).l.length).toNat + 1) = _
      rw [hn]; rfl
    rw [fin.out]
    obtain ⟨lp, hlp⟩ : ∃ lp : Nat → Int × List Int, lp = lpQ (fun c => bestQ s ((qsB B).drop (k + 1)) (lsL h (bT B k).l c (bT B k).l.length)) G n := ⟨_, rfl⟩
    rw [← hlp]
    have hstep : Hid (∀ j : Nat, j ≤ n → lp (j + 1) = if (lp j).1 < (bestQ s ((qsB B).drop (k + 1)) (lsL h (bT B k).l ((n : Int) - j) (bT B k).l.length)).1 + ((n : Int) - j) * G then ((bestQ s ((qsB B).drop (k + 1)) (lsL h (bT B k).l ((n : Int) - j) (bT B k).l.length)).1 + ((n : Int) - j) * G, ((n : Int) - j) :: (bestQ s ((qsB B).drop (k + 1)) (lsL h (bT B k).l ((n : Int) - j) (bT B k).l.length)).2) else lp j) := fun j _ => by rw [hlp]; rfl
    have h00 : Hid (lp 0 = (-1, [])) := by rw [hlp]; rfl
    have hbb : Hid (∀ c, 0 ≤ c → c ≤ (n : Int) → okH (lsL h (bT B k).l c (bT B k).l.length) ∧ 0 ≤ (bestQ s ((qsB B).drop (k + 1)) (lsL h (bT B k).l c (bT B k).l.length)).1) := fun c h0 h1 => by
      have o1 := okH_lsL HVL.out h0 (by rw [HN.out]; exact h1) HOH.out (bT B k).l.length
      have o2 := bestQ_fits (s := s) ((qsB B).drop (k + 1)) (lsL h (bT B k).l c (bT B k).l.length) hqk.out (by rw [lsL_len]; exact HLEN.out) o1
      exact ⟨o1, o2.2.2.1⟩
    have okl : Hid (∀ c i, 0 ≤ c → c ≤ (n : Int) → okH (lsL h (bT B k).l c i)) := fun c i h0 h1 => okH_lsL HVL.out h0 (by rw [HN.out]; exact h1) HOH.out i
    have okd : Hid (∀ c i, 0 ≤ c → c ≤ (n : Int) → okH (mdL h (bT B k).l c i)) := fun c i h0 h1 => okH_mdL HVL.out h0 (by rw [HN.out]; exact h1) HOH.out i
    have hw1 : IntKind.i64.wrap ((k : Int) + 1) = (k : Int) + 1 := IntWalk.i64_in _ (by omega)
    have HIH := Lib.hid ih
    have HQ0 := Lib.hid q0
    have HQ1 := Lib.hid q1
    have HPX := Lib.hid hpx
    have HE := Lib.hid E
    have HH1 : Hid (∀ j, j < h.length → 0 ≤ iG h j ∧ iG h j ≤ 1000000) := fun j hj => by have := HOH.out j hj; omega
    have HH2 : Hid (∀ j, j < (bT B k).l.length → 0 ≤ pA (bT B k).l j ∧ pA (bT B k).l j < h.length ∧ 1 ≤ pB (bT B k).l j ∧ pB (bT B k).l j ≤ 20) := fun j hj => by have := lnOk_pr ((vLines_all HVL.out).1 j hj); have := HLEN.out; omega
    have HH3 : Hid (h.length ≤ 1000000 ∧ (bT B k).l.length ≤ 1000000) := by unfold Hid; omega
    have cL := cell_of_one E.iL
    have cS := cell_of_one E.iS
    have g0 := (E.old.cell (p := ⟨lb, loff + k * 2, none⟩) hlb).trans q0
    have g1 := (E.old.cell (p := ⟨lb, loff + k * 2 + 1, none⟩) hlb).trans q1
    have hLw := lt_of_block E.iL
    have hSw := lt_of_block E.iS
    have hlw := Nat.lt_of_lt_of_le hlb E.old.size
    have BD : Below w.heap.size w w.drew := (Below.refl _ _).drew
    have hk0 : (0 : Int) ≤ (k : Int) := by omega
    have hk1 : (k : Int) < (B.length : Int) := by omega
    clear ih hok hsW hlW hoh hrl hcl hpx hpr hpc hvl hbk hvc hG hlp htm hpe hpl0 hlen hnl O q0 q1 E hn
    go_enter Try.func60, Try.ntmps60
    go_wp2_with fail
    go_region_held3 (fun w' => w'.cell? ⟨L, 0, none⟩ = some (.slice (some ⟨lb, loff, none⟩) B.length lcap) ∧ w'.cell? ⟨S, 0, none⟩ = some (.slice so s.length scap) ∧ w'.cell? ⟨lb, loff + k * 2, none⟩ = some (.slice (some ⟨pb, poff, none⟩) (bT B k).l.length pcap) ∧ w'.cell? ⟨lb, loff + k * 2 + 1, none⟩ = some (.int .i64 (bT B k).p) ∧ Below w.heap.size w w')
      (first
        | exact ⟨(bb.cell (p := ⟨L, 0, none⟩) hLw).trans cL, (bb.cell (p := ⟨S, 0, none⟩) hSw).trans cS, (bb.cell (p := ⟨lb, loff + k * 2, none⟩) hlw).trans g0, (bb.cell (p := ⟨lb, loff + k * 2 + 1, none⟩) hlw).trans g1, bb⟩
        | exact ⟨cL, cS, g0, g1, BD⟩
        | (go_keep; done))
      ((go_at_call 17; (with_reducible refine (implGain_any s _ (bT B k).l _ (bT B k).p _ (HS.out.below HE.out.drew.old (Nat.le_refl _)) (HPX.out.below HE.out.drew.old (Nat.le_refl _))).mono ?_); rintro e w1 ⟨rfl, hb1⟩; rw [← HG.out]; have bb := BD.trans (hb1.mono BD.size)))
    have HE1 := Lib.hid (HE.out.below bb)
    clear cL cS g0 g1 hLw hSw hlw BD HE
    have cL := cell_of_one HE1.out.iL
    have cHv := cell_of_one HE1.out.iH
    have g0 := (HE1.out.old.cell (p := ⟨lb, loff + k * 2, none⟩) hlb).trans HQ0.out
    have hLw := lt_of_block HE1.out.iL
    have hHw := lt_of_block HE1.out.iH
    have hlw := Nat.lt_of_lt_of_le hlb HE1.out.old.size
    have BD : Below w1.heap.size w1 w1.drew := (Below.refl _ _).drew
    go_wp2_with fail
    go_region_held3 (fun w' => w'.cell? ⟨L, 0, none⟩ = some (.slice (some ⟨lb, loff, none⟩) B.length lcap) ∧ w'.cell? ⟨Hb, 0, none⟩ = some (.slice (some ⟨gH, 0, none⟩) s.length cH) ∧ w'.cell? ⟨lb, loff + k * 2, none⟩ = some (.slice (some ⟨pb, poff, none⟩) (bT B k).l.length pcap) ∧ Below w1.heap.size w1 w')
      (first
        | exact ⟨(b2.cell (p := ⟨L, 0, none⟩) hLw).trans cL, (b2.cell (p := ⟨Hb, 0, none⟩) hHw).trans cHv, (b2.cell (p := ⟨lb, loff + k * 2, none⟩) hlw).trans g0, b2⟩
        | exact ⟨cL, cHv, g0, BD⟩
        | (go_keep; done))
      ((go_at_call 61; (with_reducible refine (implTimes_any h _ (bT B k).l _ _ (by rw [HLEN.out]; exact Rd.of_owns HE1.out.drew.oH) (HPX.out.below HE1.out.drew.old (Nat.le_refl _)) HH1.out HH2.out HH3.out.1 HH3.out.2).mono ?_); rintro e w2 ⟨rfl, hb2⟩; rw [HN.out]; have b2 := BD.trans (hb2.mono BD.size)))
    have HE2 := Lib.hid (HE1.out.below b2)
    clear cL cHv g0 hLw hHw hlw BD HE1 bb b2 hb1 hb2
    go_wp2
    go_loopw [12] (fun c_ wr => ∃ (j : Nat) (now1 : List Int), j ≤ n + 1 ∧ c_ = .int .i64 ((n : Int) - j) ∧ Hid (now1.take k = now.take k) ∧ Hid (Env W (.slice so s.length scap) (.slice (some ⟨lb, loff, none⟩) B.length lcap) S L M N Bb Hb Tb gH gN cH cN s.length B.length wr h now1 (stJ (m, best) gain (now.take k) lp j).2 (stJ (m, best) gain (now.take k) lp j).1)) (fun c_ _ => (intOf c_ + 1).toNat)
    case atStart => exact ⟨0, now, Nat.zero_le _, by simp, rfl, HE2⟩
    case round =>
      clear HE2
      obtain ⟨j, now1, hj, rfl, HT1, HE⟩ := hrel
      by_cases hjn : j ≤ n
      · obtain ⟨c, hc⟩ : ∃ c : Nat, (n : Int) - j = c := ⟨n - j, by omega⟩
        have hstp := hstep.out j hjn
        rw [hc] at hstp ⊢
        have hcn : c ≤ n := by omega
        have hbc := hbb.out c (by omega) (by omega)
        have okc := Lib.hid (fun i => okl.out c i (by omega) (by omega))
        have okm := Lib.hid (fun i => okd.out c i (by omega) (by omega))
        obtain ⟨R, hR⟩ : ∃ R, R = bestQ s ((qsB B).drop (k + 1)) (lsL h (bT B k).l c (bT B k).l.length) := ⟨_, rfl⟩
        rw [← hR] at hstp hbc
        obtain ⟨ho1, hR0⟩ := hbc
        have HSTP := Lib.hid hstp
        have HRR := Lib.hid hR
        have HO1 := Lib.hid ho1
        have HC := Lib.hid hc
        have HNL1 := Lib.hid HE.out.nl
        have hmb := mul_bd (a := (c : Int)) (b := G) (m := 20) (n := 800000) (by omega) (by omega) (by omega) (by omega)
        obtain ⟨hmb1, hmb2⟩ := hmb
        have HV0 : Hid (0 ≤ R.1 + (c : Int) * G) := by unfold Hid; omega
        have e1 : IntKind.i64.wrap ((c : Int) * G) = (c : Int) * G := IntWalk.i64_in _ (by omega)
        have e2 : IntKind.i64.wrap (gain + (c : Int) * G) = gain + (c : Int) * G := IntWalk.i64_in _ (by omega)
        have e3 : IntKind.i64.wrap ((c : Int) - 1) = (c : Int) - 1 := IntWalk.i64_in _ (by omega)
        have hcj : (c : Int) - 1 = (n : Int) - ((j + 1 : Nat) : Int) := by have := HC.out; omega
        have HCJ := Lib.hid hcj
        have cL := cell_of_one HE.out.iL
        have g0 := (HE.out.old.cell (p := ⟨lb, loff + k * 2, none⟩) hlb).trans HQ0.out
        have hlw := Nat.lt_of_lt_of_le hlb HE.out.old.size
        have E4 := Lib.hid (show Env W (.slice so s.length scap) (.slice (some ⟨lb, loff, none⟩) B.length lcap) S L M N Bb Hb Tb gH gN cH cN s.length B.length wr (lsL h (bT B k).l c 0) now1 (stJ (m, best) gain (now.take k) lp j).2 (stJ (m, best) gain (now.take k) lp j).1 by rw [lsL_zero]; exact HE.out)
        clear hstp hR ho1 hc hcj HE
        go_wp2
        clear cL g0 hlw
        obtain ⟨wo, rfl⟩ : ∃ wo : World, wo = wr := ⟨_, rfl⟩
        go_loopw [51] (fun i_ wr => ∃ i : Nat, i ≤ (bT B k).l.length ∧ i_ = .int .i64 i ∧ Hid (Env W (.slice so s.length scap) (.slice (some ⟨lb, loff, none⟩) B.length lcap) S L M N Bb Hb Tb gH gN cH cN s.length B.length wr (lsL h (bT B k).l c i) now1 (stJ (m, best) gain (now.take k) lp j).2 (stJ (m, best) gain (now.take k) lp j).1)) (fun i_ _ => (bT B k).l.length - (intOf i_).toNat)
        case atStart => exact ⟨0, Nat.zero_le _, rfl, E4⟩
        case round =>
          clear E4
          obtain ⟨i, hi, rfl, EI⟩ := hrel
          have hpw : pb < wr.heap.size := Nat.lt_of_lt_of_le hpb EI.out.old.size
          by_cases hlt : i < (bT B k).l.length
          · obtain ⟨h4, h5, h6, h7, _⟩ := lnOk_pr ((vLines_all HVL.out).1 i hlt)
            obtain ⟨a, ha⟩ := Int.eq_ofNat_of_zero_le h4
            have han : a < h.length := by have := HLEN.out; omega
            have han2 : a < s.length := by omega
            have g2 := (EI.out.old.cell (p := ⟨pb, poff + i * 2, none⟩) hpb).trans (HPC.out i hlt).1
            have g3 := (EI.out.old.cell (p := ⟨pb, poff + i * 2 + 1, none⟩) hpb).trans (HPC.out i hlt).2
            have hst := lsL_step (h := h) (c := (c : Int)) hlt ha han
            have hbd := okc.out i a (by rw [lsL_len]; exact han)
            obtain ⟨hx1, hx2⟩ := hbd
            obtain ⟨c0, f0⟩ := owns_at1 EI.out.oH a han2
            have cHv := cell_of_one EI.out.iH
            have hHw := lt_of_block EI.out.iH
            have hgw := (EI.out.oH.lt gH rfl).2
            rw [ha] at g2
            have HS2 := Lib.hid hst
            clear ha h4 h5 hst
            obtain ⟨y, hy⟩ : ∃ y, y = pB (bT B k).l i := ⟨_, rfl⟩
            obtain ⟨x, hx⟩ : ∃ x, x = iG (lsL h (bT B k).l c i) a := ⟨_, rfl⟩
            rw [← hy] at g3 HS2 h6 h7
            rw [← hx] at c0 hx1 hx2 HS2
            clear hy hx
            have hmb := mul_bd (a := (c : Int)) (b := y) (m := 20) (n := 20) (by omega) (by omega) (by omega) (by omega)
            have e1 : IntKind.i64.wrap ((c : Int) * y) = (c : Int) * y := IntWalk.i64_in _ (by omega)
            have e2 : IntKind.i64.wrap (x - (c : Int) * y) = x - (c : Int) * y := IntWalk.i64_in _ (by omega)
            have ha0 : (0 : Int) ≤ (a : Int) := by omega
            have ha1 : (a : Int) < (s.length : Int) := by omega
            have hi0 : (0 : Int) ≤ (i : Int) := by omega
            have hi1 : (i : Int) < ((bT B k).l.length : Int) := by omega
            have hne1 : ¬ gH = wr.heap.size := by omega
            have hne2 : ¬ Hb = wr.heap.size := by omega
            have E9 := Lib.hid (EI.out.setHave HO.out a (x - (c : Int) * y))
            rw [HS2.out] at E9
            clear hmb hx1 hx2
            go_wp2
            go_region
            go_wp2
            go_roundw
            case rel => exact ⟨i + 1, by omega, by go_num, Lib.hid (E9.out.alloc _).drew⟩
            case measure => simp [intOf]; omega
          · obtain rfl : i = (bT B k).l.length := by omega
            have E3 := EI.out.setNow HO.out k c
            have HE3 := Lib.hid E3
            have c1 := HIH.out (k + 1) (gain + (c : Int) * G) (stJ (m, best) gain (now.take k) lp j).1 (lsL h (bT B k).l c (bT B k).l.length) (now1.set k c) (stJ (m, best) gain (now.take k) lp j).2 (wr.setCell ⟨gN, k, none⟩ (.int .i64 c)) (by omega) E3 HO1.out (by omega) (by omega)
            rw [← HRR.out, show ((k + 1 : Nat) : Int) = (k : Int) + 1 by omega] at c1
            have C1 := Lib.hid c1
            have cNv := cell_of_one EI.out.iN
            have cT := cell_of_one EI.out.iT
            obtain ⟨cK, fK⟩ := owns_at1 EI.out.oN k hkl
            have hgn := (EI.out.oN.lt gN rfl).2
            have hTw := lt_of_block EI.out.iT
            have hTg : ¬ Tb = gN := by have := HO.out; unfold Ord at this; omega
            have hTg2 : ¬ gN = Tb := by have := HO.out; unfold Ord at this; omega
            have hk0 : (0 : Int) ≤ (k : Int) := by omega
            have hk1 : (k : Int) < (B.length : Int) := by omega
            clear E3 c1 EI
            go_wp2_with (go_at_call 60; refine C1.out.mono ?_; rintro e w5 ⟨rfl, now2, ht2, hE5⟩; have cL5 := cell_of_one hE5.iL; have q5 := (hE5.old.cell (p := ⟨lb, loff + k * 2, none⟩) hlb).trans HQ0.out; have hl5 := Nat.lt_of_lt_of_le hlb hE5.old.size; have HE5 := Lib.hid hE5; clear hE5)
            have hR1R2 : Hid (upd (stJ (m, best) gain (now.take k) lp j) (gain + (R.1 + (c : Int) * G)) (now.take k ++ (c : Int) :: R.2) = stJ (m, best) gain (now.take k) lp (j + 1)) := stJ_succ HSTP.out h00.out HV0.out
            have htk : (now1.set k (c : Int)).take (k + 1) = now.take k ++ [(c : Int)] := by rw [take_set _ _ _ (by rw [HNL1.out]; exact hkl), HT1.out]
            have HT2 : Hid (now2.take k = now.take k) := by
              have h1 := congrArg (List.take k) ht2
              rw [List.take_take, htk, Nat.min_eq_left (Nat.le_succ k), List.take_append_of_le_length (by rw [List.length_take, HNL0.out]; omega), List.take_take, Nat.min_self] at h1
              exact h1
            have E5 : Hid (Env W (.slice so s.length scap) (.slice (some ⟨lb, loff, none⟩) B.length lcap) S L M N Bb Hb Tb gH gN cH cN s.length B.length w5 (mdL h (bT B k).l c 0) now2 (stJ (m, best) gain (now.take k) lp (j + 1)).2 (stJ (m, best) gain (now.take k) lp (j + 1)).1) := by
              have h1 := HE5.out
              rw [htk, show gain + (c : Int) * G + R.1 = gain + (R.1 + (c : Int) * G) by omega, List.append_assoc, List.singleton_append, show (((stJ (m, best) gain (now.take k) lp j).1, (stJ (m, best) gain (now.take k) lp j).2) : Int × List Int) = (stJ (m, best) gain (now.take k) lp j) from rfl, hR1R2.out] at h1
              rw [Hid, mdL_zero]; exact h1
            clear HE5 ht2 htk hR1R2 C1 HE3 cNv cT cK fK hgn hTw hTg hTg2
            go_wp2
            clear cL5 q5 hl5
            go_loopw [86] (fun i_ wr => ∃ i : Nat, i ≤ (bT B k).l.length ∧ i_ = .int .i64 i ∧ Hid (Env W (.slice so s.length scap) (.slice (some ⟨lb, loff, none⟩) B.length lcap) S L M N Bb Hb Tb gH gN cH cN s.length B.length wr (mdL h (bT B k).l c i) now2 (stJ (m, best) gain (now.take k) lp (j + 1)).2 (stJ (m, best) gain (now.take k) lp (j + 1)).1)) (fun i_ _ => (bT B k).l.length - (intOf i_).toNat)
            case atStart => exact ⟨0, Nat.zero_le _, rfl, E5⟩
            case round =>
              clear E5
              obtain ⟨i, hi, rfl, EI⟩ := hrel
              have hpw : pb < wr.heap.size := Nat.lt_of_lt_of_le hpb EI.out.old.size
              by_cases hlt : i < (bT B k).l.length
              · obtain ⟨h4, h5, h6, h7, _⟩ := lnOk_pr ((vLines_all HVL.out).1 i hlt)
                obtain ⟨a, ha⟩ := Int.eq_ofNat_of_zero_le h4
                have han : a < h.length := by have := HLEN.out; omega
                have han2 : a < s.length := by omega
                have g2 := (EI.out.old.cell (p := ⟨pb, poff + i * 2, none⟩) hpb).trans (HPC.out i hlt).1
                have g3 := (EI.out.old.cell (p := ⟨pb, poff + i * 2 + 1, none⟩) hpb).trans (HPC.out i hlt).2
                have hst := mdL_step (h := h) (c := (c : Int)) hlt ha han
                have hbd := okm.out i a (by rw [mdL_len]; exact han)
                obtain ⟨hx1, hx2⟩ := hbd
                obtain ⟨c0, f0⟩ := owns_at1 EI.out.oH a han2
                have cHv := cell_of_one EI.out.iH
                have hHw := lt_of_block EI.out.iH
                have hgw := (EI.out.oH.lt gH rfl).2
                rw [ha] at g2
                have HS2 := Lib.hid hst
                clear ha h4 h5 hst
                obtain ⟨y, hy⟩ : ∃ y, y = pB (bT B k).l i := ⟨_, rfl⟩
                obtain ⟨x, hx⟩ : ∃ x, x = iG (mdL h (bT B k).l c i) a := ⟨_, rfl⟩
                rw [← hy] at g3 HS2 h6 h7
                rw [← hx] at c0 hx1 hx2 HS2
                clear hy hx
                have hmb := mul_bd (a := (c : Int)) (b := y) (m := 20) (n := 20) (by omega) (by omega) (by omega) (by omega)
                have e1 : IntKind.i64.wrap ((c : Int) * y) = (c : Int) * y := IntWalk.i64_in _ (by omega)
                have e2 : IntKind.i64.wrap (x + (c : Int) * y) = x + (c : Int) * y := IntWalk.i64_in _ (by omega)
                have ha0 : (0 : Int) ≤ (a : Int) := by omega
                have ha1 : (a : Int) < (s.length : Int) := by omega
                have hi0 : (0 : Int) ≤ (i : Int) := by omega
                have hi1 : (i : Int) < ((bT B k).l.length : Int) := by omega
                have hne1 : ¬ gH = wr.heap.size := by omega
                have hne2 : ¬ Hb = wr.heap.size := by omega
                have E9 := Lib.hid (EI.out.setHave HO.out a (x + (c : Int) * y))
                rw [HS2.out] at E9
                clear hmb hx1 hx2
                go_wp2
                go_region
                go_wp2
                go_roundw
                case rel => exact ⟨i + 1, by omega, by go_num, Lib.hid (E9.out.alloc _).drew⟩
                case measure => simp [intOf]; omega
              · obtain rfl : i = (bT B k).l.length := by omega
                have E6 := EI.out
                rw [mdL_end] at E6
                have HE6 := Lib.hid E6
                clear E6 EI
                go_wp2
                go_roundw
                case rel => exact ⟨j + 1, now2, by omega, by rw [← HCJ.out], HT2.out, HE6⟩
                case measure => simp [intOf] <;> omega
      · obtain rfl : j = n + 1 := by omega
        have hneg : decide (0 ≤ (n : Int) - ((n + 1 : Nat) : Int)) = false := by simp; omega
        rw [show (n : Int) - ((n + 1 : Nat) : Int) = -1 by omega]
        go_wp2
        go_end0
        exact ⟨rfl, now1, HT1.out, HE.out⟩

end Go.Proofs.Ytomapdedajdkkab
