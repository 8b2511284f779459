/- Joined texts: Walks: whether a guard holds at a point, both ways. Walks: the generators of spans and guards. Walks: comparisons of a guard and of a rule with itself. Walks: the generator of guards. A row of three spans as a row of the call's own; what stays of it. Conditions: none. -/
import Derived.Test.YtijofgaekmahkaaGreatDoorM08
import Derived.Deep.Cut
import Derived.Deep.RegionWith
import Derived.Deep.RegionHeld3
namespace Go.Proofs.YtijofgaekmahkaaGreatDoor
open Go.RowKit
theorem hld_tot {r : Rl} {tot : Int} {cnt cp : List Int} (h : wi tot r.lo r.hi = false) : hldQ r tot cnt cp = false := by simp [hldQ, h]
theorem hld_cnt {r : Rl} {tot : Int} {cnt cp : List Int} {k : Nat} (hk : k < r.counts.length) (h : wi (iG cnt k) (pA r.counts k) (pB r.counts k) = false) : hldQ r tot cnt cp = false := by
 unfold hldQ
 rw [hldK_no h _ hk]
 simp
theorem hld_zero {r : Rl} {tot : Int} {cnt cp : List Int} (h1 : wi tot r.lo r.hi = true) (h2 : hldK r cnt r.counts.length = true) (h3 : r.coupon = 0) : hldQ r tot cnt cp = true := by simp [hldQ, h1, h2, h3]
theorem hld_has {r : Rl} {tot : Int} {cnt cp : List Int} (h1 : wi tot r.lo r.hi = true) (h2 : hldK r cnt r.counts.length = true) (h3 : ¬ r.coupon = 0) : hldQ r tot cnt cp = hasQ cp r.coupon := by simp [hldQ, h1, h2, h3]
theorem hldK_step {r : Rl} {cnt : List Int} {k : Nat} (h1 : hldK r cnt k = true) (h2 : wi (iG cnt k) (pA r.counts k) (pB r.counts k) = true) : hldK r cnt (k + 1) = true := by
 unfold hldK
 rw [h1, h2]
 rfl
theorem okGd_pr {r : Rl} (h : okGd r = true) : okSp r.lo r.hi = true ∧ (∀ k, k < 3 → okSp (pA r.counts k) (pB r.counts k) = true) ∧ r.counts.length = 3 := by
 unfold okGd at h
 rw [Bool.and_eq_true, Bool.and_eq_true] at h
 have h2 := okCn_pr h.1.2
 exact ⟨h.1.1, fun k hk => h2.1 k (by omega), h2.2⟩
theorem okRu_gd {r : Rl} (h : okRu r = true) : okGd r = true := by
 unfold okRu at h
 simp only [Bool.and_eq_true] at h
 exact h.1.2
structure PtOk (tot : Int) (cnt cp : List Int) : Prop where
 t : wi tot 0 1000000 = true
 n : cnt.length = 3
 c : ∀ j, j < 3 → wi (iG cnt j) 0 1000000 = true
 q : cpnQ cp = true
set_option maxHeartbeats 4000000 in
set_option maxRecDepth 100000 in
theorem implHolds_any (r : Rl) (v : Value) (tot : Int) (cnt cp : List Int) (vc vp : Value) (w : World) (hv : Rd w 2 v r.counts.length (pr r.counts)) (hc : Rd w 1 vc cnt.length (it cnt)) (hp : Rd w 1 vp cp.length (it cp)) (hg : okGd r = true) (pt : PtOk tot cnt cp) :
   Calls Tryz.prog 74 #[gdV r v, .agg #[.int .i64 tot, vc, vp]] w fun e w' => e = .returned (.bool (hldQ r tot cnt cp)) ∧ Below w.heap.size w w' := by
 unfold gdV
 have HV := Lib.hid hv
 have HC := Lib.hid hc
 have HP := Lib.hid hp
 have HG := Lib.hid hg
 have HT := Lib.hid pt
 obtain ⟨g1, g2, g3⟩ := okGd_pr hg
 have G1 := Lib.hid g1
 have G2 := Lib.hid g2
 have G3 := Lib.hid g3
 obtain ⟨ao, cap, rfl, _, _, hr⟩ := hv.pairs
 have HR := Lib.hid hr
 obtain ⟨co, ccap, rfl, _, _, hrc⟩ := hc.ints
 have HRC := Lib.hid hrc
 obtain ⟨po, pcap, rfl, _⟩ := hp.ints
 clear hv hc hp hg pt g1 g2 hr hrc
 rw [g3] at HR HV ⊢
 rw [pt_n HT.out] at HRC HC ⊢
 clear g3
 have b1 := Bx.new w [.int .i64 r.lo, .int .i64 r.hi, .slice ao 3 cap, .int .i64 r.coupon] 41
 have b2 := Bx.new (w.alloc (.cells #[.int .i64 r.lo, .int .i64 r.hi, .slice ao 3 cap, .int .i64 r.coupon] 41)) [.int .i64 tot, .slice co 3 ccap, .slice po cp.length pcap] 110
 have bb : Below w.heap.size w ((w.alloc (.cells #[.int .i64 r.lo, .int .i64 r.hi, .slice ao 3 cap, .int .i64 r.coupon] 41)).alloc (.cells #[.int .i64 tot, .slice co 3 ccap, .slice po cp.length pcap] 110)) :=
   ((Below.refl _ w).alloc (Nat.le_refl _) _).alloc (by simp) _
 have b3 := b1.below ((Below.refl _ _).alloc (Nat.le_refl _) (.cells #[.int .i64 tot, .slice co 3 ccap, .slice po cp.length pcap] 110)) (Nat.le_refl _)
 rw [World.size_alloc] at b2
 obtain ⟨W, hW⟩ : ∃ W, W = (w.alloc (.cells #[.int .i64 r.lo, .int .i64 r.hi, .slice ao 3 cap, .int .i64 r.coupon] 41)).alloc (.cells #[.int .i64 tot, .slice co 3 ccap, .slice po cp.length pcap] 110) := ⟨_, rfl⟩
 have BG : Hid (Bx W w.heap.size [.int .i64 r.lo, .int .i64 r.hi, .slice ao 3 cap, .int .i64 r.coupon]) := by rw [hW]; exact b3
 have BP : Hid (Bx W (w.heap.size + 1) [.int .i64 tot, .slice co 3 ccap, .slice po cp.length pcap]) := by rw [hW]; exact b2
 have BW : Hid (Below w.heap.size w W) := by rw [hW]; exact bb
 have HW := Lib.hid hW
 clear b1 b2 b3 bb hW
 go_enter Tryz.func74, Tryz.ntmps74
 go_upto_region 1 with fail
 rw [← HW.out]
 clear HW
 have c0 := BG.out.2 0 _ rfl
 have c1 := BG.out.2 1 _ rfl
 have c2 := BG.out.2 2 _ rfl
 have c3 := BG.out.2 3 _ rfl
 cases hA : wi tot r.lo r.hi
 · have fin := Lib.hid (hld_tot (cnt := cnt) (cp := cp) hA)
   go_wp2_with (first | (go_at_call 108; refine (implGuard_any r _ _ (by rw [G3.out]; exact HV.out.below BW.out (Nat.le_refl _))).mono ?_; rintro e w1 ⟨rfl, x1⟩; rw [HG.out]; have q1 := BG.out.below x1 (Nat.le_refl _); have q2 := BP.out.below x1 (Nat.le_refl _); have Y1 := BW.out.trans (x1.mono BW.out.size); have d0 := q2.2 0 _ rfl; have d1 := q2.2 1 _ rfl; have d2 := q2.2 2 _ rfl) | (go_at_call 114; refine (pointOk_any tot cnt cp _ _ _ (by rw [pt_n HT.out]; exact HC.out.below Y1 (Nat.le_refl _)) (HP.out.below Y1 (Nat.le_refl _)) HT.out.t HT.out.n HT.out.c HT.out.q).mono ?_; rintro e w2 ⟨rfl, x2⟩; have q3 := q1.below x2 (Nat.le_refl _); have q4 := q2.below x2 (Nat.le_refl _); have Y2 := Y1.trans (x2.mono Y1.size); have e0 := q3.2 0 _ rfl; have e1 := q3.2 1 _ rfl; have f0 := q4.2 0 _ rfl) | (go_at_call 115; refine (inSpan_any _ _ _ _ G1.out).mono ?_; rintro e w3 ⟨rfl, x3⟩))
   go_ret
   exact ⟨by rw [fin.out] <;> rfl, Y2.trans (x3.mono Y2.size)⟩
 · have HA := Lib.hid hA
   go_upto_region 3 with (first | (go_at_call 108; refine (implGuard_any r _ _ (by rw [G3.out]; exact HV.out.below BW.out (Nat.le_refl _))).mono ?_; rintro e w1 ⟨rfl, x1⟩; rw [HG.out]; have q1 := BG.out.below x1 (Nat.le_refl _); have q2 := BP.out.below x1 (Nat.le_refl _); have Y1 := BW.out.trans (x1.mono BW.out.size); have d0 := q2.2 0 _ rfl; have d1 := q2.2 1 _ rfl; have d2 := q2.2 2 _ rfl) | (go_at_call 114; refine (pointOk_any tot cnt cp _ _ _ (by rw [pt_n HT.out]; exact HC.out.below Y1 (Nat.le_refl _)) (HP.out.below Y1 (Nat.le_refl _)) HT.out.t HT.out.n HT.out.c HT.out.q).mono ?_; rintro e w2 ⟨rfl, x2⟩; have q3 := q1.below x2 (Nat.le_refl _); have q4 := q2.below x2 (Nat.le_refl _); have Y2 := Y1.trans (x2.mono Y1.size); have e0 := q3.2 0 _ rfl; have e1 := q3.2 1 _ rfl; have f0 := q4.2 0 _ rfl) | (go_at_call 115; refine (inSpan_any _ _ _ _ G1.out).mono ?_; rintro e w3 ⟨rfl, x3⟩))
   have Q3 := Lib.hid (q3.below x3 (Nat.le_refl _))
   have Q4 := Lib.hid (q4.below x3 (Nat.le_refl _))
   have Y3 := Lib.hid (Y2.trans (x3.mono Y2.size))
   clear q1 q2 q3 q4 Y1 Y2 x1 x2 x3 c0 c1 c2 c3 d0 d1 d2 e0 e1 f0 BG BP BW
   have k2 := Q3.out.2 2 _ rfl
   go_wp2
   go_loopw [26] (fun i wr => ∃ k : Nat, k ≤ 3 ∧ i = .int .i64 k ∧ Below w3.heap.size w3 wr ∧ Hid (hldK r cnt k = true)) (fun i _ => 3 - (intOf i).toNat)
   case atStart => exact ⟨0, Nat.zero_le _, rfl, Below.refl _ _, rfl⟩
   case round =>
     clear k2
     obtain ⟨k, hk, rfl, hbl, hall⟩ := hrel
     have Q5 := Lib.hid (Q3.out.below hbl (Nat.le_refl _))
     have Q6 := Lib.hid (Q4.out.below hbl (Nat.le_refl _))
     have YR := Lib.hid (Y3.out.trans (hbl.mono Y3.out.size))
     by_cases hlt : k < 3
     · obtain ⟨b, off, rfl, hb, hcell⟩ := HR.out (by omega)
       obtain ⟨b2, off2, rfl, hb2, hcell2⟩ := HRC.out (by omega)
       have hx := hcell k hlt
       have hy := hcell2 k hlt
       have g0 := (YR.out.cell (p := ⟨b, off + k*2, none⟩) hb).trans hx.1
       have g1 := (YR.out.cell (p := ⟨b, off + k*2+1, none⟩) hb).trans hx.2
       have hbw : b < wr.heap.size := Nat.lt_of_lt_of_le hb YR.out.size
       have hgd := G2.out k hlt
       have al : Below wr.heap.size wr (wr.alloc (.cells #[.int .i64 (pA r.counts k), .int .i64 (pB r.counts k)] 38)) := (Below.refl _ _).alloc (Nat.le_refl _) _
       have nb := Bx.new wr [.int .i64 (pA r.counts k), .int .i64 (pB r.counts k)] 38
       have pb := Q6.out.below al (Nat.le_refl _)
       have hy2 := (YR.out.trans (al.mono YR.out.size)).cell (p := ⟨b2, off2 + k, none⟩) hb2
       rw [hy] at hy2
       obtain ⟨W2, hW2⟩ : ∃ W2, W2 = wr.alloc (.cells #[.int .i64 (pA r.counts k), .int .i64 (pB r.counts k)] 38) := ⟨_, rfl⟩
       rw [← hW2] at hy2
       have NB : Hid (Bx W2 wr.heap.size [.int .i64 (pA r.counts k), .int .i64 (pB r.counts k)]) := by rw [hW2]; exact nb
       have PB : Hid (Bx W2 (w.heap.size + 1) [.int .i64 tot, .slice (some ⟨b2, off2, none⟩) 3 ccap, .slice po cp.length pcap]) := by rw [hW2]; exact pb
       have AL : Hid (Below wr.heap.size wr W2) := by rw [hW2]; exact al
       have HW2 := Lib.hid hW2
       have hb2w : b2 < W2.heap.size := Nat.lt_of_lt_of_le (Nat.lt_of_lt_of_le hb2 YR.out.size) AL.out.size
       have hk0 : (0 : Int) ≤ (k : Int) := by omega
       have hk1 : (k : Int) < (3 : Int) := by omega
       clear hx hy hcell hcell2 nb pb al hW2
       have c0 := NB.out.2 0 _ rfl
       have c1 := NB.out.2 1 _ rfl
       have d1 := PB.out.2 1 _ rfl
       have z0 := NB.out.1
       have z1 := PB.out.1
       have H1 := Lib.hid (fun x : Later W2 => Calls.later_of (inSpan_any (pA r.counts k) (pB r.counts k) (iG cnt k) x.wld hgd))
       clear hgd
       go_upto_region 6 with fail
       rw [← HW2.out]
       clear HW2 g0 g1
       cases hB : wi (iG cnt k) (pA r.counts k) (pB r.counts k)
       · have fin := Lib.hid (hld_cnt (tot := tot) (cp := cp) (by rw [G3.out]; exact hlt) hB)
         rw [hB] at H1
         refine wp_region_later (by kernel_rfl) (by kernel_rfl) ?_
         repeat (go_big_quiet_step ((go_at_call 115; (with_reducible exact H1.out _))))
         refine wpQuiet_nil ?_
         rintro _ ⟨x, rfl⟩
         go_wp2
         go_ret
         exact ⟨by rw [fin.out] <;> rfl, (YR.out.trans (AL.out.mono YR.out.size)).trans (x.below.mono (Nat.le_trans YR.out.size AL.out.size))⟩
       · have fin := Lib.hid (hldK_step hall.out hB)
         rw [hB] at H1
         refine wp_region_later (by kernel_rfl) (by kernel_rfl) ?_
         repeat (go_big_quiet_step ((go_at_call 115; (with_reducible exact H1.out _))))
         refine wpQuiet_nil ?_
         rintro _ ⟨x, rfl⟩
         go_wp2
         go_roundw
         case rel => exact ⟨k+1, by omega, by go_num, (hbl.trans (AL.out.mono hbl.size)).trans (x.below.mono (Nat.le_trans hbl.size AL.out.size)), fin.out⟩
         case measure => simp [intOf]; omega
     · obtain rfl : k = 3 := by omega
       have k3 := Q5.out.2 3 _ rfl
       have k4 := Q6.out.2 2 _ rfl
       have hall2 : hldK r cnt r.counts.length = true := by rw [G3.out]; exact hall.out
       by_cases hz : r.coupon = 0
       · have hzb : (r.coupon == 0) = true := by simp [hz]
         have fin := Lib.hid (hld_zero (cp := cp) HA.out hall2 hz)
         clear hz hall2
         go_wp2
         go_ret
         exact ⟨by rw [fin.out] <;> rfl, YR.out⟩
       · have hzb : (r.coupon == 0) = false := by simp [hz]
         have fin := Lib.hid (hld_has (cp := cp) HA.out hall2 hz)
         clear hz hall2
         go_wp2_with (go_at_call 36; refine (hasNumber_any cp _ _ _ (HP.out.below YR.out (Nat.le_refl _))).mono ?_; rintro e w9 ⟨rfl, h9⟩; replace h9 := h9.symm; subst h9)
         go_ret
         exact ⟨by rw [fin.out] <;> rfl, YR.out⟩
where
 pt_n {tot : Int} {cnt cp : List Int} (h : PtOk tot cnt cp) : cnt.length = 3 := h.n
end Go.Proofs.YtijofgaekmahkaaGreatDoor

namespace Go.Proofs.YtijofgaekmahkaaGreatDoor
open Go.RowKit
def SpPost (n : Nat) (w : World) (R u : Nat) (e : Ending) (w' : World) : Prop := ∃ a b : Int, e = .returned (.agg #[.int .i64 a, .int .i64 b]) ∧ RdrStep w R (u + n) w'
set_option maxHeartbeats 2000000 in
set_option maxRecDepth 100000 in
theorem someSpan_any (R u : Nat) (w : World) (h : Rdr w R u) (hu : u ≤ 1000000000000) :
   Calls Tryz.prog 59 #[.pointer (some ⟨R, 0, none⟩)] w (SpPost 2 w R u) := by
 have hR := h.lt
 have S0 := (RdrStep.refl h).alloc (.cells #[.int .i64 0, .int .i64 0] 38)
 have k0 := heap_alloc_new w (.cells #[.int .i64 0, .int .i64 0] 38)
 have K0 := Lib.hid k0
 clear k0
 go_enter Tryz.func59, Tryz.ntmps59
 go_wp2_with fail
 have c1 := one_lit R _ [0, 1, 2, 10, 100, 1000, 5] (w.alloc (.cells #[.int .i64 0, .int .i64 0] 38)) 3 S0.1 (by omega) (by simp) (by simp)
 rw [World.size_alloc] at c1
 refine c1.mono ?_
 clear c1
 rintro e w2 ⟨a, _, rfl, s2⟩
 have k2 := s2.row K0.out (by omega)
 have S2 := S0.trans s2
 clear s2 S0
 go_wp2_with fail
 refine (one_lit R _ [0, 1, 5, 100, 900, 20000] w2 3 S2.1 (by omega) (by simp) (by simp)).mono ?_
 rintro e w3 ⟨b, _, rfl, s3⟩
 have k3 := s3.row k2 (by omega)
 have S3 := S2.trans s3
 clear s3 S2 k2
 obtain ⟨⟨c0, c1⟩, p0, p1⟩ := row2 k3
 go_wp2
 refine bodyPost_ret (results_row (p := 2) (ty := 38) rfl row38 _ _ w.heap.size 38 #[.int .i64 a, .int .i64 (wrap64 (a + b))] rfl rfl (Joins.block_setCell (i := 1) (Joins.block_setCell (i := 0) k3 _) _)) rfl ?_
 exact ⟨a, _, rfl, ((S3.set hR (Nat.le_refl _) _).set hR (Nat.le_refl _) _).mono (by omega)⟩
theorem all_any (w : World) : Calls Tryz.prog 58 #[] w fun e w' => e = .returned (.agg #[.int .i64 0, .int .i64 1000000]) ∧ Below w.heap.size w w' := by
 go_enter Tryz.func58, Tryz.ntmps58
 go_wp2
 refine bodyPost_ret (results_row (p := 0) (ty := 38) rfl row38 _ _ w.heap.size 38 #[.int .i64 0, .int .i64 1000000] rfl rfl (heap_alloc_new w _)) rfl ?_
 exact ⟨rfl, (Below.refl _ w).alloc (Nat.le_refl _) _⟩
end Go.Proofs.YtijofgaekmahkaaGreatDoor

namespace Go.Proofs.YtijofgaekmahkaaGreatDoor
open Go.RowKit
theorem two_blocks (w : World) (a b : Obj) : (((w.alloc a).alloc b).heap[w.heap.size]? = some a) ∧ (((w.alloc a).alloc b).heap[w.heap.size + 1]? = some b) ∧ ((w.alloc a).alloc b).heap.size = w.heap.size + 2 ∧ Below w.heap.size w ((w.alloc a).alloc b) := by
 refine ⟨?_, ?_, by simp, ((Below.refl _ _).alloc (Nat.le_refl _) _).alloc (by simp) _⟩
 · rw [Below.heap_alloc _ _ _ (by simp)]; exact heap_alloc_new w _
 · have h := heap_alloc_new (w.alloc a) b; rw [World.size_alloc] at h; exact h
end Go.Proofs.YtijofgaekmahkaaGreatDoor

namespace Go.Proofs.YtijofgaekmahkaaGreatDoor
open Go.RowKit
def GdPost (n : Nat) (w : World) (R u : Nat) (e : Ending) (w' : World) : Prop :=
 ∃ (lo hi cp : Int) (g : Nat) (a0 b0 a1 b1 a2 b2 : Int), e = .returned (.agg #[.int .i64 lo, .int .i64 hi, .slice (some ⟨g, 0, none⟩) 3 3, .int .i64 cp]) ∧ w.heap.size ≤ g ∧
   w'.heap[g]? = some (.cells #[.int .i64 a0, .int .i64 b0, .int .i64 a1, .int .i64 b1, .int .i64 a2, .int .i64 b2] 38 (0, 0)) ∧ RdrStep w R (u + n) w'
set_option maxHeartbeats 4000000 in
set_option maxRecDepth 100000 in
theorem someGuard_any (R u : Nat) (w : World) (h : Rdr w R u) (hu : u ≤ 999999998000) :
   Calls Tryz.prog 27 #[.pointer (some ⟨R, 0, none⟩)] w (GdPost 6 w R u) := by
 have hR := h.lt
 have S0 := (RdrStep.refl h).alloc (.cells #[.int .i64 0, .int .i64 0, .slice none 0 0, .int .i64 0] 41)
 have k0 := heap_alloc_new w (.cells #[.int .i64 0, .int .i64 0, .slice none 0 0, .int .i64 0] 41)
 have K0 := Lib.hid k0
 clear k0
 go_enter Tryz.func27, Tryz.ntmps27
 go_wp2_with fail
 refine (all_any _).mono ?_
 rintro e W1 ⟨rfl, hb⟩
 have k1 := (hb.block w.heap.size (by simp)).trans K0.out
 have S1 := S0.below hb (by simp; omega) (by simp)
 clear hb S0
 go_wp2_with fail
 refine (all_any _).mono ?_
 rintro e W2 ⟨rfl, hb⟩
 have k2 := (hb.block w.heap.size (Array.getElem?_eq_some_iff.1 k1).1).trans k1
 have S2 := S1.below hb S1.1.lt (S1.size)
 clear hb S1
 go_wp2_with fail
 refine (all_any _).mono ?_
 rintro e W3 ⟨rfl, hb⟩
 have k3 := (hb.block w.heap.size (Array.getElem?_eq_some_iff.1 k2).1).trans k2
 have S3 := S2.below hb S2.1.lt (S2.size)
 clear hb S2
 go_wp2_with fail
 refine (all_any _).mono ?_
 rintro e W4 ⟨rfl, hb⟩
 have k4 := (hb.block w.heap.size (Array.getElem?_eq_some_iff.1 k3).1).trans k3
 have S4 := S3.below hb S3.1.lt (S3.size)
 clear hb S3
 have Z4 : w.heap.size < W4.heap.size := (Array.getElem?_eq_some_iff.1 k4).1
 obtain ⟨e0, e1, z6, b6⟩ := two_blocks W4 (.cells #[.int .i64 0, .int .i64 1000000, .int .i64 0, .int .i64 1000000, .int .i64 0, .int .i64 1000000] 38) (.cells #[.int .i64 0, .int .i64 1000000, .slice (some ⟨W4.heap.size, 0, none⟩) 3 3, .int .i64 0] 41)
 have k5 := (b6.block w.heap.size Z4).trans k4
 have S5 := S4.below b6 S4.1.lt (Nat.le_of_lt Z4)
 have nG : W4.heap.size + 1 ≠ R := by omega
 have nF : W4.heap.size ≠ R := by omega
 have nK : w.heap.size ≠ R := by omega
 go_wp2_with fail
 refine (pick_any R _ _ _ S5.1 (by omega)).mono ?_
 rintro e w6 ⟨m, rfl, hm0, hm1, s6⟩
 have hm2 := hm1 (by omega)
 have K6 := Lib.hid (s6.row k5 nK)
 have F6 := Lib.hid (s6.row e0 nF)
 have G6 := Lib.hid (s6.row e1 nG)
 have S6 := S5.trans s6
 have Y6 : W4.heap.size + 1 < w6.heap.size := (Array.getElem?_eq_some_iff.1 G6.out).1
 clear s6 S5 S4 k5 k4 k3 k2 k1 e0 e1 b6 hm1 K0
 rcases (by omega : m = 0 ∨ m = 1 ∨ m = 2 ∨ m = 3 ∨ m = 4) with rfl | rfl | rfl | rfl | rfl
 · go_wp2_with fail
   refine (one_lit R _ [100, 1000, 2000, 0] w6 3 S6.1 (by omega) (by simp) (by simp)).mono ?_
   rintro e w7 ⟨a, _, rfl, s7⟩
   have K7 := Lib.hid (s7.row K6.out nK)
   have F7 := Lib.hid (s7.row F6.out nF)
   have G7 := Lib.hid (s7.row G6.out nG)
   have S7 := S6.trans s7
   have Y7 := Nat.lt_of_lt_of_le Y6 s7.size
   clear K6 F6 G6 S6 s7 Y6
   obtain ⟨⟨c0, c1, c2, c3⟩, p0, p1, p2, p3⟩ := row4 G7.out
   go_upto_region 12 with fail
   obtain ⟨w8, hW⟩ : ∃ W, W = (w7.setCell ⟨W4.heap.size + 1, 0, none⟩ (.int .i64 a)).setCell ⟨W4.heap.size + 1, 1, none⟩ (.int .i64 1000000) := ⟨_, rfl⟩
   rw [← hW]
   have K8 : Hid (w8.heap[w.heap.size]? = some (.cells #[.int .i64 0, .int .i64 0, .slice none 0 0, .int .i64 0] 41 (0, 0))) := by rw [hW]; exact heap_set (heap_set (K7.out) (by omega)) (by omega)
   have F8 : Hid (w8.heap[W4.heap.size]? = some (.cells #[.int .i64 0, .int .i64 1000000, .int .i64 0, .int .i64 1000000, .int .i64 0, .int .i64 1000000] 38 (0, 0))) := by rw [hW]; exact heap_set (heap_set (F7.out) (Nat.ne_of_lt (Nat.lt_succ_self _))) (Nat.ne_of_lt (Nat.lt_succ_self _))
   have G8 : Hid (w8.heap[W4.heap.size + 1]? = some (.cells #[.int .i64 a, .int .i64 1000000, .slice (some ⟨W4.heap.size, 0, none⟩) 3 3, .int .i64 0] 41 (0, 0))) := by rw [hW]; exact Joins.block_setCell (Joins.block_setCell (G7.out) _) _
   have S8 : RdrStep w R (u + 2) w8 := by rw [hW]; exact RdrStep.set (RdrStep.set (S7) hR (by omega) _) hR (by omega) _
   have Y8 : W4.heap.size + 1 < w8.heap.size := (Array.getElem?_eq_some_iff.1 G8.out).1
   clear hW K7 F7 G7 S7 Y7 c0 c1 c2 c3 p0 p1 p2 p3
   refine wp_copy (t := 49) (pd := 2) (ps := 3) (ty := 41) rfl rfl rfl rfl rfl (W4.heap.size + 1) w.heap.size #[.int .i64 a, .int .i64 1000000, .slice (some ⟨W4.heap.size, 0, none⟩) 3 3, .int .i64 0] #[.int .i64 0, .int .i64 0, .slice none 0 0, .int .i64 0] 41 41 4 row41 rfl rfl rfl G8.out rfl K8.out rfl (by simp [Value.oneCell']) ?_
   go_wp2
   refine bodyPost_ret (results_row (p := 2) (ty := 41) rfl row41 _ _ w.heap.size 41 #[.int .i64 a, .int .i64 1000000, .slice (some ⟨W4.heap.size, 0, none⟩) 3 3, .int .i64 0] rfl rfl (setRow_heap _ _ _ _ _ _ K8.out)) rfl ?_
   exact ⟨a, 1000000, 0, W4.heap.size, 0, 1000000, 0, 1000000, 0, 1000000, rfl, Nat.le_of_lt Z4, (setRow_other _ _ _ _ (Nat.ne_of_gt Z4)).trans F8.out, (S8.setRow hR (Nat.le_refl _) _).mono (by omega)⟩
 · have S6d := S6.drew
   have h2a : (it [1, 2, 3]).toArray = #[.int .i64 1, .int .i64 2, .int .i64 3] := rfl
   obtain ⟨⟨c0, c1, c2, c3⟩, _⟩ := row4 G6.out
   go_upto_region 6 with fail
   go_region_held3 (fun W' => W'.cell? ⟨W4.heap.size + 1, 2, none⟩ = some (.slice (some ⟨W4.heap.size, 0, none⟩) 3 3)) (first | exact h2 | exact f2 | exact d2 | exact c2 | (go_keep; done))
    ((first
     | (go_at_call 17; (with_reducible refine (pick_any R (u + 1) _ _ (by first | exact S6d.rdr | exact (S6.alloc _).drew.rdr | exact ((S6.alloc _).alloc _).drew.rdr) (by omega)).mono ?_); rintro e w7 ⟨k0, rfl, hk0, hk1, s7⟩
        have hk2 := hk1 (by omega)
        obtain ⟨k, rfl⟩ := Int.eq_ofNat_of_zero_le hk0
        have hk : k < 3 := (by omega)
        have K7 := Lib.hid (show w7.heap[w.heap.size]? = _ from (by first | exact s7.row K6.out nK | exact s7.row (heap_keep K6.out) nK | exact s7.row (heap_keep (heap_keep K6.out)) nK))
        have F7 := Lib.hid (show w7.heap[W4.heap.size]? = _ from (by first | exact s7.row F6.out nF | exact s7.row (heap_keep F6.out) nF | exact s7.row (heap_keep (heap_keep F6.out)) nF))
        have G7 := Lib.hid (show w7.heap[W4.heap.size + 1]? = _ from (by first | exact s7.row G6.out nG | exact s7.row (heap_keep G6.out) nG | exact s7.row (heap_keep (heap_keep G6.out)) nG))
        have S7 : RdrStep w R (u + 2) w7 := (by first | exact S6d.trans s7 | exact (S6.alloc _).drew.trans s7 | exact ((S6.alloc _).alloc _).drew.trans s7)
        try have l1 := s7.row (g := w6.heap.size) (by first | exact heap_alloc_new _ _ | exact heap_keep (heap_alloc_new _ _)) (by omega)
        try have l2 := s7.row (g := w6.heap.size + 1) (two_blocks w6 _ _).2.1 (by omega)
        obtain ⟨⟨d0, d1, d2, d3⟩, _⟩ := row4 G7.out
        have Y7 := (Array.getElem?_eq_some_iff.1 G7.out).1)
     | (go_at_call 16; (refine (one_at R (u + 2) _ 3 [1, 2, 3] _ (by first | exact S7.rdr | exact (S7.alloc _).rdr | exact ((S7.alloc _).alloc _).rdr) (by omega) (by omega) (by simp) (by simp) (by first | exact l1 | exact l2 | exact heap_keep l1 | exact heap_keep l2 | exact heap_alloc_new _ _ | exact heap_keep (heap_alloc_new _ _) | exact (two_blocks _ _ _).2.1)).mono ?_); rintro e w8 ⟨p, _, rfl, s8⟩
        have K8 := Lib.hid (show w8.heap[w.heap.size]? = _ from (by first | exact s8.row K7.out nK | exact s8.row (heap_keep K7.out) nK | exact s8.row (heap_keep (heap_keep K7.out)) nK))
        have F8 := Lib.hid (show w8.heap[W4.heap.size]? = _ from (by first | exact s8.row F7.out nF | exact s8.row (heap_keep F7.out) nF | exact s8.row (heap_keep (heap_keep F7.out)) nF))
        have G8 := Lib.hid (show w8.heap[W4.heap.size + 1]? = _ from (by first | exact s8.row G7.out nG | exact s8.row (heap_keep G7.out) nG | exact s8.row (heap_keep (heap_keep G7.out)) nG))
        have S8 : RdrStep w R (u + 3) w8 := (by first | exact S7.trans s8 | exact (S7.alloc _).trans s8 | exact ((S7.alloc _).alloc _).trans s8)
        try have m1 := s8.row (by first | exact l1 | exact heap_keep l1 | exact heap_keep (heap_keep l1)) (by omega)
        try have m2 := s8.row (by first | exact l2 | exact heap_keep l2 | exact heap_keep (heap_keep l2)) (by omega)
        try have n1 := s8.row (g := w7.heap.size) (by first | exact heap_alloc_new _ _ | exact heap_keep (heap_alloc_new _ _)) (by omega)
        try have n2 := s8.row (g := w7.heap.size + 1) (two_blocks w7 _ _).2.1 (by omega)
        obtain ⟨⟨f0, f1, f2, f3⟩, _⟩ := row4 G8.out
        have Y8 := (Array.getElem?_eq_some_iff.1 G8.out).1)
     | (go_at_call 16; (refine (one_at R (u + 3) _ 3 [5, 10, 1000000] _ (by first | exact S8.rdr | exact (S8.alloc _).rdr) (by omega) (by omega) (by simp) (by simp) (by first | exact m1 | exact m2 | exact n1 | exact n2 | exact heap_keep m1 | exact heap_keep n1 | exact heap_alloc_new _ _)).mono ?_); rintro e w9 ⟨q, _, rfl, s9⟩
        have K9 := Lib.hid (show w9.heap[w.heap.size]? = _ from (by first | exact s9.row K8.out nK | exact s9.row (heap_keep K8.out) nK))
        have F9 := Lib.hid (show w9.heap[W4.heap.size]? = _ from (by first | exact s9.row F8.out nF | exact s9.row (heap_keep F8.out) nF))
        have G9 := Lib.hid (show w9.heap[W4.heap.size + 1]? = _ from (by first | exact s9.row G8.out nG | exact s9.row (heap_keep G8.out) nG))
        have S9 : RdrStep w R (u + 4) w9 := (by first | exact S8.trans s9 | exact (S8.alloc _).trans s9)
        obtain ⟨⟨h0, h1, h2, h3⟩, _⟩ := row4 G9.out
        obtain ⟨_, _, i0, i1, j0, j1⟩ := six_at F9.out hk
        have Y9 := (Array.getElem?_eq_some_iff.1 G9.out).1)))
   all_goals
     obtain ⟨a0, b0, a1, b1, a2, b2, F10⟩ := six_set F9.out hk p q
     have K10 := Lib.hid (heap_set (i := k * 2 + 1) (v := .int .i64 q) (heap_set (i := k * 2) (v := .int .i64 p) K9.out (Nat.ne_of_lt Z4)) (Nat.ne_of_lt Z4))
     have G10 := Lib.hid (heap_set (i := k * 2 + 1) (v := .int .i64 q) (heap_set (i := k * 2) (v := .int .i64 p) G9.out (Nat.ne_of_gt (Nat.lt_succ_self _))) (Nat.ne_of_gt (Nat.lt_succ_self _)))
     have S10 := (S9.set (i := k * 2) hR (Nat.le_of_lt Z4) (.int .i64 p)).set (i := k * 2 + 1) hR (Nat.le_of_lt Z4) (.int .i64 q)
     have F10 := Lib.hid F10
     generalize (w9.setCell ⟨W4.heap.size, k * 2, none⟩ (.int .i64 p)).setCell ⟨W4.heap.size, k * 2 + 1, none⟩ (.int .i64 q) = W10 at *
     clear F9 K9 G9 S9
     go_upto_region 12 with fail
     refine wp_copy (t := 49) (pd := 2) (ps := 3) (ty := 41) rfl rfl rfl rfl rfl (W4.heap.size + 1) w.heap.size #[.int .i64 0, .int .i64 1000000, .slice (some ⟨W4.heap.size, 0, none⟩) 3 3, .int .i64 0] #[.int .i64 0, .int .i64 0, .slice none 0 0, .int .i64 0] 41 41 4 row41 rfl rfl rfl G10.out rfl K10.out rfl (by simp [Value.oneCell']) ?_
     go_wp2
     refine bodyPost_ret (results_row (p := 2) (ty := 41) rfl row41 _ _ w.heap.size 41 #[.int .i64 0, .int .i64 1000000, .slice (some ⟨W4.heap.size, 0, none⟩) 3 3, .int .i64 0] rfl rfl (setRow_heap _ _ _ _ _ _ K10.out)) rfl ?_
     exact ⟨0, 1000000, 0, W4.heap.size, a0, b0, a1, b1, a2, b2, rfl, Nat.le_of_lt Z4, (setRow_other _ _ _ _ (Nat.ne_of_gt Z4)).trans F10.out, (S10.setRow hR (Nat.le_refl _) _).mono (by omega)⟩
 · go_wp2_with fail
   refine (pick_any R _ _ _ S6.1 (by omega)).mono ?_
   rintro e w7 ⟨a, rfl, ha0, ha1, s7⟩
   have ha2 := ha1 (by omega)
   clear ha1
   have K7 := Lib.hid (s7.row K6.out nK)
   have F7 := Lib.hid (s7.row F6.out nF)
   have G7 := Lib.hid (s7.row G6.out nG)
   have S7 := S6.trans s7
   have Y7 := Nat.lt_of_lt_of_le Y6 s7.size
   clear K6 F6 G6 S6 s7 Y6
   obtain ⟨⟨c0, c1, c2, c3⟩, p0, p1, p2, p3⟩ := row4 G7.out
   have hw : IntKind.i64.wrap (1 + a) = 1 + a := IntWalk.i64_in _ (by omega)
   go_upto_region 12 with fail
   obtain ⟨w8, hW⟩ : ∃ W, W = w7.setCell ⟨W4.heap.size + 1, 3, none⟩ (.int .i64 (1 + a)) := ⟨_, rfl⟩
   rw [← hW]
   have K8 : Hid (w8.heap[w.heap.size]? = some (.cells #[.int .i64 0, .int .i64 0, .slice none 0 0, .int .i64 0] 41 (0, 0))) := by rw [hW]; exact heap_set (K7.out) (by omega)
   have F8 : Hid (w8.heap[W4.heap.size]? = some (.cells #[.int .i64 0, .int .i64 1000000, .int .i64 0, .int .i64 1000000, .int .i64 0, .int .i64 1000000] 38 (0, 0))) := by rw [hW]; exact heap_set (F7.out) (Nat.ne_of_lt (Nat.lt_succ_self _))
   have G8 : Hid (w8.heap[W4.heap.size + 1]? = some (.cells #[.int .i64 0, .int .i64 1000000, .slice (some ⟨W4.heap.size, 0, none⟩) 3 3, .int .i64 (1 + a)] 41 (0, 0))) := by rw [hW]; exact Joins.block_setCell (G7.out) _
   have S8 : RdrStep w R (u + 2) w8 := by rw [hW]; exact RdrStep.set (S7) hR (by omega) _
   have Y8 : W4.heap.size + 1 < w8.heap.size := (Array.getElem?_eq_some_iff.1 G8.out).1
   clear hW K7 F7 G7 S7 Y7 c0 c1 c2 c3 p0 p1 p2 p3
   refine wp_copy (t := 49) (pd := 2) (ps := 3) (ty := 41) rfl rfl rfl rfl rfl (W4.heap.size + 1) w.heap.size #[.int .i64 0, .int .i64 1000000, .slice (some ⟨W4.heap.size, 0, none⟩) 3 3, .int .i64 (1 + a)] #[.int .i64 0, .int .i64 0, .slice none 0 0, .int .i64 0] 41 41 4 row41 rfl rfl rfl G8.out rfl K8.out rfl (by simp [Value.oneCell']) ?_
   go_wp2
   refine bodyPost_ret (results_row (p := 2) (ty := 41) rfl row41 _ _ w.heap.size 41 #[.int .i64 0, .int .i64 1000000, .slice (some ⟨W4.heap.size, 0, none⟩) 3 3, .int .i64 (1 + a)] rfl rfl (setRow_heap _ _ _ _ _ _ K8.out)) rfl ?_
   exact ⟨0, 1000000, (1 + a), W4.heap.size, 0, 1000000, 0, 1000000, 0, 1000000, rfl, Nat.le_of_lt Z4, (setRow_other _ _ _ _ (Nat.ne_of_gt Z4)).trans F8.out, (S8.setRow hR (Nat.le_refl _) _).mono (by omega)⟩
 · go_wp2_with fail
   refine (someSpan_any R _ _ S6.1 (by omega)).mono ?_
   rintro e w7 ⟨a, b, rfl, s7⟩
   have K7 := Lib.hid (s7.row K6.out nK)
   have F7 := Lib.hid (s7.row F6.out nF)
   have G7 := Lib.hid (s7.row G6.out nG)
   have S7 := S6.trans s7
   have Y7 := Nat.lt_of_lt_of_le Y6 s7.size
   clear K6 F6 G6 S6 s7 Y6
   obtain ⟨⟨c0, c1, c2, c3⟩, p0, p1, p2, p3⟩ := row4 G7.out
   go_upto_region 11 with fail
   obtain ⟨w8, hW⟩ : ∃ W, W = (w7.setCell ⟨W4.heap.size + 1, 0, none⟩ (.int .i64 a)).setCell ⟨W4.heap.size + 1, 1, none⟩ (.int .i64 b) := ⟨_, rfl⟩
   rw [← hW]
   have K8 : Hid (w8.heap[w.heap.size]? = some (.cells #[.int .i64 0, .int .i64 0, .slice none 0 0, .int .i64 0] 41 (0, 0))) := by rw [hW]; exact heap_set (heap_set (K7.out) (by omega)) (by omega)
   have F8 : Hid (w8.heap[W4.heap.size]? = some (.cells #[.int .i64 0, .int .i64 1000000, .int .i64 0, .int .i64 1000000, .int .i64 0, .int .i64 1000000] 38 (0, 0))) := by rw [hW]; exact heap_set (heap_set (F7.out) (Nat.ne_of_lt (Nat.lt_succ_self _))) (Nat.ne_of_lt (Nat.lt_succ_self _))
   have G8 : Hid (w8.heap[W4.heap.size + 1]? = some (.cells #[.int .i64 a, .int .i64 b, .slice (some ⟨W4.heap.size, 0, none⟩) 3 3, .int .i64 0] 41 (0, 0))) := by rw [hW]; exact Joins.block_setCell (Joins.block_setCell (G7.out) _) _
   have S8 : RdrStep w R (u + 3) w8 := by rw [hW]; exact RdrStep.set (RdrStep.set (S7) hR (by omega) _) hR (by omega) _
   have Y8 : W4.heap.size + 1 < w8.heap.size := (Array.getElem?_eq_some_iff.1 G8.out).1
   clear hW K7 F7 G7 S7 Y7 c0 c1 c2 c3 p0 p1 p2 p3
   obtain ⟨⟨c0, c1, c2, c3⟩, _⟩ := row4 G8.out
   go_region_with (go_at_call 59; (refine (someSpan_any R _ w8.drew S8.drew.1 (by omega)).mono ?_); rintro e w9 ⟨p, q, rfl, s9⟩; have g9 := s9.row G8.out nG; obtain ⟨⟨d0, d1, d2, d3⟩, _⟩ := row4 g9; have f9 := s9.row F8.out nF; obtain ⟨⟨i0, i1, i2, i3, i4, i5⟩, j0, j1, j2, j3, j4, j5⟩ := row6 f9)
   all_goals go_upto_region 12 with fail
   all_goals
     have K9 := Lib.hid (s9.row K8.out nK)
     have F9 := Lib.hid f9
     have G9 := Lib.hid g9
     have S9 := S8.drew.trans s9
     have Y9 := Nat.lt_of_lt_of_le Y8 s9.size
     obtain ⟨w10, hW⟩ : ∃ W, W = (w9.setCell ⟨W4.heap.size, 0, none⟩ (.int .i64 p)).setCell ⟨W4.heap.size, 1, none⟩ (.int .i64 q) := ⟨_, rfl⟩
     rw [← hW]
     have K10 : Hid (w10.heap[w.heap.size]? = some (.cells #[.int .i64 0, .int .i64 0, .slice none 0 0, .int .i64 0] 41 (0, 0))) := by rw [hW]; exact heap_set (heap_set (K9.out) (by omega)) (by omega)
     have F10 : Hid (w10.heap[W4.heap.size]? = some (.cells #[.int .i64 p, .int .i64 q, .int .i64 0, .int .i64 1000000, .int .i64 0, .int .i64 1000000] 38 (0, 0))) := by rw [hW]; exact Joins.block_setCell (Joins.block_setCell (F9.out) _) _
     have G10 : Hid (w10.heap[W4.heap.size + 1]? = some (.cells #[.int .i64 a, .int .i64 b, .slice (some ⟨W4.heap.size, 0, none⟩) 3 3, .int .i64 0] 41 (0, 0))) := by rw [hW]; exact heap_set (heap_set (G9.out) (Nat.ne_of_gt (Nat.lt_succ_self _))) (Nat.ne_of_gt (Nat.lt_succ_self _))
     have S10 : RdrStep w R (u + 5) w10 := by rw [hW]; exact RdrStep.set (RdrStep.set (S9) hR (by omega) _) hR (by omega) _
     have Y10 : W4.heap.size + 1 < w10.heap.size := (Array.getElem?_eq_some_iff.1 G10.out).1
     clear hW K9 F9 G9 S9 Y9
     refine wp_copy (t := 49) (pd := 2) (ps := 3) (ty := 41) rfl rfl rfl rfl rfl (W4.heap.size + 1) w.heap.size #[.int .i64 a, .int .i64 b, .slice (some ⟨W4.heap.size, 0, none⟩) 3 3, .int .i64 0] #[.int .i64 0, .int .i64 0, .slice none 0 0, .int .i64 0] 41 41 4 row41 rfl rfl rfl G10.out rfl K10.out rfl (by simp [Value.oneCell']) ?_
     go_wp2
     refine bodyPost_ret (results_row (p := 2) (ty := 41) rfl row41 _ _ w.heap.size 41 #[.int .i64 a, .int .i64 b, .slice (some ⟨W4.heap.size, 0, none⟩) 3 3, .int .i64 0] rfl rfl (setRow_heap _ _ _ _ _ _ K10.out)) rfl ?_
     exact ⟨a, b, 0, W4.heap.size, p, q, 0, 1000000, 0, 1000000, rfl, Nat.le_of_lt Z4, (setRow_other _ _ _ _ (Nat.ne_of_gt Z4)).trans F10.out, (S10.setRow hR (Nat.le_refl _) _).mono (by omega)⟩
 · go_upto_region 12 with fail
   refine wp_copy (t := 49) (pd := 2) (ps := 3) (ty := 41) rfl rfl rfl rfl rfl (W4.heap.size + 1) w.heap.size #[.int .i64 0, .int .i64 1000000, .slice (some ⟨W4.heap.size, 0, none⟩) 3 3, .int .i64 0] #[.int .i64 0, .int .i64 0, .slice none 0 0, .int .i64 0] 41 41 4 row41 rfl rfl rfl G6.out rfl K6.out rfl (by simp [Value.oneCell']) ?_
   go_wp2
   refine bodyPost_ret (results_row (p := 2) (ty := 41) rfl row41 _ _ w.heap.size 41 #[.int .i64 0, .int .i64 1000000, .slice (some ⟨W4.heap.size, 0, none⟩) 3 3, .int .i64 0] rfl rfl (setRow_heap _ _ _ _ _ _ K6.out)) rfl ?_
   exact ⟨0, 1000000, 0, W4.heap.size, 0, 1000000, 0, 1000000, 0, 1000000, rfl, Nat.le_of_lt Z4, (setRow_other _ _ _ _ (Nat.ne_of_gt Z4)).trans F6.out, (S6.setRow hR (Nat.le_refl _) _).mono (by omega)⟩
end Go.Proofs.YtijofgaekmahkaaGreatDoor

namespace Go.Proofs.YtijofgaekmahkaaGreatDoor
open Go.RowKit
theorem six_owns {w : World} {g base : Nat} {a0 b0 a1 b1 a2 b2 : Int} (h : w.heap[g]? = some (.cells #[.int .i64 a0, .int .i64 b0, .int .i64 a1, .int .i64 b1, .int .i64 a2, .int .i64 b2] 38 (0, 0))) (hg : base ≤ g) :
   w.ownsRow base 38 2 (.slice (some ⟨g, 0, none⟩) 3 3) [(a0, b0), (a1, b1), (a2, b2)].length (pr [(a0, b0), (a1, b1), (a2, b2)]) :=
 ⟨rfl, .inr ⟨g, 3, _, rfl, hg, h, Nat.le_refl _, by decide, rfl, by rfl⟩⟩
theorem owns_away {w : World} {base e sz n g i : Nat} {v : Value} {xs : List Value} (h : w.ownsRow base e sz v n xs) (hne : ∀ k, v.ownBlock = some k → k ≠ g) (x : Value) : (w.setCell ⟨g, i, none⟩ x).ownsRow base e sz v n xs :=
 h.kept (row := some g) ⟨rfl, rfl, rfl, by simp [World.setCell], fun k _ hk => heap_setCell_other w ⟨g, i, none⟩ k _ (fun e => hk (by simp [e]))⟩ (by
   cases hv : v.ownBlock with
   | none => exact .inl rfl
   | some k => right; intro e; simp only [Option.some.injEq] at e; exact hne k hv e)
theorem owns_ne_ty {w : World} {base e sz n b t : Nat} {v : Value} {xs : List Value} {cs : Array Value} (h : w.ownsRow base e sz v n xs) (hb : w.heap[b]? = some (.cells cs t (0, 0))) (ht : t ≠ e) : ∀ k, v.ownBlock = some k → k ≠ b := by
 intro k hk he
 subst he
 rcases h.2 with ⟨hn, _⟩ | ⟨g, cap, cur, rfl, hg, hh, _⟩
 · rw [hn] at hk; cases hk
 · have : g = k := Option.some.inj hk
   subst this
   rw [hh] at hb
   simp only [Option.some.injEq, Obj.cells.injEq] at hb
   exact ht hb.2.1.symm
theorem owns_row0 {w : World} {base e sz n g : Nat} {v : Value} {xs : List Value} (h : w.ownsRow base e sz v n xs) (hne : ∀ k, v.ownBlock = some k → k ≠ g) (cs : Array Value) : (w.setRow g cs).ownsRow base e sz v n xs :=
 h.kept (grown_setRow w g cs) (by
   cases hv : v.ownBlock with
   | none => exact .inl rfl
   | some k => right; intro e; simp only [Option.some.injEq] at e; exact hne k hv e)
end Go.Proofs.YtijofgaekmahkaaGreatDoor
