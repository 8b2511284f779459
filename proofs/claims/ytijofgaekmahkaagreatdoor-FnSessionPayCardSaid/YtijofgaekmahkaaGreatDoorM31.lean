/- Joined texts: Walk: the receipt, in the program. Walks: the receipt of any arguments of a session in the reference; what is to be paid, both ways. Conditions: none. -/
import Derived.Test.YtijofgaekmahkaaGreatDoorM30
namespace Go.Proofs.YtijofgaekmahkaaGreatDoor
open Go.RowKit
set_option maxHeartbeats 16000000 in
set_option maxRecDepth 100000 in
theorem implReceipt_any (s : List Art) (u : Value) (c : List (Int × Int)) (v : Value) (cp : List Int) (z : Value) (l : List Rx) (y : Value) (w : World) (hs : Rd w 4 u s.length (ar s)) (hv : Rd w 2 v c.length (pr c)) (hz : Rd w 1 z cp.length (it cp)) (hy : RdR w y l) (hp : vCart s c = true) (hq : cpnQ cp = true) (hrs : okRs (rls l) = true) :
   Calls Tryz.prog 40 #[u, v, z, y] w (RcOut s c cp (rls l) w) := by
 have HV := Lib.hid hv
 have HS := Lib.hid hs
 have HZ := Lib.hid hz
 have HY := Lib.hid hy
 have HP := Lib.hid hp
 have HQ := Lib.hid hq
 have HRS := Lib.hid hrs
 have HOK : Hid (∀ x ∈ l, okRu x.r = true) := fun x hx => okRs_mem hrs x.r (List.mem_map.2 ⟨x, hx, rfl⟩)
 have hc8 := (vLines_all (vCart_pr hp).2).2
 have PK := Lib.hid (point_ok hp hq)
 obtain ⟨so, scap, rfl, _⟩ := hs.arts
 obtain ⟨co, ccap, rfl, _⟩ := hv.pairs
 obtain ⟨zo, zcap, rfl, _⟩ := hz.ints
 obtain ⟨yo, ycap, rfl, _⟩ := hy.open
 have b0 : Below w.heap.size w (w.alloc (.cells #[.slice none 0 0, .slice none 0 0] 76)) := (Below.refl _ w).alloc (Nat.le_refl _) _
 have bx := heap_alloc_new w (.cells #[.slice none 0 0, .slice none 0 0] 76)
 have hsz : w.heap.size < (w.alloc (.cells #[.slice none 0 0, .slice none 0 0] 76)).heap.size := by rw [World.size_alloc]; exact Nat.lt_succ_self _
 obtain ⟨W0, hW0⟩ : ∃ W0, W0 = w.alloc (.cells #[.slice none 0 0, .slice none 0 0] 76) := ⟨_, rfl⟩
 rw [← hW0] at b0 bx hsz
 have HW0 := Lib.hid hW0
 have HB0 := Lib.hid b0
 have BX := Lib.hid bx
 have HSZ := Lib.hid hsz
 clear hs hv hz hy hp hq hrs b0 bx hsz hW0
 go_enter Tryz.func40, Tryz.ntmps40
 go_upto_region 1 with fail
 rw [← HW0.out]
 clear HW0
 go_upto_region 2 with (go_at_call 71; refine (implPoint_any s _ c _ cp _ _ (HS.out.below HB0.out (Nat.le_refl _)) (HV.out.below HB0.out (Nat.le_refl _)) (HZ.out.below HB0.out (Nat.le_refl _)) HP.out HQ.out).mono ?_; rintro e w1 ⟨a1, k1, a2, k2, rfl, h1, h2, x1⟩; have G1 := Lib.hid h1; have G2 := Lib.hid h2; have X1 := Lib.hid x1; have B1 := Lib.hid (HB0.out.trans (x1.mono HB0.out.size)); clear h1 h2 x1)
 have pb := heap_alloc_new w1 (.cells #[.int .i64 (totK s c c.length), .slice a1 3 k1, .slice a2 cp.length k2] 110)
 have d1 : Below w1.heap.size w1 (w1.alloc (.cells #[.int .i64 (totK s c c.length), .slice a1 3 k1, .slice a2 cp.length k2] 110)) := (Below.refl _ w1).alloc (Nat.le_refl _) _
 obtain ⟨W1, hW1⟩ : ∃ W1, W1 = w1.alloc (.cells #[.int .i64 (totK s c c.length), .slice a1 3 k1, .slice a2 cp.length k2] 110) := ⟨_, rfl⟩
 rw [← hW1] at pb d1 ⊢
 have PB := Lib.hid pb
 have GC := Lib.hid (G1.out.below d1 (Nat.le_refl _))
 have GP := Lib.hid (G2.out.below d1 (Nat.le_refl _))
 have X2 := Lib.hid (X1.out.trans (d1.mono X1.out.size))
 have B2 := Lib.hid (B1.out.trans (d1.mono B1.out.size))
 clear pb d1 hW1 G1 G2 X1 B1
 have RX := Lib.hid ((X2.out.block w.heap.size HSZ.out).trans BX.out)
 cases hcl : clrQ (rls l)
 · have HCL := Lib.hid hcl
   have HIC : Hid ((okRs (rls l) && clrQ (rls l)) = false) := by rw [Hid, hcl, Bool.and_false]
   clear hcl
   go_wp2_with (go_at_call 72; refine (isClear_any l _ _ (HY.out.below B2.out (Nat.le_refl _)) HOK.out).mono ?_; rintro e w2 ⟨rfl, x2⟩; rw [HIC.out]; have B3 := Lib.hid (B2.out.trans (x2.mono B2.out.size)); have RX2 := Lib.hid ((x2.block w.heap.size (Nat.lt_of_lt_of_le HSZ.out X2.out.size)).trans RX.out); obtain ⟨⟨f0, f1⟩, q0, q1⟩ := row2 RX2.out; clear x2)
   refine bodyPost_ret (results_row_tmp (p := 8) (q := 9) (ty := 76) rfl row76 _ _ w.heap.size 76 #[.slice none 0 0, .slice none 0 0] rfl rfl (Joins.block_setCell (i := 1) (Joins.block_setCell (i := 0) RX2.out _) _)) rfl ?_
   exact ⟨none, 0, 0, none, 0, 0, by rw [HCL.out]; rfl, (fun h => by rw [HCL.out] at h; cases h), (B3.out.setCell (Nat.le_refl _) _).setCell (Nat.le_refl _) _⟩
 · have HCL := Lib.hid hcl
   have HIC : Hid ((okRs (rls l) && clrQ (rls l)) = true) := by rw [Hid, hcl, HRS.out]; rfl
   clear hcl
   go_upto_region 5 with (first
     | (go_at_call 72; refine (isClear_any l _ _ (HY.out.below B2.out (Nat.le_refl _)) HOK.out).mono ?_; rintro e w2 ⟨rfl, x2⟩; rw [HIC.out]; have X3 := Lib.hid x2; have B3 := Lib.hid (B2.out.trans (x2.mono B2.out.size)); clear x2)
     | (go_at_call 70; refine (implAmounts_any s _ c _ _ (HS.out.below B3.out (Nat.le_refl _)) (HV.out.below B3.out (Nat.le_refl _)) HP.out).mono ?_; rintro e w3 ⟨o, rfl, h3, x3⟩; have H3' : w3.ownsRow w2.heap.size 3 1 o c.length (it (amK s c c.length)) := (by have h9 := h3; rw [amK_len] at h9; exact h9); obtain ⟨lo, lcap, hq3, hq4⟩ := owns_shape H3'; subst hq3; have O3 := Lib.hid H3'; have X4 := Lib.hid x3; have B4 := Lib.hid (B3.out.trans (x3.mono B3.out.size)); clear h3 x3 H3'))
   have n0 := heap_alloc_new (w3.alloc (.cells #[] 80)) (.cells #[.slice lo c.length lcap, .slice (some ⟨w3.heap.size, 0, none⟩) 0 0] 76)
   have d4 : Below w3.heap.size w3 ((w3.alloc (.cells #[] 80)).alloc (.cells #[.slice lo c.length lcap, .slice (some ⟨w3.heap.size, 0, none⟩) 0 0] 76)) := ((Below.refl _ w3).alloc (Nat.le_refl _) _).alloc (by rw [World.size_alloc]; exact Nat.le_succ _) _
   have z4 : ((w3.alloc (.cells #[] 80)).alloc (.cells #[.slice lo c.length lcap, .slice (some ⟨w3.heap.size, 0, none⟩) 0 0] 76)).heap.size = w3.heap.size + 2 := by rw [World.size_alloc, World.size_alloc]
   obtain ⟨W4, hW4⟩ : ∃ W4, W4 = (w3.alloc (.cells #[] 80)).alloc (.cells #[.slice lo c.length lcap, .slice (some ⟨w3.heap.size, 0, none⟩) 0 0] 76) := ⟨_, rfl⟩
   rw [← hW4] at n0 d4 z4 ⊢
   rw [World.size_alloc] at n0
   have N0 := Lib.hid n0
   have Z4 := Lib.hid z4
   have B5 := Lib.hid (B4.out.trans (d4.mono B4.out.size))
   have O4 := Lib.hid (ownsRow_below O3.out d4 (Nat.le_refl _))
   have X5 := Lib.hid (X4.out.trans (d4.mono X4.out.size))
   have LO : Hid (∀ g, lo = some ⟨g, 0, none⟩ → w2.heap.size ≤ g ∧ g < w3.heap.size + 1) := fun g hg => by
     subst hg
     have h9 := O3.out.lt g rfl
     exact ⟨h9.1, Nat.lt_succ_of_lt h9.2⟩
   have HQ4 := Lib.hid hq4
   have Z3 := Lib.hid X4.out.size
   clear n0 z4 d4 hW4 hq4
   go_wp2_with (go_at_call 73; refine (ordered_any l _ _ (HY.out.below B5.out (Nat.le_refl _)) HRS.out).mono ?_; rintro e w5 ⟨o5, L, rfl, hL, hPm, hR, x5, hba⟩; obtain ⟨oo, ocap, hoo, _, _, hcells⟩ := hR.open; subst hoo; have HL := Lib.hid hL; have HPM := Lib.hid hPm; have HBA := Lib.hid hba; have HCE := Lib.hid hcells; have X6 := Lib.hid x5; clear hL hPm hR x5 hba hcells)
   have RC : Hid (Rcc w2 w5 W4.heap.size lo (w3.heap.size + 1)) := by
     have h1 := Z4.out
     have h2 := Z3.out
     exact ⟨LO.out, by omega, by omega, X6.out.size⟩
   have RM0 : Hid (Rcm w2 w5 W4.heap.size lo c.length lcap (w3.heap.size + 1) w3.heap.size (.slice (some ⟨w3.heap.size, 0, none⟩) 0 0) (amK s c c.length) [] w5) := by
     have h1 := Z4.out
     exact ⟨X5.out.trans (X6.out.mono X5.out.size), fun i _ _ => rfl, Nat.le_refl _, ownsRow_below O4.out X6.out (Nat.le_refl _), .inl ⟨rfl, rfl⟩, (X6.out.block _ (by omega)).trans N0.out⟩
   have hrok : ∀ r ∈ rls L, okRu r = true := by rw [HL.out]; exact (ordL_ok HRS.out).1
   have HRO := Lib.hid hrok
   have hL6 : L.length ≤ 6 := by have h := (ordL_ok HRS.out).2; rw [← HL.out, rls_len] at h; exact h
   have PB2 : Hid (w2.heap[w1.heap.size]? = some (.cells #[.int .i64 (totK s c c.length), .slice a1 3 k1, .slice a2 cp.length k2] 110 (0, 0))) := (X3.out.block _ (Array.getElem?_eq_some_iff.1 PB.out).1).trans PB.out
   have GC2 := Lib.hid (GC.out.below X3.out (Nat.le_refl _))
   have GP2 := Lib.hid (GP.out.below X3.out (Nat.le_refl _))
   have RX2 := Lib.hid ((X3.out.block w.heap.size (Nat.lt_of_lt_of_le HSZ.out X2.out.size)).trans RX.out)
   have HSW : Hid (w.heap.size < w2.heap.size) := Nat.lt_of_lt_of_le HSZ.out (Nat.le_trans X2.out.size X3.out.size)
   have HPW : Hid (w1.heap.size < w2.heap.size) := (Array.getElem?_eq_some_iff.1 PB2.out).1
   clear hrok PB GC GP N0 Z4 B4 B5 O3 O4 X4 X5 LO Z3 X6 RX B2 X2 X3 HSZ HIC
   go_loopw [40] (fun i_ wr => ∃ (k : Nat) (nv : Value), k ≤ L.length ∧ i_ = .int .i64 k ∧ Hid (Rcm w2 w5 W4.heap.size lo c.length lcap (w3.heap.size + 1) w3.heap.size nv (rcK s c cp (rls L) k).1 (rcK s c cp (rls L) k).2 wr)) (fun i_ _ => L.length - (intOf i_).toNat)
   case atStart => exact ⟨0, _, Nat.zero_le _, rfl, RM0⟩
   case round =>
     clear RM0
     obtain ⟨k, nv, hk, rfl, RM⟩ := hrel
     have hrc := rcK_ok (cp := cp) HP.out HRO.out k (by rw [rls_len]; exact hk)
     have HRC := Lib.hid hrc
     clear hrc
     obtain ⟨no, ncap, hqn⟩ := RM.out.nt.shape
     subst hqn
     by_cases hlt : k < L.length
     · obtain ⟨b, off, rfl, hb, hcell⟩ := HCE.out (by omega)
       have hb4 : W4.heap.size ≤ b := HBA.out ⟨b, off, none⟩ _ _ rfl
       have fk := hcell k hlt
       have hpx := HY.out.2 _ (HPM.out.mem_iff.1 (xT_mem hlt))
       have hkx := HRO.out _ (List.mem_map.2 ⟨_, xT_mem hlt, rfl⟩)
       obtain ⟨po, pcap, hpe, _⟩ := hpx.pairs
       have he1 : rcK s c cp (rls L) (k + 1) = rcS s c cp (rcK s c cp (rls L) k) (xT L k).r := by rw [rcK, rls_at]
       obtain ⟨x, hxe⟩ : ∃ x, x = (xT L k).r := ⟨_, rfl⟩
       rw [← hxe] at fk hpx hkx hpe he1
       rw [hpe] at fk hpx
       have E1 := Lib.hid he1
       have KX := Lib.hid hkx
       have hbm := RM.out.mi b hb4 hb
       have hbw : b < wr.heap.size := Nat.lt_of_lt_of_le hb RM.out.sz
       have c0 := (World.cell?_of_block (a := ⟨b, off + k*11, none⟩) hbm).trans (fk 0 _ rfl)
       have c1 := (World.cell?_of_block (a := ⟨b, off + k*11+1, none⟩) hbm).trans (fk 1 _ rfl)
       have c2 := (World.cell?_of_block (a := ⟨b, off + k*11+2, none⟩) hbm).trans (fk 2 _ rfl)
       have c3 := (World.cell?_of_block (a := ⟨b, off + k*11+3, none⟩) hbm).trans (fk 3 _ rfl)
       have c4 := (World.cell?_of_block (a := ⟨b, off + k*11+4, none⟩) hbm).trans (fk 4 _ rfl)
       have c5 := (World.cell?_of_block (a := ⟨b, off + k*11+5, none⟩) hbm).trans (fk 5 _ rfl)
       have c6 := (World.cell?_of_block (a := ⟨b, off + k*11+6, none⟩) hbm).trans (fk 6 _ rfl)
       have c7 := (World.cell?_of_block (a := ⟨b, off + k*11+7, none⟩) hbm).trans (fk 7 _ rfl)
       have c8 := (World.cell?_of_block (a := ⟨b, off + k*11+8, none⟩) hbm).trans (fk 8 _ rfl)
       have c9 := (World.cell?_of_block (a := ⟨b, off + k*11+9, none⟩) hbm).trans (fk 9 _ rfl)
       have c10 := (World.cell?_of_block (a := ⟨b, off + k*11+10, none⟩) hbm).trans (fk 10 _ rfl)
       have hk0 : (0 : Int) ≤ (k : Int) := by omega
       have hk1 : (k : Int) < (L.length : Int) := by omega
       have a1 : (wr.alloc (.cells #[.int .i64 x.num, .int .i64 x.lvl, .int .i64 x.rank, .int .i64 x.group, .int .i64 x.kind, .int .i64 x.value, .int .i64 x.cap, .int .i64 x.lo, .int .i64 x.hi, .slice po x.counts.length pcap, .int .i64 x.coupon] 43)).heap[wr.heap.size]? = some (.cells #[.int .i64 x.num, .int .i64 x.lvl, .int .i64 x.rank, .int .i64 x.group, .int .i64 x.kind, .int .i64 x.value, .int .i64 x.cap, .int .i64 x.lo, .int .i64 x.hi, .slice po x.counts.length pcap, .int .i64 x.coupon] 43 (0, 0)) := heap_alloc_new wr _
       have d1 : Below wr.heap.size wr (wr.alloc (.cells #[.int .i64 x.num, .int .i64 x.lvl, .int .i64 x.rank, .int .i64 x.group, .int .i64 x.kind, .int .i64 x.value, .int .i64 x.cap, .int .i64 x.lo, .int .i64 x.hi, .slice po x.counts.length pcap, .int .i64 x.coupon] 43)) := (Below.refl _ wr).alloc (Nat.le_refl _) _
       obtain ⟨W, hW⟩ : ∃ W, W = wr.alloc (.cells #[.int .i64 x.num, .int .i64 x.lvl, .int .i64 x.rank, .int .i64 x.group, .int .i64 x.kind, .int .i64 x.value, .int .i64 x.cap, .int .i64 x.lo, .int .i64 x.hi, .slice po x.counts.length pcap, .int .i64 x.coupon] 43) := ⟨_, rfl⟩
       rw [← hW] at a1 d1
       have HW := Lib.hid hW
       have A1 := Lib.hid a1
       have RW := Lib.hid (RM.out.below RC.out d1 (Nat.le_refl _))
       have BW := Lib.hid (B3.out.trans (RW.out.be.mono B3.out.size))
       have HPX := Lib.hid (hpx.below BW.out (Nat.le_refl _))
       have HWR : Hid (w5.heap.size ≤ wr.heap.size) := RM.out.sz
       clear hcell fk hpx hkx hpe hxe he1 hbm a1 d1 hW RM hb hb4
       go_upto_region 8 with fail
       rw [← HW.out]
       clear HW c0 c1 c2 c3 c4 c5 c6 c7 c8 c9 c10
       have bz := box_at (r := x) (v := .slice po x.counts.length pcap) A1.out
       have d0 := bz.c0
       have d1 := bz.c1
       have d2 := bz.c2
       have d3 := bz.c3
       have d4 := bz.c4
       have d5 := bz.c5
       have d6 := bz.c6
       have d7 := bz.c7
       have d8 := bz.c8
       have d9 := bz.c9
       have d10 := bz.c10
       have hzW : wr.heap.size < W.heap.size := (Array.getElem?_eq_some_iff.1 A1.out).1
       obtain ⟨⟨p0, p1, p2⟩, _⟩ := row3z ((RW.out.be.block _ HPW.out).trans PB2.out)
       have G0 := Lib.hid (implHolds_any x _ (totK s c c.length) (grpL s c) cp (.slice a1 3 k1) (.slice a2 cp.length k2) W HPX.out (GC2.out.below RW.out.be (Nat.le_refl _)) (GP2.out.below RW.out.be (Nat.le_refl _)) (okRu_gd KX.out) PK.out)
       unfold gdV at G0
       clear bz
       cases hh : hldQ x (totK s c c.length) (grpL s c) cp
       · have HH := Lib.hid hh
         have e2 := Lib.hid (E1.out.trans (rcS_no hh))
         clear hh
         go_wp2_with (go_at_call 74; (with_reducible refine G0.out.mono ?_); rintro e w6 ⟨rfl, x6⟩; rw [HH.out]; have R6 := Lib.hid (RW.out.below RC.out x6 (Nat.le_refl _)); clear x6)
         go_roundw
         case rel => exact ⟨k + 1, _, by omega, by go_num, by rw [e2.out]; exact R6⟩
         case measure => simp [intOf]; omega
       · have HH := Lib.hid hh
         have e2 := Lib.hid (E1.out.trans (rcS_yes hh))
         obtain ⟨st, hst⟩ : ∃ st, st = rcK s c cp (rls L) k := ⟨_, rfl⟩
         rw [← hst] at RW e2 HRC
         have hef := effL_bd (s := s) (left := st.1) KX.out HP.out (fun j hj => (HRC.out.left.2 j hj).1)
         obtain ⟨off2, hoff⟩ : ∃ off2, off2 = effL s x c st.1 := ⟨_, rfl⟩
         rw [← hoff] at hef e2
         have HEF := Lib.hid hef
         have HOF := Lib.hid hoff
         have HLB : Hid (∀ j, j < c.length → 0 ≤ iG off2 j ∧ iG off2 j ≤ iG st.1 j ∧ iG st.1 j ≤ 1000000) := fun j hj => by
           have h1 := HEF.out.2 j hj
           have h2 := HRC.out.left.2 j hj
           have h3 := amt_bd HP.out hj
           omega
         have HSL : Hid (st.1.length = c.length) := HRC.out.left.1
         have HNL : Hid (st.2.length ≤ 48) := by have h9 := HRC.out.len; unfold Hid; omega
         clear hh hst hef hoff
         go_wp2_with (first
           | (go_at_call 74; (with_reducible refine G0.out.mono ?_); rintro e w6 ⟨rfl, x6⟩; rw [HH.out]; have R6 := Lib.hid (RW.out.below RC.out x6 (Nat.le_refl _)); have A6 := Lib.hid ((x6.block _ hzW).trans A1.out); have P6 := Lib.hid (HPX.out.below x6 (Nat.le_refl _)); have B6 := Lib.hid (B3.out.trans (R6.out.be.mono B3.out.size)); have bz := box_at (r := x) (v := .slice po x.counts.length pcap) A6.out; have d0 := bz.c0; have d1 := bz.c1; have d2 := bz.c2; have d3 := bz.c3; have d4 := bz.c4; have d5 := bz.c5; have d6 := bz.c6; have d7 := bz.c7; have d8 := bz.c8; have d9 := bz.c9; have d10 := bz.c10; obtain ⟨⟨f0, f1⟩, q0, q1⟩ := row2 R6.out.bx; clear x6 bz)
           | (go_at_call 75; refine (implEffect_any s _ c _ x _ st.1 _ _ (HS.out.below B6.out (Nat.le_refl _)) (HV.out.below B6.out (Nat.le_refl _)) P6.out (by rw [HSL.out]; exact Rd.of_owns R6.out.lf) HP.out KX.out HRC.out.left).mono ?_; rintro e w7 ⟨o7, rfl, h7, x7⟩; rw [← HOF.out] at h7; obtain ⟨eo, ecap, hq7, hq8⟩ := owns_shape h7; subst hq7; have R7 := Lib.hid (R6.out.below RC.out x7 (Nat.le_refl _)); have E7 := Lib.hid (owns_base h7 R6.out.sz); have A7 := Lib.hid ((x7.block _ (Array.getElem?_eq_some_iff.1 A6.out).1).trans A6.out); have HQ8 := Lib.hid hq8; clear h7 x7 hq8))
         have U7 := Lib.hid (rule_owns (base := w5.heap.size) (r := x) (v := .slice po x.counts.length pcap) A7.out HWR.out)
         have S7 : Hid (Rcm w2 w5 W4.heap.size lo c.length lcap (w3.heap.size + 1) w3.heap.size (.slice no st.2.length ncap) (subK st.1 off2 0) (st.2 ++ ntK x off2 0) w7) := by
           rw [Hid, subK_zero, show ntK x off2 0 = [] from rfl, List.append_nil]
           exact R7.out
         have HOL : Hid (off2.length = c.length) := HEF.out.1
         clear RW R6 R7 A6 A7 P6 B6 hzW p0 p1 p2 A1 HPX G0 d0 d1 d2 d3 d4 d5 d6 d7 d8 d9 d10 f0 f1 q0 q1 BW
         obtain ⟨br, hbr⟩ : ∃ br, br = wr.heap.size := ⟨_, rfl⟩
         rw [← hbr] at U7 HWR ⊢
         clear hbr
         go_loopw [56] (fun j_ wr => ∃ (j : Nat) (nv : Value), j ≤ c.length ∧ j_ = .int .i64 j ∧ Hid (Rcm w2 w5 W4.heap.size lo c.length lcap (w3.heap.size + 1) w3.heap.size nv (subK st.1 off2 j) (st.2 ++ ntK x off2 j) wr) ∧ Hid (wr.ownsRow w5.heap.size 3 1 (.slice eo c.length ecap) c.length (it off2)) ∧ Hid (wr.ownsRow w5.heap.size 43 11 (.slice (some ⟨br, 0, none⟩) 1 1) 1 (ruL x (.slice po x.counts.length pcap)))) (fun j_ _ => c.length - (intOf j_).toNat)
         case atStart => exact ⟨0, _, Nat.zero_le _, rfl, S7, E7, U7⟩
         case round =>
           clear S7 E7 U7
           obtain ⟨j, nv, hj, rfl, RM, EM, UM⟩ := hrel
           obtain ⟨ns, hns⟩ : ∃ ns : List Nt, ns = st.2 ++ ntK x off2 j := ⟨_, rfl⟩
           rw [← hns] at RM
           have HNS := Lib.hid hns
           clear hns
           obtain ⟨no2, ncap2, hqn⟩ := RM.out.nt.shape
           subst hqn
           have hnl := ntK_len x off2 j
           by_cases hjl : j < c.length
           · obtain ⟨g, rfl, _⟩ := HQ4.out (by omega)
             obtain ⟨ge, rfl, _⟩ := HQ8.out (by omega)
             have hb := HLB.out j hjl
             obtain ⟨e0, _⟩ := owns_at1 EM.out j hjl
             obtain ⟨l0, lf0⟩ := owns_at1 RM.out.lf j hjl
             rw [subK_get (by rw [HSL.out]; exact hjl)] at l0
             obtain ⟨⟨f0, f1⟩, q0, q1⟩ := row2 RM.out.bx
             have u0 : wr.cell? ⟨br, 0, none⟩ = some (.int .i64 x.num) := UM.out.cellAt 0 (by decide)
             have hge := EM.out.lt ge rfl
             have hgl := RM.out.lf.lt g rfl
             have hgw := UM.out.lt br rfl
             have hcg := RC.out.lo g rfl
             have hc4 := RC.out.b4
             have hc5 := RC.out.b5
             have hsz := RM.out.sz
             have hj0 : (0 : Int) ≤ (j : Int) := by omega
             have hj1 : (j : Int) < (c.length : Int) := by omega
             by_cases hpos : 0 < iG off2 j
             · have hpb : decide (0 < iG off2 j) = true := by simp [hpos]
               have ew : IntKind.i64.wrap (iG st.1 j - iG off2 j) = iG st.1 j - iG off2 j := IntWalk.i64_in _ (by omega)
               have HNY := Lib.hid (ntK_yes (r := x) hpos)
               have RM2 := Lib.hid (RM.out.left_set RC.out j (iG st.1 j - iG off2 j))
               obtain ⟨b0, b1⟩ := row2 RM2.out.bx
               obtain ⟨bb0, bb1⟩ := b0
               obtain ⟨bq0, bq1⟩ := b1
               have EM2 := Lib.hid (owns_off (g := g) (i := j) EM.out (fun k hk => by obtain rfl : ge = k := Option.some.inj hk; omega) (.int .i64 (iG st.1 j - iG off2 j)))
               have UM2 := Lib.hid (owns_off (g := g) (i := j) UM.out (fun k hk => by obtain rfl : br = k := Option.some.inj hk; omega) (.int .i64 (iG st.1 j - iG off2 j)))
               have u1 : (wr.setCell ⟨g, j, none⟩ (.int .i64 (iG st.1 j - iG off2 j))).cell? ⟨br, 0, none⟩ = some (.int .i64 x.num) := UM2.out.cellAt 0 (by decide)
               have d9 : Below (wr.setCell ⟨g, j, none⟩ (.int .i64 (iG st.1 j - iG off2 j))).heap.size (wr.setCell ⟨g, j, none⟩ (.int .i64 (iG st.1 j - iG off2 j))) ((wr.setCell ⟨g, j, none⟩ (.int .i64 (iG st.1 j - iG off2 j))).alloc (.cells #[.int .i64 (j : Int), .int .i64 x.num, .int .i64 (iG off2 j)] 80)) := (Below.refl _ _).alloc (Nat.le_refl _) _
               have RM3 := Lib.hid (RM2.out.below RC.out d9 (Nat.le_refl _))
               have EM3 := Lib.hid (ownsRow_below EM2.out d9 (Nat.le_refl _))
               have UM3 := Lib.hid (ownsRow_below UM2.out d9 (Nat.le_refl _))
               have NR := Lib.hid (note_rd (wr.setCell ⟨g, j, none⟩ (.int .i64 (iG st.1 j - iG off2 j))) ⟨j, x.num, iG off2 j⟩)
               have HNL2 : Hid (ns.length + [(⟨j, x.num, iG off2 j⟩ : Nt)].length ≤ 1000000) := by have h9 := HNL.out; rw [Hid, HNS.out, List.length_append, List.length_singleton]; omega
               rw [World.size_setCell] at NR
               clear d9 hpos hnl EM2 UM2 EM UM
               go_wp2_with (at_builtin; refine wp_nt rfl (.tmp 72) (.tmp 78) rfl w5.heap.size w3.heap.size _ _ ns [⟨j, x.num, iG off2 j⟩] rfl rfl RM3.out.nt RM3.out.sz NR.out HNL2.out ?_; intro v9 W9 n9 y9 k9; obtain ⟨n10, nc10, hq10⟩ := n9.shape; subst hq10; have RM4 := Lib.hid (RM3.out.note RC.out n9 y9 k9); have EM4 := Lib.hid (k9 _ _ _ _ _ _ (by decide) EM3.out); have UM4 := Lib.hid (k9 _ _ _ _ _ _ (by decide) UM3.out); obtain ⟨⟨g0, g1⟩, r0, r1⟩ := row2 ((y9.block (w3.heap.size + 1) (by omega)).trans RM3.out.bx); clear n9 y9 k9)
               go_roundw
               case rel => exact ⟨j + 1, _, by omega, by go_num, by rw [Hid, ← subK_set, HNY.out, ← List.append_assoc, ← HNS.out]; have h9 := RM4.out; rw [List.length_append] at h9; exact h9, owns_off EM4.out (fun k hk => by obtain rfl : ge = k := Option.some.inj hk; omega) _, owns_off UM4.out (fun k hk => by obtain rfl : br = k := Option.some.inj hk; omega) _⟩
               case measure => simp [intOf]; omega
             · have hpb : decide (0 < iG off2 j) = false := by simp; omega
               have HNN := Lib.hid (ntK_no (r := x) hpos)
               have HSK := Lib.hid (subK_keep (left := st.1) (off := off2) (k := j) (by rw [HSL.out]; exact hjl) (by omega))
               clear hpos hnl
               go_wp2
               go_roundw
               case rel => exact ⟨j + 1, _, by omega, by go_num, by rw [Hid, HSK.out, HNN.out, ← HNS.out]; exact RM.out, EM, UM⟩
               case measure => simp [intOf]; omega
           · have hj9 : j = c.length := by omega
             have R9 : Hid (Rcm w2 w5 W4.heap.size lo c.length lcap (w3.heap.size + 1) w3.heap.size (.slice no2 ns.length ncap2) (subL st.1 off2) (st.2 ++ ntsL x off2) wr) := by
               have e1 : subK st.1 off2 j = subL st.1 off2 := by rw [hj9, ← HSL.out, subK_end]
               have e3 : ntsL x off2 = ntK x off2 j := by rw [ntsL, HOL.out, hj9]
               rw [Hid, ← e1, e3, ← HNS.out]
               exact RM.out
             have hle : decide ((j : Int) < (c.length : Int)) = false := by simp; omega
             clear RM hj9
             go_wp2
             go_roundw
             case rel => exact ⟨k + 1, _, by omega, by go_num, by rw [e2.out]; exact R9⟩
             case measure => simp [intOf]; omega
     · have hk9 : k = L.length := by omega
       have hle : decide ((k : Int) < (L.length : Int)) = false := by simp; omega
       have fr : Hid (rcK s c cp (rls L) k = rcL s c cp (ordL (rls l))) := by rw [Hid, rcL, ← HL.out, rls_len, hk9]
       rw [fr.out] at RM
       have RX9 := Lib.hid ((RM.out.be.block w.heap.size HSW.out).trans RX2.out)
       obtain ⟨⟨f0, f1⟩, q0, q1⟩ := row2 RM.out.bx
       obtain ⟨⟨g0, g1⟩, r0, r1⟩ := row2 RX9.out
       have HB9 := Lib.hid (B3.out.trans (RM.out.be.mono B3.out.size))
       have hne : ¬ w3.heap.size + 1 = w.heap.size := by have h1 := RC.out.b2; have h2 := HSW.out; omega
       clear hk9
       go_wp
       refine bodyPost_ret (results_row_tmp (p := 8) (q := 9) (ty := 76) rfl row76 _ _ w.heap.size 76 #[.slice lo c.length lcap, .slice no (rcL s c cp (ordL (rls l))).2.length ncap] rfl rfl (Joins.block_setCell (i := 1) (Joins.block_setCell (i := 0) RX9.out _) _)) rfl ?_
       have n1 : ∀ j, (Value.slice lo c.length lcap).ownBlock = some j → j ≠ w.heap.size := fun j hj => by have h1 := (RM.out.lf.lt j hj).1; have h2 := HSW.out; omega
       have h5 : w.heap.size < w5.heap.size := by have h1 := RC.out.b2; have h2 := RC.out.b4; have h3 := RC.out.b5; have h4 := HSW.out; omega
       have nb2 : ∀ g, no = some g → w.heap.size ≤ g.block := fun g hg => by
         subst hg
         rcases RM.out.nt with ⟨h1, _⟩ | h
         · injection h1 with h1
           obtain rfl := Option.some.inj h1
           have h2 := RC.out.b2
           have h3 := HSW.out
           simp only
           omega
         · have h1 := slice_base h _ _ _ rfl
           omega
       exact ⟨lo, c.length, lcap, no, _, ncap, by rw [HCL.out]; rfl, fun _ => ⟨rfl, rfl, Rd.of_owns (owns_off (owns_off RM.out.lf n1 _) n1 _), ((RM.out.nt.set h5).set h5).rd, nb2⟩, (HB9.out.setCell (Nat.le_refl _) _).setCell (Nat.le_refl _) _⟩
end Go.Proofs.YtijofgaekmahkaaGreatDoor

namespace Go.Proofs.YtijofgaekmahkaaGreatDoor
open Go.RowKit
theorem rc_left {s : List Art} {c : List (Int × Int)} (cp : List Int) {rs : List Rl} (hc : vCart s c = true) (hr : okRs rs = true) : (rcL s c cp (ordL rs)).1.length = c.length ∧ ∀ j, j < c.length → 0 ≤ iG (rcL s c cp (ordL rs)).1 j ∧ iG (rcL s c cp (ordL rs)).1 j ≤ 1000000 := by
 have h := (rcK_ok (cp := cp) hc (ordL_ok hr).1 (ordL rs).length (Nat.le_refl _)).left
 refine ⟨h.1, fun j hj => ?_⟩
 have h2 := h.2 j hj
 have h3 := amt_bd hc hj
 unfold rcL
 omega
set_option maxHeartbeats 8000000 in
set_option maxRecDepth 100000 in
theorem specReceipt_any (s : List Art) (u : Value) (c : List (Int × Int)) (v : Value) (cp : List Int) (z : Value) (l : List Rx) (y : Value) (w : World) (hs : Rd w 4 u s.length (ar s)) (hv : Rd w 2 v c.length (pr c)) (hz : Rd w 1 z cp.length (it cp)) (hy : RdR w y l) (hp : vCart s c = true) (hq : cpnQ cp = true) (hrs : okRs (rls l) = true) :
   Calls Tryz.prog 93 #[u, v, z, y] w (RcOut s c cp (rls l) w) := by
 have HV := Lib.hid hv
 have HS := Lib.hid hs
 have HZ := Lib.hid hz
 have HY := Lib.hid hy
 have HP := Lib.hid hp
 have HQ := Lib.hid hq
 have HRS := Lib.hid hrs
 have HSV := Lib.hid (vCart_pr hp).1
 have HLV := Lib.hid (vCart_pr hp).2
 have hs10 := (vShop_all (vCart_pr hp).1).2.2
 have HOK : Hid (∀ x ∈ l, okRu x.r = true) := fun x hx => okRs_mem hrs x.r (List.mem_map.2 ⟨x, hx, rfl⟩)
 obtain ⟨so, scap, rfl, _⟩ := hs.arts
 obtain ⟨co, ccap, rfl, _⟩ := hv.pairs
 obtain ⟨zo, zcap, rfl, _⟩ := hz.ints
 obtain ⟨yo, ycap, rfl, _⟩ := hy.open
 have b0 : Below w.heap.size w (w.alloc (.cells #[.slice none 0 0, .slice none 0 0] 76)) := (Below.refl _ w).alloc (Nat.le_refl _) _
 have bx := heap_alloc_new w (.cells #[.slice none 0 0, .slice none 0 0] 76)
 have hsz : w.heap.size < (w.alloc (.cells #[.slice none 0 0, .slice none 0 0] 76)).heap.size := by rw [World.size_alloc]; exact Nat.lt_succ_self _
 obtain ⟨W0, hW0⟩ : ∃ W0, W0 = w.alloc (.cells #[.slice none 0 0, .slice none 0 0] 76) := ⟨_, rfl⟩
 rw [← hW0] at b0 bx hsz
 have HW0 := Lib.hid hW0
 have HB0 := Lib.hid b0
 have BX := Lib.hid bx
 have HSZ := Lib.hid hsz
 clear hs hv hz hy hp hq hrs b0 bx hsz hW0
 cases hcl : clrQ (rls l)
 · have HCL := Lib.hid hcl
   clear hcl
   go_enter Tryz.func93, Tryz.ntmps93
   go_upto_region 1 with fail
   rw [← HW0.out]
   clear HW0
   go_wp2_with (first
     | (go_at_call 89; refine (specShop_in s _ _ (HS.out.below HB0.out (Nat.le_refl _))).mono ?_; rintro e w1 ⟨rfl, x1⟩; rw [HSV.out]; have B1 := Lib.hid (HB0.out.trans (x1.mono HB0.out.size)); have X1 := Lib.hid x1; clear x1)
     | (go_at_call 90; refine (specCart_in _ _ _ c _ _ (HV.out.below B1.out (Nat.le_refl _)) (by omega)).mono ?_; rintro e w2 ⟨rfl, x2⟩; rw [HLV.out]; have B2 := Lib.hid (B1.out.trans (x2.mono B1.out.size)); have X2 := Lib.hid (X1.out.trans (x2.mono X1.out.size)); clear x2)
     | (go_at_call 128; refine (specCoupons_any cp _ _ (HZ.out.below B2.out (Nat.le_refl _)) HQ.out).mono ?_; rintro e w3 ⟨rfl, x3⟩; have B3 := Lib.hid (B2.out.trans (x3.mono B2.out.size)); have X3 := Lib.hid (X2.out.trans (x3.mono X2.out.size)); clear x3)
     | (go_at_call 85; refine (specRules_any l _ _ (HY.out.below B3.out (Nat.le_refl _)) HOK.out).mono ?_; rintro e w4 ⟨rfl, x4⟩; rw [HRS.out]; have B4 := Lib.hid (B3.out.trans (x4.mono B3.out.size)); have X4 := Lib.hid (X3.out.trans (x4.mono X3.out.size)); clear x4)
     | (go_at_call 129; refine (clear1_any l _ _ (HY.out.below B4.out (Nat.le_refl _)) HOK.out).mono ?_; rintro e w5 ⟨rfl, x5⟩; rw [HCL.out]; have B5 := Lib.hid (B4.out.trans (x5.mono B4.out.size)); have X5 := Lib.hid (X4.out.trans (x5.mono X4.out.size)); have RX5 := Lib.hid ((X5.out.block w.heap.size HSZ.out).trans BX.out); obtain ⟨⟨f0, f1⟩, q0, q1⟩ := row2 RX5.out; clear x5))
   refine bodyPost_ret (results_row_tmp (p := 8) (q := 9) (ty := 76) rfl row76 _ _ w.heap.size 76 #[.slice none 0 0, .slice none 0 0] rfl rfl (Joins.block_setCell (i := 1) (Joins.block_setCell (i := 0) RX5.out _) _)) rfl ?_
   exact ⟨none, 0, 0, none, 0, 0, by rw [HCL.out]; rfl, (fun h => by rw [HCL.out] at h; cases h), (B5.out.setCell (Nat.le_refl _) _).setCell (Nat.le_refl _) _⟩
 · have HCL := Lib.hid hcl
   clear hcl
   go_enter Tryz.func93, Tryz.ntmps93
   go_upto_region 1 with fail
   rw [← HW0.out]
   clear HW0
   go_wp2_with (first
     | (go_at_call 89; refine (specShop_in s _ _ (HS.out.below HB0.out (Nat.le_refl _))).mono ?_; rintro e w1 ⟨rfl, x1⟩; rw [HSV.out]; have B1 := Lib.hid (HB0.out.trans (x1.mono HB0.out.size)); have X1 := Lib.hid x1; clear x1)
     | (go_at_call 90; refine (specCart_in _ _ _ c _ _ (HV.out.below B1.out (Nat.le_refl _)) (by omega)).mono ?_; rintro e w2 ⟨rfl, x2⟩; rw [HLV.out]; have B2 := Lib.hid (B1.out.trans (x2.mono B1.out.size)); have X2 := Lib.hid (X1.out.trans (x2.mono X1.out.size)); clear x2)
     | (go_at_call 128; refine (specCoupons_any cp _ _ (HZ.out.below B2.out (Nat.le_refl _)) HQ.out).mono ?_; rintro e w3 ⟨rfl, x3⟩; have B3 := Lib.hid (B2.out.trans (x3.mono B2.out.size)); have X3 := Lib.hid (X2.out.trans (x3.mono X2.out.size)); clear x3)
     | (go_at_call 85; refine (specRules_any l _ _ (HY.out.below B3.out (Nat.le_refl _)) HOK.out).mono ?_; rintro e w4 ⟨rfl, x4⟩; rw [HRS.out]; have B4 := Lib.hid (B3.out.trans (x4.mono B3.out.size)); have X4 := Lib.hid (X3.out.trans (x4.mono X3.out.size)); clear x4)
     | (go_at_call 129; refine (clear1_any l _ _ (HY.out.below B4.out (Nat.le_refl _)) HOK.out).mono ?_; rintro e w5 ⟨rfl, x5⟩; rw [HCL.out]; have B5 := Lib.hid (B4.out.trans (x5.mono B4.out.size)); have X5 := Lib.hid (X4.out.trans (x5.mono X4.out.size)); have RX5 := Lib.hid ((X5.out.block w.heap.size HSZ.out).trans BX.out); obtain ⟨⟨f0, f1⟩, q0, q1⟩ := row2 RX5.out; clear x5)
     | (go_at_call 130; refine (receipt_any s _ c _ cp _ l _ _ (HS.out.below B5.out (Nat.le_refl _)) (HV.out.below B5.out (Nat.le_refl _)) (HZ.out.below B5.out (Nat.le_refl _)) (HY.out.below B5.out (Nat.le_refl _)) HP.out HRS.out).mono ?_; rintro e w6 ⟨a1, k1, a2, k2, rfl, h1, h2, x6, y1, y2⟩; have H1 := Lib.hid h1; have H2 := Lib.hid h2; have B6 := Lib.hid (B5.out.trans (x6.mono B5.out.size)); have X6 := Lib.hid x6; have RX6 := Lib.hid ((x6.block w.heap.size (Nat.lt_of_lt_of_le HSZ.out X5.out.size)).trans RX5.out); clear q0 q1 f0 f1; obtain ⟨⟨f0, f1⟩, q0, q1⟩ := row2 RX6.out; clear h1 h2 x6))
   refine bodyPost_ret (results_row_tmp (p := 8) (q := 9) (ty := 76) rfl row76 _ _ w.heap.size 76 #[.slice a1 c.length k1, .slice a2 (rcL s c cp (ordL (rls l))).2.length k2] rfl rfl (Joins.block_setCell (i := 1) (Joins.block_setCell (i := 0) RX6.out _) _)) rfl ?_
   have hw5 : w.heap.size < w5.heap.size := Nat.lt_of_lt_of_le HSZ.out X5.out.size
   have o1 : Off w.heap.size (.slice a1 c.length k1) := fun g n m hg => by injection hg with h1; have := y1 g h1; omega
   have o2 : Off w.heap.size (.slice a2 (rcL s c cp (ordL (rls l))).2.length k2) := fun g n m hg => by injection hg with h1; have := y2 g h1; omega
   exact ⟨a1, c.length, k1, a2, _, k2, by rw [HCL.out]; rfl, fun _ => ⟨rfl, rfl, (H1.out.grown (grown_set _ _ 0 _) o1).grown (grown_set _ _ 1 _) o1, (H2.out.grown (grown_set _ _ 0 _) o2).grown (grown_set _ _ 1 _) o2, fun g hg => Nat.le_trans (Nat.le_of_lt hw5) (y2 g hg)⟩, (B6.out.setCell (Nat.le_refl _) _).setCell (Nat.le_refl _) _⟩
set_option maxHeartbeats 4000000 in
set_option maxRecDepth 100000 in
theorem implPay_any (s : List Art) (u : Value) (c : List (Int × Int)) (v : Value) (cp : List Int) (z : Value) (l : List Rx) (y : Value) (w : World) (hs : Rd w 4 u s.length (ar s)) (hv : Rd w 2 v c.length (pr c)) (hz : Rd w 1 z cp.length (it cp)) (hy : RdR w y l) (hp : vCart s c = true) (hq : cpnQ cp = true) (hrs : okRs (rls l) = true) :
   Calls Tryz.prog 39 #[u, v, z, y] w fun e w' => e = .returned (.int .i64 (payV s c cp (rls l))) ∧ Below w.heap.size w w' := by
 have K := Lib.hid (implReceipt_any s u c v cp z l y w hs hv hz hy hp hq hrs)
 have hc8 := (vLines_all (vCart_pr hp).2).2
 have hl := rc_left cp hp hrs
 have HL := Lib.hid hl
 obtain ⟨so, scap, rfl, _⟩ := hs.arts
 obtain ⟨co, ccap, rfl, _⟩ := hv.pairs
 obtain ⟨zo, zcap, rfl, _⟩ := hz.ints
 obtain ⟨yo, ycap, rfl, _⟩ := hy.open
 clear hs hv hz hy hq hrs hl
 cases hcl : clrQ (rls l)
 · have HCL := Lib.hid hcl
   have fin : Hid (payV s c cp (rls l) = -1) := if_neg (by rw [hcl]; simp)
   clear hcl
   go_enter Tryz.func39, Tryz.ntmps39
   go_wp2_with (go_at_call 40; refine K.out.mono ?_; rintro e w1 ⟨a1, n1, k1, a2, n2, k2, rfl, _, x1⟩; rw [HCL.out]; have X1 := Lib.hid (x1.alloc x1.size (.cells #[.slice a1 n1 k1, .slice a2 n2 k2] 76)); clear x1)
   go_ret
   exact ⟨by rw [fin.out] <;> rfl, X1.out⟩
 · have HCL := Lib.hid hcl
   have fin : Hid (payV s c cp (rls l) = sumT (rcL s c cp (ordL (rls l))).1 c.length) := if_pos hcl
   clear hcl
   go_enter Tryz.func39, Tryz.ntmps39
   go_wp2_with (first
     | (go_at_call 40; refine K.out.mono ?_; rintro e w1 ⟨a1, n1, k1, a2, n2, k2, rfl, h1, x1⟩; obtain ⟨rfl, rfl, h2, _⟩ := h1 HCL.out; rw [HCL.out]; have X1 := Lib.hid (x1.alloc x1.size (.cells #[.slice a1 c.length k1, .slice a2 (rcL s c cp (ordL (rls l))).2.length k2] 76)); have L1 := Lib.hid (h2.below ((Below.refl _ w1).alloc (Nat.le_refl _) (.cells #[.slice a1 c.length k1, .slice a2 (rcL s c cp (ordL (rls l))).2.length k2] 76)) (Nat.le_refl _)); clear x1 h1 h2)
     | (go_at_call 69; refine (total_any (rcL s c cp (ordL (rls l))).1 _ _ (by rw [HL.out.1]; exact L1.out) (by rw [HL.out.1]; omega) (by rw [HL.out.1]; exact HL.out.2)).mono ?_; rintro e w9 ⟨rfl, h9⟩; replace h9 := h9.symm; subst h9; rw [HL.out.1]))
   go_ret
   exact ⟨by rw [fin.out] <;> rfl, X1.out⟩
set_option maxHeartbeats 4000000 in
set_option maxRecDepth 100000 in
theorem specPay_any (s : List Art) (u : Value) (c : List (Int × Int)) (v : Value) (cp : List Int) (z : Value) (l : List Rx) (y : Value) (w : World) (hs : Rd w 4 u s.length (ar s)) (hv : Rd w 2 v c.length (pr c)) (hz : Rd w 1 z cp.length (it cp)) (hy : RdR w y l) (hp : vCart s c = true) (hq : cpnQ cp = true) (hrs : okRs (rls l) = true) :
   Calls Tryz.prog 51 #[u, v, z, y] w fun e w' => e = .returned (.int .i64 (payV s c cp (rls l))) ∧ Below w.heap.size w w' := by
 have K := Lib.hid (specReceipt_any s u c v cp z l y w hs hv hz hy hp hq hrs)
 have hc8 := (vLines_all (vCart_pr hp).2).2
 have hl := rc_left cp hp hrs
 have HL := Lib.hid hl
 obtain ⟨so, scap, rfl, _⟩ := hs.arts
 obtain ⟨co, ccap, rfl, _⟩ := hv.pairs
 obtain ⟨zo, zcap, rfl, _⟩ := hz.ints
 obtain ⟨yo, ycap, rfl, _⟩ := hy.open
 clear hs hv hz hy hq hrs hl
 cases hcl : clrQ (rls l)
 · have HCL := Lib.hid hcl
   have fin : Hid (payV s c cp (rls l) = -1) := if_neg (by rw [hcl]; simp)
   clear hcl
   go_enter Tryz.func51, Tryz.ntmps51
   go_wp2_with (go_at_call 93; refine K.out.mono ?_; rintro e w1 ⟨a1, n1, k1, a2, n2, k2, rfl, _, x1⟩; rw [HCL.out]; have X1 := Lib.hid (x1.alloc x1.size (.cells #[.slice a1 n1 k1, .slice a2 n2 k2] 76)); clear x1)
   go_ret
   exact ⟨by rw [fin.out] <;> rfl, X1.out⟩
 · have HCL := Lib.hid hcl
   have fin : Hid (payV s c cp (rls l) = sumT (rcL s c cp (ordL (rls l))).1 c.length) := if_pos hcl
   clear hcl
   go_enter Tryz.func51, Tryz.ntmps51
   go_wp2_with (first
     | (go_at_call 93; refine K.out.mono ?_; rintro e w1 ⟨a1, n1, k1, a2, n2, k2, rfl, h1, x1⟩; obtain ⟨rfl, rfl, h2, _⟩ := h1 HCL.out; rw [HCL.out]; have X1 := Lib.hid (x1.alloc x1.size (.cells #[.slice a1 c.length k1, .slice a2 (rcL s c cp (ordL (rls l))).2.length k2] 76)); have L1 := Lib.hid (h2.below ((Below.refl _ w1).alloc (Nat.le_refl _) (.cells #[.slice a1 c.length k1, .slice a2 (rcL s c cp (ordL (rls l))).2.length k2] 76)) (Nat.le_refl _)); clear x1 h1 h2)
     | (go_at_call 91; refine (ssum_any (rcL s c cp (ordL (rls l))).1 _ _ (by rw [HL.out.1]; exact L1.out) (by rw [HL.out.1]; omega) (by rw [HL.out.1]; exact HL.out.2)).mono ?_; rintro e w9 ⟨rfl, h9⟩; replace h9 := h9.symm; subst h9; rw [HL.out.1]))
   go_ret
   exact ⟨by rw [fin.out] <;> rfl, X1.out⟩
end Go.Proofs.YtijofgaekmahkaaGreatDoor
