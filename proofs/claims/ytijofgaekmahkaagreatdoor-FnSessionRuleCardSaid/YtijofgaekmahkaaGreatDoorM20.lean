/- Joined texts: Walk: the receipt, in the reference. Plain laws: a session goes on as it should, its output grows line by line; no program. Conditions: none. -/
import Derived.Test.YtijofgaekmahkaaGreatDoorM16
import Derived.Test.YtijofgaekmahkaaGreatDoorM19
namespace Go.Proofs.YtijofgaekmahkaaGreatDoor
open Go.RowKit
theorem row76 : RowTy Tryz.prog 76 2 := ⟨by kernel_rfl, by kernel_rfl⟩
theorem grpL_len (s : List Art) (c : List (Int × Int)) : (grpL s c).length = 3 := rfl
set_option maxHeartbeats 16000000 in
set_option maxRecDepth 100000 in
theorem receipt_any (s : List Art) (u : Value) (c : List (Int × Int)) (v : Value) (cp : List Int) (z : Value) (l : List Rx) (y : Value) (w : World) (hs : Rd w 4 u s.length (ar s)) (hv : Rd w 2 v c.length (pr c)) (hz : Rd w 1 z cp.length (it cp)) (hy : RdR w y l) (hp : vCart s c = true) (hrs : okRs (rls l) = true) :
   Calls Tryz.prog 130 #[u, v, z, y] w fun e w' => ∃ (a1 : Option Addr) (k1 : Nat) (a2 : Option Addr) (k2 : Nat), e = .returned (.agg #[.slice a1 c.length k1, .slice a2 (rcL s c cp (ordL (rls l))).2.length k2]) ∧ Rd w' 1 (.slice a1 c.length k1) c.length (it (rcL s c cp (ordL (rls l))).1) ∧ Rd w' 3 (.slice a2 (rcL s c cp (ordL (rls l))).2.length k2) (rcL s c cp (ordL (rls l))).2.length (nts (rcL s c cp (ordL (rls l))).2) ∧ Below w.heap.size w w' ∧ (∀ g, a1 = some g → w.heap.size ≤ g.block) ∧ ∀ g, a2 = some g → w.heap.size ≤ g.block := by
 have HV := Lib.hid hv
 have HS := Lib.hid hs
 have HZ := Lib.hid hz
 have HY := Lib.hid hy
 have HP := Lib.hid hp
 have HRS := Lib.hid hrs
 have hc8 := (vLines_all (vCart_pr hp).2).2
 obtain ⟨so, scap, rfl, _⟩ := hs.arts
 obtain ⟨co, ccap, rfl, _⟩ := hv.pairs
 obtain ⟨zo, zcap, rfl, _⟩ := hz.ints
 obtain ⟨yo, ycap, rfl, _⟩ := hy.open
 have hbd : ∀ j, j < (amK s c c.length).length → 0 ≤ iG (amK s c c.length) j ∧ iG (amK s c c.length) j ≤ 1000000 := fun j hj => by
   rw [amK_len] at hj
   rw [amK_get s c _ j hj]
   have := amt_bd hp hj
   omega
 have hsum : sumT (amK s c c.length) (amK s c c.length).length = totK s c c.length := by
   rw [sumT_am s c c.length _ (Nat.le_of_eq (amK_len s c _)), amK_len]
 have HBD := Lib.hid hbd
 have HSU := Lib.hid hsum
 have b0 : Below w.heap.size w (w.alloc (.cells #[.slice none 0 0, .slice none 0 0] 76)) := (Below.refl _ w).alloc (Nat.le_refl _) _
 have bx := heap_alloc_new w (.cells #[.slice none 0 0, .slice none 0 0] 76)
 have hsz : w.heap.size < (w.alloc (.cells #[.slice none 0 0, .slice none 0 0] 76)).heap.size := by rw [World.size_alloc]; exact Nat.lt_succ_self _
 obtain ⟨W0, hW0⟩ : ∃ W0, W0 = w.alloc (.cells #[.slice none 0 0, .slice none 0 0] 76) := ⟨_, rfl⟩
 rw [← hW0] at b0 bx hsz
 have HW0 := Lib.hid hW0
 have HB0 := Lib.hid b0
 have BX := Lib.hid bx
 have HSZ := Lib.hid hsz
 clear hs hv hz hy hp hrs hbd hsum b0 bx hsz hW0
 go_enter Tryz.func130, Tryz.ntmps130
 go_upto_region 1 with fail
 rw [← HW0.out]
 go_upto_region 3 with (first
   | (go_at_call 92; refine (specAmounts_any s _ c _ _ (HS.out.below HB0.out (Nat.le_refl _)) (HV.out.below HB0.out (Nat.le_refl _)) HP.out).mono ?_; rintro e w1 ⟨o, rfl, h1, x1⟩; have A1 := Lib.hid h1; have H1' : w1.ownsRow W0.heap.size 3 1 o c.length (it (amK s c c.length)) := (by have h9 := h1; rw [amK_len] at h9; exact h9); obtain ⟨lo, lcap, hq, _⟩ := owns_shape H1'; subst hq; have O1 := Lib.hid H1'; have X1 := Lib.hid x1; have B1 := Lib.hid (HB0.out.trans (x1.mono HB0.out.size)); clear h1 x1 H1')
   | (go_at_call 91; refine (ssum_any (amK s c c.length) _ _ (by rw [amK_len]; exact Rd.of_owns O1.out) (by rw [amK_len]; omega) HBD.out).mono ?_; rintro e w9 ⟨rfl, h9⟩; replace h9 := h9.symm; subst h9; rw [HSU.out])
   | (go_at_call 164; refine (specGroups_any s _ c _ _ (HS.out.below B1.out (Nat.le_refl _)) (HV.out.below B1.out (Nat.le_refl _)) HP.out).mono ?_; rintro e w2 ⟨o2, rfl, h2, x2⟩; obtain ⟨g1, k1, hq2, _⟩ := owns_shape h2; subst hq2; have G2 := Lib.hid (Rd.of_owns h2); have O2 := Lib.hid (ownsRow_below O1.out x2 (Nat.le_refl _)); have X2 := Lib.hid (X1.out.trans (x2.mono X1.out.size)); have B2 := Lib.hid (B1.out.trans (x2.mono B1.out.size)); clear h2 x2))
 have pb := heap_alloc_new w2 (.cells #[.int .i64 (totK s c c.length), .slice g1 3 k1, .slice zo cp.length zcap] 110)
 have d3 : Below w2.heap.size w2 (w2.alloc (.cells #[.int .i64 (totK s c c.length), .slice g1 3 k1, .slice zo cp.length zcap] 110)) := (Below.refl _ w2).alloc (Nat.le_refl _) _
 obtain ⟨W3, hW3⟩ : ∃ W3, W3 = w2.alloc (.cells #[.int .i64 (totK s c c.length), .slice g1 3 k1, .slice zo cp.length zcap] 110) := ⟨_, rfl⟩
 rw [← hW3] at pb d3 ⊢
 have d4 : Below W3.heap.size W3 (W3.alloc (.cells #[] 80)) := (Below.refl _ W3).alloc (Nat.le_refl _) _
 have D3 := Lib.hid d3
 have D4 := Lib.hid (d3.trans (d4.mono d3.size))
 have D4' := Lib.hid d4
 have PB3 := Lib.hid pb
 have B4 := Lib.hid (B2.out.trans (D4.out.mono B2.out.size))
 clear pb d3 d4 hW3
 go_wp2_with (go_at_call 165; refine (inOrder_any l _ _ (HY.out.below B4.out (Nat.le_refl _)) HRS.out).mono ?_; rintro e w5 ⟨o5, L, rfl, hL, hPm, hR, x5⟩; have D5 := Lib.hid (D4.out.trans (x5.mono D4.out.size)); have D5' := Lib.hid (D4'.out.trans (x5.mono D4'.out.size)); have HL := Lib.hid hL; have HPM := Lib.hid hPm; have HR5 := Lib.hid hR; have B5 := Lib.hid (B4.out.trans (x5.mono B4.out.size)); clear hL hPm hR x5; obtain ⟨oo, ocap, hoo, _, _, hcells⟩ := HR5.out.open; subst hoo; have HCE := Lib.hid hcells; clear hcells)
 have O5 := Lib.hid (ownsRow_below O2.out D5.out (Nat.le_refl _))
 have hrok : ∀ r ∈ rls L, okRu r = true := by rw [HL.out]; exact (ordL_ok HRS.out).1
 have hL6 : L.length ≤ 6 := by have h := (ordL_ok HRS.out).2; rw [← HL.out, rls_len] at h; exact h
 have HRO := Lib.hid hrok
 have PBX := Lib.hid (((D5'.out).block w2.heap.size (Array.getElem?_eq_some_iff.1 PB3.out).1).trans PB3.out)
 clear hrok
 go_loopw [9, 11, 13] (fun o9 o11 i_ wr => ∃ k : Nat, k ≤ L.length ∧ i_ = .int .i64 k ∧ Hid (wr.ownsRow W0.heap.size 3 1 o9 c.length (it (rcK s c cp (rls L) k).1)) ∧ Hid (NtR w5.heap.size wr W3.heap.size o11 (rcK s c cp (rls L) k).2) ∧ Below w5.heap.size w5 wr ∧ Hid (wr.heap[w2.heap.size]? = some (.cells #[.int .i64 (totK s c c.length), .slice g1 3 k1, .slice zo cp.length zcap] 110 (0, 0)))) (fun _ _ i_ _ => L.length - (intOf i_).toNat)
 case atStart => exact ⟨0, Nat.zero_le _, rfl, O5, .inl ⟨rfl, rfl⟩, Below.refl _ _, PBX.out⟩
 case round =>
   obtain ⟨k, hk, rfl, O9, N9, hbl, PT⟩ := hrel
   obtain ⟨lo2, lcap2, hq9, _⟩ := owns_shape O9.out
   subst hq9
   obtain ⟨no, ncap, hqn⟩ := N9.out.shape
   subst hqn
   have hrc := rcK_ok (cp := cp) HP.out HRO.out k (by rw [rls_len]; exact hk)
   have HRC := Lib.hid hrc
   clear hrc
   have hw5 := B5.out.trans (hbl.mono B5.out.size)
   have HW5 := Lib.hid hw5
   by_cases hlt : k < L.length
   · obtain ⟨b, off, rfl, hb, hcell⟩ := HCE.out (by omega)
     have fk := hcell k hlt
     have hpx := HR5.out.2 _ (xT_mem hlt)
     have hkx := HRO.out _ (List.mem_map.2 ⟨_, xT_mem hlt, rfl⟩)
     obtain ⟨po, pcap, hpe, _⟩ := hpx.pairs
     have he1 : rcK s c cp (rls L) (k + 1) = rcS s c cp (rcK s c cp (rls L) k) (xT L k).r := by rw [rcK, rls_at]
     obtain ⟨x, hxe⟩ : ∃ x, x = (xT L k).r := ⟨_, rfl⟩
     rw [← hxe] at fk hpx hkx hpe he1
     rw [hpe] at fk hpx
     have E1 := Lib.hid he1
     have KX := Lib.hid hkx
     have HPX := Lib.hid (hpx.below hbl (Nat.le_refl _))
     have hbw : b < wr.heap.size := Nat.lt_of_lt_of_le hb hbl.size
     have hpw : w2.heap.size < wr.heap.size := (Array.getElem?_eq_some_iff.1 PT.out).1
     obtain ⟨⟨p0, p1, p2⟩, _⟩ := row3z PT.out
     have c0 := (hbl.cell (p := ⟨b, off + k*11, none⟩) hb).trans (fk 0 _ rfl)
     have c1 := (hbl.cell (p := ⟨b, off + k*11+1, none⟩) hb).trans (fk 1 _ rfl)
     have c2 := (hbl.cell (p := ⟨b, off + k*11+2, none⟩) hb).trans (fk 2 _ rfl)
     have c3 := (hbl.cell (p := ⟨b, off + k*11+3, none⟩) hb).trans (fk 3 _ rfl)
     have c4 := (hbl.cell (p := ⟨b, off + k*11+4, none⟩) hb).trans (fk 4 _ rfl)
     have c5 := (hbl.cell (p := ⟨b, off + k*11+5, none⟩) hb).trans (fk 5 _ rfl)
     have c6 := (hbl.cell (p := ⟨b, off + k*11+6, none⟩) hb).trans (fk 6 _ rfl)
     have c7 := (hbl.cell (p := ⟨b, off + k*11+7, none⟩) hb).trans (fk 7 _ rfl)
     have c8 := (hbl.cell (p := ⟨b, off + k*11+8, none⟩) hb).trans (fk 8 _ rfl)
     have c9 := (hbl.cell (p := ⟨b, off + k*11+9, none⟩) hb).trans (fk 9 _ rfl)
     have c10 := (hbl.cell (p := ⟨b, off + k*11+10, none⟩) hb).trans (fk 10 _ rfl)
     have hk0 : (0 : Int) ≤ (k : Int) := by omega
     have hk1 : (k : Int) < (L.length : Int) := by omega
     have KP := Lib.hid (show ∀ w' : World, Below wr.heap.size wr w' → w'.cell? ⟨b, off + k*11+7, none⟩ = some (.int .i64 x.lo) ∧ w'.cell? ⟨b, off + k*11+8, none⟩ = some (.int .i64 x.hi) ∧ w'.cell? ⟨b, off + k*11+9, none⟩ = some (.slice po x.counts.length pcap) ∧ w'.cell? ⟨b, off + k*11+10, none⟩ = some (.int .i64 x.coupon) ∧ w'.cell? ⟨w2.heap.size, 0, none⟩ = some (.int .i64 (totK s c c.length)) ∧ w'.cell? ⟨w2.heap.size, 1, none⟩ = some (.slice g1 3 k1) ∧ w'.cell? ⟨w2.heap.size, 2, none⟩ = some (.slice zo cp.length zcap) ∧ Below wr.heap.size wr w' from fun w' h => ⟨(h.cell (p := ⟨b, off + k*11+7, none⟩) hbw).trans c7, (h.cell (p := ⟨b, off + k*11+8, none⟩) hbw).trans c8, (h.cell (p := ⟨b, off + k*11+9, none⟩) hbw).trans c9, (h.cell (p := ⟨b, off + k*11+10, none⟩) hbw).trans c10, (h.cell (p := ⟨w2.heap.size, 0, none⟩) hpw).trans p0, (h.cell (p := ⟨w2.heap.size, 1, none⟩) hpw).trans p1, (h.cell (p := ⟨w2.heap.size, 2, none⟩) hpw).trans p2, h⟩)
     have b9 : Below wr.heap.size wr wr.drew := (Below.refl _ wr).drew
     have B9 := Lib.hid b9
     have G0 := Lib.hid (specHolds_any x _ (totK s c c.length) (grpL s c) cp (.slice g1 3 k1) (.slice zo cp.length zcap) wr.drew (HPX.out.below b9 (Nat.le_refl _)) ((G2.out.below (D5.out.trans (hbl.mono D5.out.size)) (Nat.le_refl _)).below b9 (Nat.le_refl _)) (HZ.out.below (hw5.trans (b9.mono hw5.size)) (Nat.le_refl _)) (okRu_gd hkx) (grpL_len s c))
     unfold gdV at G0
     clear hcell fk hpx hkx hpe he1 hxe b9 hw5
     go_upto_region 8 with fail
     go_cut [40] from 34 to 40 (fun f_ wx => f_ = .bool (hldQ x (totK s c c.length) (grpL s c) cp) ∧ Below wr.heap.size wr wx)
     case first =>
       go_region_held3 (fun w' => w'.cell? ⟨b, off + k*11+7, none⟩ = some (.int .i64 x.lo) ∧ w'.cell? ⟨b, off + k*11+8, none⟩ = some (.int .i64 x.hi) ∧ w'.cell? ⟨b, off + k*11+9, none⟩ = some (.slice po x.counts.length pcap) ∧ w'.cell? ⟨b, off + k*11+10, none⟩ = some (.int .i64 x.coupon) ∧ w'.cell? ⟨w2.heap.size, 0, none⟩ = some (.int .i64 (totK s c c.length)) ∧ w'.cell? ⟨w2.heap.size, 1, none⟩ = some (.slice g1 3 k1) ∧ w'.cell? ⟨w2.heap.size, 2, none⟩ = some (.slice zo cp.length zcap) ∧ Below wr.heap.size wr w')
         (first
           | assumption
           | exact KP.out _ B9.out
           | exact KP.out _ y9)
         ((go_at_call 166; (with_reducible refine G0.out.mono ?_); rintro e w9 ⟨rfl, x9⟩; have y9 : Below wr.heap.size wr w9 := B9.out.trans (x9.mono B9.out.size)))
       all_goals go_wp2
       all_goals go_meet
       all_goals exact ⟨rfl, y9⟩
     case rest =>
       obtain ⟨rfl, bc⟩ := hcut
       have d0 := (bc.cell (p := ⟨b, off + k*11, none⟩) hbw).trans c0
       have d1 := (bc.cell (p := ⟨b, off + k*11+1, none⟩) hbw).trans c1
       have d2 := (bc.cell (p := ⟨b, off + k*11+2, none⟩) hbw).trans c2
       have d3 := (bc.cell (p := ⟨b, off + k*11+3, none⟩) hbw).trans c3
       have d4 := (bc.cell (p := ⟨b, off + k*11+4, none⟩) hbw).trans c4
       have d5 := (bc.cell (p := ⟨b, off + k*11+5, none⟩) hbw).trans c5
       have d6 := (bc.cell (p := ⟨b, off + k*11+6, none⟩) hbw).trans c6
       have d7 := (bc.cell (p := ⟨b, off + k*11+7, none⟩) hbw).trans c7
       have d8 := (bc.cell (p := ⟨b, off + k*11+8, none⟩) hbw).trans c8
       have d9 := (bc.cell (p := ⟨b, off + k*11+9, none⟩) hbw).trans c9
       have d10 := (bc.cell (p := ⟨b, off + k*11+10, none⟩) hbw).trans c10
       have hb5 := hbl.trans (bc.mono hbl.size)
       have HB5 := Lib.hid hb5
       have HWC := Lib.hid (HW5.out.trans (bc.mono HW5.out.size))
       have OC := Lib.hid (ownsRow_below O9.out bc (Nat.le_refl _))
       have NC := Lib.hid (N9.out.below bc (Nat.le_refl _))
       have PX := Lib.hid (HPX.out.below bc (Nat.le_refl _))
       have PTC : Hid (wc.heap[w2.heap.size]? = some (.cells #[.int .i64 (totK s c c.length), .slice g1 3 k1, .slice zo cp.length zcap] 110 (0, 0))) := (bc.block _ hpw).trans PT.out
       have hbwc : b < wc.heap.size := Nat.lt_of_lt_of_le hbw bc.size
       have KD := Lib.hid (show ∀ w' : World, Below wc.heap.size wc w' → w'.cell? ⟨b, off + k*11, none⟩ = some (.int .i64 x.num) ∧ w'.cell? ⟨b, off + k*11+1, none⟩ = some (.int .i64 x.lvl) ∧ w'.cell? ⟨b, off + k*11+2, none⟩ = some (.int .i64 x.rank) ∧ w'.cell? ⟨b, off + k*11+3, none⟩ = some (.int .i64 x.group) ∧ w'.cell? ⟨b, off + k*11+4, none⟩ = some (.int .i64 x.kind) ∧ w'.cell? ⟨b, off + k*11+5, none⟩ = some (.int .i64 x.value) ∧ w'.cell? ⟨b, off + k*11+6, none⟩ = some (.int .i64 x.cap) ∧ w'.cell? ⟨b, off + k*11+7, none⟩ = some (.int .i64 x.lo) ∧ w'.cell? ⟨b, off + k*11+8, none⟩ = some (.int .i64 x.hi) ∧ w'.cell? ⟨b, off + k*11+9, none⟩ = some (.slice po x.counts.length pcap) ∧ w'.cell? ⟨b, off + k*11+10, none⟩ = some (.int .i64 x.coupon) from fun w' h => ⟨(h.cell (p := ⟨b, off + k*11, none⟩) hbwc).trans d0, (h.cell (p := ⟨b, off + k*11+1, none⟩) hbwc).trans d1, (h.cell (p := ⟨b, off + k*11+2, none⟩) hbwc).trans d2, (h.cell (p := ⟨b, off + k*11+3, none⟩) hbwc).trans d3, (h.cell (p := ⟨b, off + k*11+4, none⟩) hbwc).trans d4, (h.cell (p := ⟨b, off + k*11+5, none⟩) hbwc).trans d5, (h.cell (p := ⟨b, off + k*11+6, none⟩) hbwc).trans d6, (h.cell (p := ⟨b, off + k*11+7, none⟩) hbwc).trans d7, (h.cell (p := ⟨b, off + k*11+8, none⟩) hbwc).trans d8, (h.cell (p := ⟨b, off + k*11+9, none⟩) hbwc).trans d9, (h.cell (p := ⟨b, off + k*11+10, none⟩) hbwc).trans d10⟩)
       clear bc hb5 c0 c1 c2 c3 c4 c5 c6 c7 c8 c9 c10 p0 p1 p2
       cases hh : hldQ x (totK s c c.length) (grpL s c) cp
       · have e2 := Lib.hid (E1.out.trans (rcS_no hh))
         clear hh
         go_wp2
         go_roundw
         case rel => exact ⟨k + 1, by omega, by go_num, by rw [e2.out]; exact OC, by rw [e2.out]; exact NC, HB5.out, PTC⟩
         case measure => simp [intOf]; omega
       · have e2 := Lib.hid (E1.out.trans (rcS_yes hh))
         obtain ⟨st, hst⟩ : ∃ st, st = rcK s c cp (rls L) k := ⟨_, rfl⟩
         rw [← hst] at OC NC e2 HRC ⊢
         have hef := effL_bd (s := s) (left := st.1) KX.out HP.out (fun j hj => (HRC.out.left.2 j hj).1)
         obtain ⟨off2, hoff⟩ : ∃ off2, off2 = effL s x c st.1 := ⟨_, rfl⟩
         rw [← hoff] at hef e2
         have HEF := Lib.hid hef
         have HOF := Lib.hid hoff
         have HLB : Hid (∀ j, j < st.1.length → 0 ≤ iG off2 j ∧ iG off2 j ≤ iG st.1 j ∧ iG st.1 j ≤ 1000000) := fun j hj => by
           rw [HRC.out.left.1] at hj
           have h1 := HEF.out.2 j hj
           have h2 := HRC.out.left.2 j hj
           have h3 := amt_bd HP.out hj
           omega
         have hnl := HRC.out.len
         have hnt := ntK_len x off2 off2.length
         have HNT : Hid (st.2.length + (ntsL x off2).length ≤ 1000000) := by have h9 := hef.1; unfold Hid ntsL; omega
         clear hh hst hef hoff hnl hnt
         go_wp2_with (first
           | (go_at_call 167; refine (effect_any s _ c _ x _ st.1 _ _ (HS.out.below HWC.out (Nat.le_refl _)) (HV.out.below HWC.out (Nat.le_refl _)) PX.out (by rw [HRC.out.left.1]; exact Rd.of_owns OC.out) HP.out KX.out HRC.out.left).mono ?_; rintro e w6 ⟨o6, rfl, h6, x6⟩; rw [← HOF.out] at h6; obtain ⟨eo, ecap, hq6, _⟩ := owns_shape h6; subst hq6; have R6 : Hid (Rd w6 1 (.slice eo c.length ecap) off2.length (it off2)) := (by rw [Hid, HEF.out.1]; exact Rd.of_owns h6); have X6 := Lib.hid x6; clear h6 x6)
           | (go_at_call 168; refine (less_any st.1 off2 _ _ _ (by rw [HRC.out.left.1]; exact (Rd.of_owns OC.out).below X6.out (Nat.le_refl _)) R6.out (by rw [HEF.out.1, HRC.out.left.1]) (by rw [HRC.out.left.1]; exact hc8) HLB.out).mono ?_; rintro e w7 ⟨o7, rfl, h7, x7⟩; rw [HRC.out.left.1] at h7; obtain ⟨l7, lc7, hq7, _⟩ := owns_shape h7; subst hq7; have X7 := Lib.hid (X6.out.trans (x7.mono X6.out.size)); have O7 := Lib.hid (owns_base h7 (Nat.le_trans (Nat.le_trans X2.out.size (Nat.le_trans D5.out.size HB5.out.size)) X6.out.size)); have R7 := Lib.hid (R6.out.below x7 (Nat.le_refl _)); obtain ⟨m0, m1, m2, m3, m4, m5, m6, m7, m8, m9, m10⟩ := KD.out _ X7.out; have m11 : b < w7.heap.size := Nat.lt_of_lt_of_le hbwc X7.out.size; clear h7 x7)
           | (go_at_call 169; refine (notesOf_any x _ _ _ off2 _ _ R7.out (by rw [HEF.out.1]; exact hc8)).mono ?_; rintro e w8 ⟨o8, rfl, h8, x8⟩; obtain ⟨n8, nc8, hq8, _⟩ := owns_shape h8; subst hq8; have X8 := Lib.hid (X7.out.trans (x8.mono X7.out.size)); have O8 := Lib.hid (ownsRow_below O7.out x8 (Nat.le_refl _)); have R8 := Lib.hid (Rd.of_owns h8); clear h8 x8)
           | (at_builtin; refine wp_nt rfl (.tmp 52) (.tmp 58) rfl w5.heap.size W3.heap.size _ _ st.2 (ntsL x off2) rfl rfl (NC.out.below X8.out (Nat.le_refl _)) (Nat.le_trans HB5.out.size X8.out.size) R8.out HNT.out ?_; intro v9 W9 n9 y9 k9; obtain ⟨n10, nc10, hq10⟩ := n9.shape; subst hq10; have N10 := Lib.hid n9; have O10 := Lib.hid (k9 _ _ _ _ _ _ (by decide) O8.out); have B10 := Lib.hid ((HB5.out.trans (X8.out.mono HB5.out.size)).trans y9); clear n9 y9 k9))
         go_roundw
         case rel => exact ⟨k + 1, by omega, by go_num, by rw [e2.out]; exact O10, by rw [e2.out]; have h9 := N10.out; rw [List.length_append] at h9; exact h9, B10.out, (B10.out.block _ (Array.getElem?_eq_some_iff.1 PBX.out).1).trans PBX.out⟩
         case measure => simp [intOf]; omega
   · have hk9 : k = L.length := by omega
     have hle : decide ((k : Int) < (L.length : Int)) = false := by simp; omega
     have hx0 := X2.out.trans ((D5.out.trans (hbl.mono D5.out.size)).mono X2.out.size)
     have bx9 := (hx0.block w.heap.size HSZ.out).trans BX.out
     have fr : Hid (rcK s c cp (rls L) k = rcL s c cp (ordL (rls l))) := by rw [Hid, rcL, ← HL.out, rls_len, hk9]
     rw [fr.out] at O9 N9
     obtain ⟨⟨f0, f1⟩, q0, q1⟩ := row2 bx9
     have BX9 := Lib.hid bx9
     have hlt5 : w.heap.size < w5.heap.size := Nat.lt_of_lt_of_le HSZ.out (Nat.le_trans X2.out.size D5.out.size)
     have H5' := Lib.hid hlt5
     rw [fr.out]
     clear hk9 bx9 hx0 hlt5
     go_wp2
     refine bodyPost_ret (results_row (p := 8) (ty := 76) rfl row76 _ _ w.heap.size 76 #[.slice lo2 c.length lcap2, .slice no (rcL s c cp (ordL (rls l))).2.length ncap] rfl rfl (Joins.block_setCell (i := 1) (Joins.block_setCell (i := 0) BX9.out _) _)) rfl ?_
     have n1 : ∀ j, (Value.slice lo2 c.length lcap2).ownBlock = some j → j ≠ w.heap.size := fun j hj => by have h1 := (O9.out.lt j hj).1; have h2 := HSZ.out; omega
     have hw53 : w.heap.size ≤ W3.heap.size := by have h1 := HSZ.out; have h2 := X2.out.size; have h3 := D3.out.size; omega
     have nb1 : ∀ g, lo2 = some g → w.heap.size ≤ g.block := fun g hg => by
       subst hg
       have h1 := slice_base O9.out _ _ _ rfl
       have h2 := HSZ.out
       omega
     have nb2 : ∀ g, no = some g → w.heap.size ≤ g.block := fun g hg => by
       subst hg
       rcases N9.out with ⟨h1, _⟩ | h
       · injection h1 with h1
         obtain rfl := Option.some.inj h1
         exact hw53
       · have h1 := slice_base h _ _ _ rfl
         have h2 := H5'.out
         omega
     refine ⟨lo2, lcap2, no, ncap, rfl, Rd.of_owns (owns_off (owns_off O9.out n1 _) n1 _), ?_, (HW5.out.setCell (Nat.le_refl _) _).setCell (Nat.le_refl _) _, nb1, nb2⟩
     rcases N9.out with ⟨h1, h2⟩ | h
     · rw [h1, h2]
       exact ⟨rfl, _, 0, rfl, Nat.le_refl _, Nat.zero_le _, fun h => absurd h (Nat.lt_irrefl _)⟩
     · have n2 : ∀ j, (Value.slice no (rcL s c cp (ordL (rls l))).2.length ncap).ownBlock = some j → j ≠ w.heap.size := fun j hj => by have h1 := (h.lt j hj).1; have h2 := H5'.out; omega
       exact Rd.of_owns (owns_off (owns_off h n2 _) n2 _)
end Go.Proofs.YtijofgaekmahkaaGreatDoor

namespace Go.Proofs.YtijofgaekmahkaaGreatDoor
open Go.RowKit
theorem vLines_iff {n : Int} {l : List (Int × Int)} : vLines n l = true ↔ (∀ x ∈ l, 0 ≤ x.1 ∧ x.1 < n ∧ 1 ≤ x.2 ∧ x.2 ≤ 20) ∧ (l.map Prod.fst).Pairwise (· < ·) ∧ l.length ≤ 8 := by
 have pe : ∀ {k : Nat} (h : k < l.length), pA l k = l[k].1 ∧ pB l k = l[k].2 := fun h => by simp [pA, pB, List.getD, h]
 constructor
 · intro h
   have ha := vLines_all h
   refine ⟨fun x hx => ?_, ?_, ha.2⟩
   · obtain ⟨k, hk, rfl⟩ := List.getElem_of_mem hx
     have := lnOk_pr (ha.1 k hk)
     rw [(pe hk).1, (pe hk).2] at this
     exact ⟨this.1, this.2.1, this.2.2.1, this.2.2.2.1⟩
   · rw [List.pairwise_iff_getElem]
     intro i j hi hj hij
     rw [List.length_map] at hi hj
     have := ln_asc h j hj i hij
     rw [(pe hi).1, (pe hj).1] at this
     simpa using this
 · rintro ⟨h1, h2, h3⟩
   refine vLines_mk (fun k hk => ?_) h3
   have hx := h1 _ (List.getElem_mem hk)
   refine lnOk_mk (by rw [(pe hk).1]; omega) (by rw [(pe hk).2]; omega) ?_
   by_cases e : k = 0
   · exact .inl e
   · right
     rw [List.pairwise_iff_getElem] at h2
     have hk1 : k - 1 < l.length := by omega
     have := h2 (k - 1) k (by rw [List.length_map]; omega) (by rw [List.length_map]; exact hk) (by omega)
     rw [(pe hk).1, (pe hk1).1]
     simpa using this
theorem takeL_cons (p : Int × Int) (l : List (Int × Int)) (a n : Int) : takeL (p :: l) a n = (if p.1 = a then (if n < p.2 then [(a, p.2 - n)] else []) else [p]) ++ takeL l a n := by simp [takeL]
theorem takeL_sub (a n : Int) : ∀ l : List (Int × Int), ((takeL l a n).map Prod.fst).Sublist (l.map Prod.fst)
 | [] => by simp [takeL]
 | p :: l => by
   have ih := takeL_sub a n l
   rw [takeL_cons, List.map_append, List.map_cons]
   split
   · rename_i e
     split
     · show (a :: (takeL l a n).map Prod.fst).Sublist (p.1 :: l.map Prod.fst)
       rw [e]
       exact ih.cons_cons a
     · exact ih.cons p.1
   · exact ih.cons_cons p.1
theorem takeL_ok {s : List Art} {c : List (Int × Int)} {a n : Int} (h : takeOk s c a n = true) : vCart s (takeL c a n) = true := by
 unfold takeOk at h
 simp only [Bool.and_eq_true, decide_eq_true_eq] at h
 obtain ⟨⟨hc, hn⟩, _, _⟩ := h
 obtain ⟨h1, h2, h3⟩ := vLines_iff.1 (vCart_pr hc).2
 refine vCart_y (vCart_pr hc).1 (vLines_iff.2 ⟨fun x hx => ?_, h2.sublist (takeL_sub a n c), ?_⟩)
 · unfold takeL at hx
   rw [List.mem_flatMap] at hx
   obtain ⟨p, hp, hx⟩ := hx
   have := h1 p hp
   split at hx
   · split at hx
     · rw [List.mem_singleton] at hx
       subst hx
       simp only
       omega
     · cases hx
   · rw [List.mem_singleton] at hx
     subst hx
     exact this
 · have := (takeL_sub a n c).length_le
   rw [List.length_map, List.length_map] at this
   omega
theorem take_add {c : List (Int × Int)} (a : Int) {n : Int} (h1 : ∀ x ∈ c, 1 ≤ x.2) (h2 : (c.map Prod.fst).Pairwise (· < ·)) : takeL (addL c a n) a n = c := by
 have tapp : ∀ x y : List (Int × Int), takeL (x ++ y) a n = takeL x a n ++ takeL y a n := fun x y => by simp [takeL]
 have tne : ∀ x : List (Int × Int), (∀ p ∈ x, p.1 ≠ a) → takeL x a n = x := by
   intro x
   induction x with
   | nil => intro _; rfl
   | cons p t ih =>
     intro h
     rw [takeL_cons, if_neg (h p (by simp)), ih (fun q hq => h q (by simp [hq]))]
     rfl
 have tl' : takeL (ltL c a) a n = ltL c a := tne _ fun p hp => by
   unfold ltL at hp
   have := (List.mem_filter.1 hp).2
   simp only [decide_eq_true_eq] at this
   omega
 have tg : takeL (gtL c a) a n = gtL c a := tne _ fun p hp => by
   unfold gtL at hp
   have := (List.mem_filter.1 hp).2
   simp only [decide_eq_true_eq] at this
   omega
 have tm : takeL [(a, n + eqN c a)] a n = if 0 < eqN c a then [(a, eqN c a)] else [] := by
   rw [takeL_cons, if_pos rfl]
   simp only
   by_cases h : 0 < eqN c a
   · rw [if_pos h, if_pos (by omega), show n + eqN c a - n = eqN c a by omega]; rfl
   · rw [if_neg h, if_neg (by omega)]; rfl
 unfold addL
 rw [tapp, tapp, tl', tg, tm]
 clear tl' tg tm tne tapp
 induction c with
 | nil => simp [ltL, gtL, eqN]
 | cons p t ih =>
   have ih := ih (fun x hx => h1 x (by simp [hx])) (by rw [List.map_cons] at h2; exact h2.of_cons)
   have hp := h1 p (by simp)
   rw [List.map_cons, List.pairwise_cons] at h2
   have hlt : ∀ q ∈ t, p.1 < q.1 := fun q hq => h2.1 q.1 (List.mem_map.2 ⟨q, hq, rfl⟩)
   by_cases e1 : p.1 < a
   · have a1 : ltL (p :: t) a = p :: ltL t a := by unfold ltL; rw [List.filter_cons_of_pos (by simpa using e1)]
     have a2 : gtL (p :: t) a = gtL t a := by unfold gtL; rw [List.filter_cons_of_neg (by simp; omega)]
     have a3 : eqN (p :: t) a = eqN t a := by unfold eqN; rw [List.filter_cons_of_neg (by simp; omega)]
     rw [a1, a2, a3, List.cons_append, List.cons_append, ih]
   · have b1 : ltL t a = [] := by
       unfold ltL
       rw [List.filter_eq_nil_iff]
       intro q hq
       have := hlt q hq
       simp; omega
     have b3 : eqN t a = 0 := by
       unfold eqN
       have : (t.filter fun p => decide (p.1 = a)) = [] := by
         rw [List.filter_eq_nil_iff]
         intro q hq
         have := hlt q hq
         simp; omega
       rw [this]; rfl
     by_cases e2 : p.1 = a
     · have a1 : ltL (p :: t) a = ltL t a := by unfold ltL; rw [List.filter_cons_of_neg (by simp; omega)]
       have a2 : gtL (p :: t) a = gtL t a := by unfold gtL; rw [List.filter_cons_of_neg (by simp; omega)]
       have a3 : eqN (p :: t) a = p.2 + eqN t a := by unfold eqN; rw [List.filter_cons_of_pos (by simpa using e2), List.map_cons, List.sum_cons]
       rw [b1, b3] at ih
       simp only [Int.lt_irrefl, if_false, List.nil_append] at ih
       rw [a1, a2, a3, b1, b3, Int.add_zero, if_pos (by omega), List.nil_append, ih]
       show (a, p.2) :: t = p :: t
       rw [← e2]
     · have a1 : ltL (p :: t) a = ltL t a := by unfold ltL; rw [List.filter_cons_of_neg (by simp; omega)]
       have a2 : gtL (p :: t) a = p :: gtL t a := by unfold gtL; rw [List.filter_cons_of_pos (by simp; omega)]
       have a3 : eqN (p :: t) a = eqN t a := by unfold eqN; rw [List.filter_cons_of_neg (by simp; omega)]
       rw [b1, b3] at ih
       simp only [Int.lt_irrefl, if_false, List.nil_append] at ih
       rw [a1, a2, a3, b1, b3]
       simp only [Int.lt_irrefl, if_false, List.nil_append]
       rw [ih]
theorem stepC_ok {S : Se} (h : SeOk S) (C : Cmd) : SeOk (stepC S C).1 := by
 cases C with
 | add a n =>
   rw [stepC_add]
   by_cases e : addOk shopS S.c a n = true
   · rw [if_pos e]; exact ⟨(addOk_pr e).2.2.2.2.2, h.cp, h.rs⟩
   · rw [if_neg e]; exact h
 | take a n =>
   rw [stepC_take]
   by_cases e : takeOk shopS S.c a n = true
   · rw [if_pos e]; exact ⟨takeL_ok e, h.cp, h.rs⟩
   · rw [if_neg e]; exact h
 | rule T =>
   cases hp : parseT T with
   | none => rw [stepC_none hp]; exact h
   | some r =>
     rw [stepC_some hp]
     by_cases e : okRs (S.rs ++ [r]) = true
     · rw [if_pos e]; exact ⟨h.c, h.cp, e⟩
     · rw [if_neg e]; exact h
 | coupon n =>
   rw [stepC_coupon]
   by_cases e : cpY S.cp n = true
   · rw [if_pos e]
     simp only [cpY, Bool.and_eq_true, Bool.not_eq_true', decide_eq_false_iff_not, wi_true] at e
     have h3 := (cpnQ_pr h.cp).2
     have := cpL_count h.cp e.1.1 e.1.2
     exact ⟨h.c, cpL_ok (by omega), h.rs⟩
   · rw [if_neg e]; exact h
 | total => exact h
 | pay => exact h
 | notes => exact h
 | conf => exact h
 | what => exact h
theorem SeOk.start : SeOk ⟨[], [], []⟩ := ⟨by decide, by decide, by decide⟩
theorem runK_ok (ls : List (List UInt8)) : ∀ k, SeOk (runK ls k).1
 | 0 => SeOk.start
 | k + 1 => stepC_ok (runK_ok ls k) _
theorem runK_app (ls m : List (List UInt8)) : ∀ k, k ≤ ls.length → runK (ls ++ m) k = runK ls k
 | 0, _ => rfl
 | k + 1, hk => by
   have e : (ls ++ m).getD k [] = ls.getD k [] := by rw [List.getD_eq_getElem?_getD, List.getElem?_append_left (by omega), ← List.getD_eq_getElem?_getD]
   show ((stepS (runK (ls ++ m) k).1 ((ls ++ m).getD k [])).1, (runK (ls ++ m) k).2 ++ ((stepS (runK (ls ++ m) k).1 ((ls ++ m).getD k [])).2 ++ [10])) = _
   rw [runK_app ls m k (by omega), e]
   rfl
theorem runK_grow (ls : List (List UInt8)) (k : Nat) : ∀ n, ∃ t, (runK ls (k + n)).2 = (runK ls k).2 ++ t
 | 0 => ⟨[], by simp⟩
 | n + 1 => by
   obtain ⟨t, ht⟩ := runK_grow ls k n
   refine ⟨t ++ ((stepS (runK ls (k + n)).1 (ls.getD (k + n) [])).2 ++ [10]), ?_⟩
   show (runK ls (k + n)).2 ++ ((stepS (runK ls (k + n)).1 (ls.getD (k + n) [])).2 ++ [10]) = _
   rw [ht, List.append_assoc]
theorem runS_take (ls : List (List UInt8)) (n : Nat) (hn : n ≤ ls.length) : ∃ t, runS ls = runS (ls.take n) ++ t := by
 have hl : (ls.take n).length = n := by rw [List.length_take]; omega
 have e : runK (ls.take n) (min n 20) = runK ls (min n 20) := by
   have := runK_app (ls.take n) (ls.drop n) (min n 20) (by omega)
   rw [List.take_append_drop] at this
   exact this.symm
 unfold runS
 rw [hl, e]
 obtain ⟨t, ht⟩ := runK_grow ls (min n 20) (min ls.length 20 - min n 20)
 rw [show min n 20 + (min ls.length 20 - min n 20) = min ls.length 20 by omega] at ht
 exact ⟨t, ht⟩
noncomputable def stS (ls : List (List UInt8)) : Se := (runK ls ls.length).1
theorem run_snoc (ls : List (List UInt8)) (x : List UInt8) (h : ls.length < 20) : stS (ls ++ [x]) = (stepS (stS ls) x).1 ∧ runS (ls ++ [x]) = runS ls ++ ((stepS (stS ls) x).2 ++ [10]) := by
 have e : (ls ++ [x]).getD ls.length [] = x := by rw [List.getD_eq_getElem?_getD, List.getElem?_append_right (Nat.le_refl _)]; simp
 have hl : (ls ++ [x]).length = ls.length + 1 := by simp
 have k1 : runK (ls ++ [x]) (ls.length + 1) = ((stepS (runK ls ls.length).1 x).1, (runK ls ls.length).2 ++ ((stepS (runK ls ls.length).1 x).2 ++ [10])) := by
   show ((stepS (runK (ls ++ [x]) ls.length).1 ((ls ++ [x]).getD ls.length [])).1, (runK (ls ++ [x]) ls.length).2 ++ ((stepS (runK (ls ++ [x]) ls.length).1 ((ls ++ [x]).getD ls.length [])).2 ++ [10])) = _
   rw [runK_app ls [x] _ (Nat.le_refl _), e]
 unfold stS runS
 rw [hl, show min (ls.length + 1) 20 = ls.length + 1 by omega, show min ls.length 20 = ls.length by omega, k1]
 exact ⟨rfl, rfl⟩
theorem stS_ok (ls : List (List UInt8)) : SeOk (stS ls) := runK_ok ls _
set_option maxRecDepth 100000 in
theorem cmd_total : cmdT kTotal = .total := by unfold cmdT; rw [if_neg (by decide), if_neg (by decide), if_neg (by decide), if_neg (by decide), if_pos rfl]
set_option maxRecDepth 100000 in
theorem cmd_pay : cmdT kPay = .pay := by unfold cmdT; rw [if_neg (by decide), if_neg (by decide), if_neg (by decide), if_neg (by decide), if_neg (by decide), if_pos rfl]
set_option maxRecDepth 100000 in
theorem cmd_notes : cmdT kNotes = .notes := by unfold cmdT; rw [if_neg (by decide), if_neg (by decide), if_neg (by decide), if_neg (by decide), if_neg (by decide), if_neg (by decide), if_pos rfl]
set_option maxRecDepth 100000 in
theorem cmd_conf : cmdT kConf = .conf := by unfold cmdT; rw [if_neg (by decide), if_neg (by decide), if_neg (by decide), if_neg (by decide), if_neg (by decide), if_neg (by decide), if_neg (by decide), if_pos rfl]
theorem dec_one (n : Nat) (h : n < 10) : dec (n : Int) = [UInt8.ofNat (48 + n)] := by
 unfold dec
 rw [Int.toNat_natCast, Go.Lib.decDigits, dif_pos h]
theorem pI_one (n : Nat) (h : n < 10) : pI [UInt8.ofNat (48 + n)] = n := by
 rw [← dec_one n h]
 exact pI_dec (by omega) (by omega)
def kAdd31 : List UInt8 := [97, 100, 100, 32, 51, 32, 49]
def kTake31 : List UInt8 := [116, 97, 107, 101, 32, 51, 32, 49]
set_option maxRecDepth 100000 in
theorem cmd_add31 : cmdT kAdd31 = .add 3 1 := by
 unfold cmdT
 rw [if_pos (by decide), show lnW kAdd31 1 = [UInt8.ofNat (48 + 3)] by decide, show lnW kAdd31 2 = [UInt8.ofNat (48 + 1)] by decide, pI_one 3 (by omega), pI_one 1 (by omega)]
 rfl
set_option maxRecDepth 100000 in
theorem cmd_take31 : cmdT kTake31 = .take 3 1 := by
 unfold cmdT
 rw [if_neg (by decide), if_pos (by decide), show lnW kTake31 1 = [UInt8.ofNat (48 + 3)] by decide, show lnW kTake31 2 = [UInt8.ofNat (48 + 1)] by decide, pI_one 3 (by omega), pI_one 1 (by omega)]
 rfl
theorem app_four {α : Type} (l : List α) (a b c d : α) : l ++ [a, b, c, d] = ((l ++ [a]) ++ [b] ++ [c]) ++ [d] := by simp
theorem app_three {α : Type} (l : List α) (a b c : α) : l ++ [a, b, c] = ((l ++ [a]) ++ [b]) ++ [c] := by simp
theorem fst_total (S : Se) : (stepC S .total).1 = S := rfl
theorem fst_notes (S : Se) : (stepC S .notes).1 = S := rfl
theorem fst_conf (S : Se) : (stepC S .conf).1 = S := rfl
theorem ask_pay (ls : List (List UInt8)) (h : ls.length + 4 ≤ 20) : ∃ x t, runS (ls ++ [kPay]) = runS ls ++ x ∧ runS (ls ++ [kTotal, kNotes, kConf, kPay]) = runS ls ++ (t ++ x) ∧ 0 < t.length := by
 have h0 := run_snoc ls kPay (by omega)
 have h1 := run_snoc ls kTotal (by omega)
 have h2 := run_snoc (ls ++ [kTotal]) kNotes (by simp; omega)
 have h3 := run_snoc (ls ++ [kTotal] ++ [kNotes]) kConf (by simp; omega)
 have h4 := run_snoc (ls ++ [kTotal] ++ [kNotes] ++ [kConf]) kPay (by simp; omega)
 have e1 : (stepS (stS ls) kTotal).1 = stS ls := by unfold stepS; rw [cmd_total, fst_total]
 have e2 : (stepS (stS ls) kNotes).1 = stS ls := by unfold stepS; rw [cmd_notes, fst_notes]
 have e3 : (stepS (stS ls) kConf).1 = stS ls := by unfold stepS; rw [cmd_conf, fst_conf]
 rw [e1] at h1
 rw [h1.1, e2] at h2
 rw [h2.1, e3] at h3
 rw [h3.1] at h4
 rw [app_four, h4.2, h3.2, h2.2, h1.2, h0.2]
 exact ⟨_, (stepS (stS ls) kTotal).2 ++ [10] ++ ((stepS (stS ls) kNotes).2 ++ [10]) ++ ((stepS (stS ls) kConf).2 ++ [10]), rfl, by simp, by simp only [List.length_append, List.length_singleton]; omega⟩
theorem ask_take (ls : List (List UInt8)) (h : ls.length + 3 ≤ 20) : ∃ x y, runS (ls ++ [kTotal]) = runS ls ++ x ∧ runS (ls ++ [kAdd31, kTake31, kTotal]) = runS ls ++ y ∧ 3 ≤ y.length ∧ (y.take 3 = [110, 111, 10] ∨ (y.take 3 ≠ [110, 111, 10] ∧ ∃ t, y = t ++ x ∧ 0 < t.length)) := by
 have h0 := run_snoc ls kTotal (by omega)
 have h1 := run_snoc ls kAdd31 (by omega)
 have h2 := run_snoc (ls ++ [kAdd31]) kTake31 (by simp; omega)
 have h3 := run_snoc (ls ++ [kAdd31] ++ [kTake31]) kTotal (by simp; omega)
 have ok := stS_ok ls
 rw [app_three, h3.2, h2.2, h1.2, h0.2, h2.1, h1.1]
 by_cases ha : addOk shopS (stS ls).c 3 1 = true
 · have e1 : stepS (stS ls) kAdd31 = ({ stS ls with c := addL (stS ls).c 3 1 }, tOk) := by unfold stepS; rw [cmd_add31, stepC_add, if_pos ha]
   obtain ⟨hl1, hl2, hl3⟩ := vLines_iff.1 (vCart_pr ok.c).2
   have ht := take_add (c := (stS ls).c) 3 (n := 1) (fun x hx => (hl1 x hx).2.2.1) hl2
   have hv := (addOk_pr ha).2.2.2.2.2
   have htk : takeOk shopS (addL (stS ls).c 3 1) 3 1 = true := by
     rw [takeOk_eq' hv]
   have e2 : stepS { stS ls with c := addL (stS ls).c 3 1 } kTake31 = (stS ls, tOk) := by
     unfold stepS
     rw [cmd_take31, stepC_take]
     simp only
     rw [if_pos htk, ht]
   rw [e1]
   simp only
   rw [e2]
   simp only
   refine ⟨_, tOk ++ [10] ++ (tOk ++ [10]) ++ ((stepS (stS ls) kTotal).2 ++ [10]), rfl, by simp, by simp [tOk], .inr ⟨by simp [tOk], tOk ++ [10] ++ (tOk ++ [10]), rfl, by simp [tOk]⟩⟩
 · have e1 : stepS (stS ls) kAdd31 = (stS ls, tNo) := by unfold stepS; rw [cmd_add31, stepC_add, if_neg ha]
   rw [e1]
   simp only
   exact ⟨_, tNo ++ [10] ++ ((stepS (stS ls) kTake31).2 ++ [10]) ++ ((stepS (stepS (stS ls) kTake31).1 kTotal).2 ++ [10]), rfl, by simp, by simp [tNo], .inl (by simp [tNo])⟩
where
 takeOk_eq' {s : List Art} {c : List (Int × Int)} (hv : vCart s (addL c 3 1) = true) : takeOk s (addL c 3 1) 3 1 = true := by
   have hm : (3, 1 + eqN c 3) ∈ addL c 3 1 := by unfold addL; simp
   have hx := (vLines_iff.1 (vCart_pr hv).2).1
   unfold takeOk
   have a1 : hasA (addL c 3 1) 3 = true := by unfold hasA; rw [List.any_eq_true]; exact ⟨_, hm, by simp⟩
   have a2 : fewA (addL c 3 1) 3 1 = false := by
     unfold fewA
     rw [List.any_eq_false]
     intro x h
     have := hx x h
     simp; omega
   rw [hv, a1, a2]
   rfl
end Go.Proofs.YtijofgaekmahkaaGreatDoor
