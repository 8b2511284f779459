/- Joined texts: Walk: the effect of a rule, in the program. Conditions: none. -/
import Derived.Test.YtijofgaekmahkaaGreatDoorM13
import Derived.Test.YtijofgaekmahkaaGreatDoorM17
import Derived.Deep.Cut
import Derived.Deep.CutRange
import Derived.BigQuiet
import Derived.BigRegion
namespace Go.Proofs.YtijofgaekmahkaaGreatDoor
open Go.RowKit
theorem fillI_keep {l : List Int} {k : Nat} (hk : k < l.length) (h : iG l k = 0) : fillI l (k + 1) = fillI l k := by
 rw [← fillI_succ l k hk, h]
 apply List.ext_getElem?
 intro j
 rw [List.getElem?_set]
 split
 · rename_i e
   subst e
   rw [if_pos (by rw [fillI_len l k (by omega)]; exact hk)]
   unfold fillI
   rw [List.getElem?_append_right (by rw [List.length_take]; omega), List.length_take, List.getElem?_replicate, if_pos (by omega)]
 · rfl
set_option maxHeartbeats 16000000 in
set_option maxRecDepth 100000 in
theorem implEffect_any (s : List Art) (u : Value) (c : List (Int × Int)) (v : Value) (r : Rl) (rv : Value) (left : List Int) (z : Value) (w : World) (hs : Rd w 4 u s.length (ar s)) (hv : Rd w 2 v c.length (pr c)) (hrv : Rd w 2 rv r.counts.length (pr r.counts)) (hz : Rd w 1 z left.length (it left)) (hp : vCart s c = true) (hr : okRu r = true) (hl : LeftOk s c left) :
   Calls Tryz.prog 75 #[u, v, ruV r rv, z] w fun e w' => ∃ o, e = .returned o ∧ w'.ownsRow w.heap.size 3 1 o c.length (it (effL s r c left)) ∧ Below w.heap.size w w' := by
 unfold ruV
 have HV := Lib.hid hv
 have HS := Lib.hid hs
 have HZ := Lib.hid hz
 have HQ := Lib.hid hrv
 have HP := Lib.hid hp
 have HL := Lib.hid hl
 have KR := Lib.hid hr
 have hc8 := (vLines_all (vCart_pr hp).2).2
 obtain ⟨so, scap, rfl, _, _, hrs⟩ := hs.arts
 obtain ⟨co, ccap, rfl, _, _, hrc⟩ := hv.pairs
 obtain ⟨zo, zcap, rfl, _, _, hrz⟩ := hz.ints
 obtain ⟨ro, rcap, rfl, _⟩ := hrv.pairs
 have HRS := Lib.hid hrs
 have HRC := Lib.hid hrc
 have HRZ := Lib.hid hrz
 have hpp := okRu_parts hr
 have HPP := Lib.hid hpp
 have HCP : Hid (0 ≤ r.cap ∧ r.cap ≤ 1000000) := ⟨hpp.2.2.1, hpp.2.2.2.1⟩
 have hwl := wisL_bd (s := s) (left := left) hr hp (fun k hk => (hl.2 k hk).1)
 have HWL := Lib.hid hwl.1
 have HWB : Hid (∀ j, j < (wisL s r c left).length → 0 ≤ iG (wisL s r c left) j ∧ iG (wisL s r c left) j ≤ 1000000) := by
   intro j hj
   rw [hwl.1] at hj
   have h1 := hwl.2 j hj
   have h2 := hl.2 j hj
   have h3 := amt_bd hp hj
   omega
 obtain ⟨S, hS⟩ : ∃ S, S = sumT (wisL s r c left) c.length := ⟨_, rfl⟩
 have HSS := Lib.hid hS
 obtain ⟨i0, hi, hz0, hz1, hz2⟩ := info_parts Tryz.info3z
 have HI := Lib.hid hi
 have HZ0 := Lib.hid hz0
 have HZ1 := Lib.hid hz1
 have HZ2 := Lib.hid hz2
 have bx := box11 w r (.slice ro r.counts.length rcap) 43
 have b0 : Below w.heap.size w (w.alloc (.cells #[.int .i64 r.num, .int .i64 r.lvl, .int .i64 r.rank, .int .i64 r.group, .int .i64 r.kind, .int .i64 r.value, .int .i64 r.cap, .int .i64 r.lo, .int .i64 r.hi, .slice ro r.counts.length rcap, .int .i64 r.coupon] 43)) := (Below.refl _ w).alloc (Nat.le_refl _) _
 obtain ⟨W0, hW0⟩ : ∃ W0, W0 = w.alloc (.cells #[.int .i64 r.num, .int .i64 r.lvl, .int .i64 r.rank, .int .i64 r.group, .int .i64 r.kind, .int .i64 r.value, .int .i64 r.cap, .int .i64 r.lo, .int .i64 r.hi, .slice ro r.counts.length rcap, .int .i64 r.coupon] 43) := ⟨_, rfl⟩
 rw [← hW0] at bx b0
 have HW0 := Lib.hid hW0
 have BX := Lib.hid bx
 have HB0 := Lib.hid b0
 clear hi hz0 hz1 hz2 hs hv hz hrv hp hl hr hrs hrc hrz hpp hwl hS bx b0 hW0
 go_enter Tryz.func75, Tryz.ntmps75
 go_upto_region 1 with fail
 rw [← HW0.out]
 clear HW0
 have c0 := BX.out.c0
 have c1 := BX.out.c1
 have c2 := BX.out.c2
 have c3 := BX.out.c3
 have c4 := BX.out.c4
 have c5 := BX.out.c5
 have c6 := BX.out.c6
 have c7 := BX.out.c7
 have c8 := BX.out.c8
 have c9 := BX.out.c9
 have c10 := BX.out.c10
 by_cases hc0 : c.length = 0
 · have hce : ((c.length : Int) == 0) = true := by simp [hc0]
   have fin : Hid (it (effL s r c left) = []) := (by have h9 := (effL_bd (left := left) KR.out HP.out (fun k hk => (HL.out.2 k hk).1)).1; rw [hc0] at h9; rw [Hid, List.eq_nil_of_length_eq_zero h9]; rfl)
   have HC0 := Lib.hid hc0
   clear hc0
   go_wp2_with (go_at_call 67; refine (implRule_any r _ _ (HQ.out.below HB0.out (Nat.le_refl _))).mono ?_; rintro e w1 ⟨rfl, x1⟩; rw [KR.out]; have B1 := Lib.hid (HB0.out.trans (x1.mono HB0.out.size)); have X1 := Lib.hid (BX.out.below x1 (Nat.le_refl _)); clear x1)
   go_ret
   refine ⟨_, rfl, ?_, B1.out.alloc B1.out.size _⟩
   rw [fin.out, HC0.out]
   exact World.ownsRow_made w1 #[] 0 B1.out.size (by simp) (by simp)
 · have hce : ((c.length : Int) == 0) = false := by rw [beq_eq_false_iff_ne]; omega
   have hcp : 0 < c.length := by omega
   have hn0 : (0 : Int) ≤ (c.length : Int) := by omega
   clear hc0
   go_wp2_with (first
     | (go_at_call 67; refine (implRule_any r _ _ (HQ.out.below HB0.out (Nat.le_refl _))).mono ?_; rintro e w1 ⟨rfl, x1⟩; rw [KR.out]; have B1 := Lib.hid (HB0.out.trans (x1.mono HB0.out.size)); have X1 := Lib.hid (BX.out.below x1 (Nat.le_refl _)); clear x1)
     | (go_at_call 116; refine (leftOk_any s _ c _ left _ _ (HS.out.below B1.out (Nat.le_refl _)) (HV.out.below B1.out (Nat.le_refl _)) (HZ.out.below B1.out (Nat.le_refl _)) HP.out HL.out).mono ?_; rintro e w2 ⟨rfl, x2⟩; have B2 := Lib.hid (B1.out.trans (x2.mono B1.out.size)); have X2 := Lib.hid (X1.out.below x2 (Nat.le_refl _)); clear x2)
     | (refine wpList_make_full _ rfl _ _ 34 rfl w2.heap.size 3 i0 _ 1 Tryz.underlying34 HI.out HZ0.out HZ1.out _ _ _ _ c.length rfl rfl rfl rfl (by rw [HZ2.out]; omega) (by unfold maxLen; omega) (Nat.le_refl _) ?_; intro w3 hown hgr; have O3 : Hid (w3.ownsRow w2.heap.size 3 1 (.slice (some ⟨w2.heap.size, 0, none⟩) c.length c.length) c.length (it (fillI (meaL s r c left) 0))) := (by rw [Hid, fillI_zero, meaL_len, ← made_it]; exact hown); have H3 := Lib.hid (below_of_grownBy hgr); clear hown hgr))
   clear c0 c1 c2 c3 c4 c5 c6 c7 c8 c9 c10
   go_loopw [38] (fun i_ wr => ∃ k : Nat, k ≤ c.length ∧ i_ = .int .i64 k ∧ Below w2.heap.size w2 wr ∧ Hid (wr.ownsRow w2.heap.size 3 1 (.slice (some ⟨w2.heap.size, 0, none⟩) c.length c.length) c.length (it (fillI (meaL s r c left) k)))) (fun i_ _ => c.length - (intOf i_).toNat)
   case atStart => exact ⟨0, Nat.zero_le _, rfl, H3.out, O3⟩
   case round =>
     clear O3 H3
     obtain ⟨k, hk, rfl, hb2, OA⟩ := hrel
     have hbl := B2.out.trans (hb2.mono B2.out.size)
     have hzA : w2.heap.size < wr.heap.size := (OA.out.lt _ rfl).2
     by_cases hlt : k < c.length
     · obtain ⟨h4, h5, h6, h7, h8, h9⟩ := art_in HP.out hlt
       obtain ⟨b, off, rfl, hb, hcell⟩ := HRC.out (by omega)
       obtain ⟨b2, off2, rfl, hbs, hcell2⟩ := HRS.out (by omega)
       obtain ⟨b3, off3, rfl, hb3, hcell3⟩ := HRZ.out (by rw [HL.out.1]; omega)
       obtain ⟨a, ha⟩ := Int.eq_ofNat_of_zero_le h5
       have haN : (pA c k).toNat = a := by omega
       have g0 := (hbl.cell (p := ⟨b, off + k*2, none⟩) hb).trans (hcell k hlt).1
       have g1 := (hbl.cell (p := ⟨b, off + k*2+1, none⟩) hb).trans (hcell k hlt).2
       rw [haN] at h4
       have g2 := (hbl.cell (p := ⟨b2, off2 + a*4+1, none⟩) hbs).trans (hcell2 a h4).2.1
       have g3 := (hbl.cell (p := ⟨b3, off3 + k, none⟩) hb3).trans (hcell3 k (by rw [HL.out.1]; exact hlt))
       have hll : (left.length : Int) = (c.length : Int) := by rw [HL.out.1]
       rw [ha] at g0
       have hbw : b < wr.heap.size := Nat.lt_of_lt_of_le hb hbl.size
       have hbw2 : b2 < wr.heap.size := Nat.lt_of_lt_of_le hbs hbl.size
       have hbw3 : b3 < wr.heap.size := Nat.lt_of_lt_of_le hb3 hbl.size
       have X3 := X2.out.below hb2 (Nat.le_refl _)
       have c3 := X3.c3
       have hx3 := X3.1
       obtain ⟨c0, f0⟩ := owns_at1 OA.out k hlt
       have hmg := meaL_get s r left hlt
       have hst := fillI_succ (meaL s r c left) k (by rw [meaL_len]; exact hlt)
       have hkp := fillI_keep (l := meaL s r c left) (k := k) (by rw [meaL_len]; exact hlt)
       rw [haN] at hmg
       obtain ⟨y, hy⟩ : ∃ y, y = pB c k := ⟨_, rfl⟩
       obtain ⟨x, hx⟩ : ∃ x, x = iG left k := ⟨_, rfl⟩
       obtain ⟨g, hg⟩ : ∃ g, g = (aT s a).g := ⟨_, rfl⟩
       rw [← hy] at g1
       rw [← hx] at g3 hmg
       rw [← hg] at g2 hmg
       have ha0 : (0 : Int) ≤ (a : Int) := by omega
       have ha1 : (a : Int) < (s.length : Int) := by omega
       have hk0 : (0 : Int) ≤ (k : Int) := by omega
       have hk1 : (k : Int) < (c.length : Int) := by omega
       have hk2 : (k : Int) < (left.length : Int) := by omega
       have HMG := Lib.hid hmg
       have HST := Lib.hid hst
       have HKP := Lib.hid hkp
       have HB2 := Lib.hid hb2
       clear ha haN hcell hcell2 hcell3 hst hkp hmg hy hx hg h4 h5 h6 h7 h8 h9 X3 hb2 hbl
       by_cases hm : r.group = -1
       · have hm1 : (r.group == -1) = true := by simp [hm]
         have sF : Hid ((fillI (meaL s r c left) k).set k x = fillI (meaL s r c left) (k + 1)) := (by rw [Hid, ← HST.out, HMG.out, if_pos (.inl hm)])
         clear hm
         go_wp2
         go_quiet (fail)
         go_wp2
         go_roundw
         case rel => exact ⟨k + 1, by omega, by go_num, (below_drewN (HB2.out.alloc HB2.out.size (.cells #[.int .i64 a, .int .i64 y] 82)) _).setCell (Nat.le_refl _) _, (by rw [← sF.out]; exact (owns_set1 (OA.out.alloc (.cells #[.int .i64 a, .int .i64 y] 82)) k x).1)⟩
         case measure => simp [intOf]; omega
       · have hm1 : (r.group == -1) = false := by simp [hm]
         by_cases hm2 : g = r.group
         · have hm3 : (g == r.group) = true := by simp [hm2]
           have sF : Hid ((fillI (meaL s r c left) k).set k x = fillI (meaL s r c left) (k + 1)) := (by rw [Hid, ← HST.out, HMG.out, if_pos (.inr hm2)])
           clear hm hm2
           go_wp2
           go_quiet (fail)
           go_wp2
           go_roundw
           case rel => exact ⟨k + 1, by omega, by go_num, (below_drewN (HB2.out.alloc HB2.out.size (.cells #[.int .i64 a, .int .i64 y] 82)) _).setCell (Nat.le_refl _) _, (by rw [← sF.out]; exact (owns_set1 (OA.out.alloc (.cells #[.int .i64 a, .int .i64 y] 82)) k x).1)⟩
           case measure => simp [intOf]; omega
         · have hm3 : (g == r.group) = false := by simp [hm2]
           have sF : Hid (fillI (meaL s r c left) (k + 1) = fillI (meaL s r c left) k) := HKP.out (by rw [HMG.out, if_neg (fun h => h.elim hm hm2)])
           clear hm hm2
           go_wp2
           go_quiet (fail)
           go_wp2
           go_roundw
           case rel => exact ⟨k + 1, by omega, by go_num, below_drewN (HB2.out.alloc HB2.out.size (.cells #[.int .i64 a, .int .i64 y] 82)) _, (by rw [sF.out]; exact OA.out.alloc (.cells #[.int .i64 a, .int .i64 y] 82))⟩
           case measure => simp [intOf]; omega
     · have hk9 : k = c.length := by omega
       have O5 : Hid (wr.ownsRow w2.heap.size 3 1 (.slice (some ⟨w2.heap.size, 0, none⟩) c.length c.length) c.length (it (meaL s r c left))) := (by have h9 := OA.out; rw [hk9, ← meaL_len s r c left, fillI_end, meaL_len] at h9; exact h9)
       have B5 := Lib.hid hbl
       have X5 := Lib.hid (X2.out.below hb2 (Nat.le_refl _))
       have H5 := Lib.hid hb2
       have hx5 := X5.out.1
       have c4 := X5.out.c4
       obtain ⟨w5, hw5⟩ : ∃ w5, w5 = wr := ⟨_, rfl⟩
       rw [← hw5] at O5 B5 X5 H5 hzA c4 hx5 ⊢
       clear OA hb2 hbl hk9 hw5
       go_upto_region 10 with fail
       go_cut [12] from 65 to 67 (fun o_ wx => o_ = .slice (some ⟨w5.heap.size, 0, none⟩) c.length c.length ∧ wx.ownsRow w5.heap.size 3 1 (.slice (some ⟨w5.heap.size, 0, none⟩) c.length c.length) c.length (it (fillI (wisK s r c left) 0)) ∧ Below w5.heap.size w5 wx)
       case first =>
         go_wp2_with (refine wpList_make_full _ rfl _ _ 34 rfl w5.heap.size 3 i0 _ 1 Tryz.underlying34 HI.out HZ0.out HZ1.out _ _ _ _ c.length rfl rfl rfl rfl (by rw [HZ2.out]; omega) (by unfold maxLen; omega) (Nat.le_refl _) ?_; intro w6 hown hgr; have O6 : Hid (w6.ownsRow w5.heap.size 3 1 (.slice (some ⟨w5.heap.size, 0, none⟩) c.length c.length) c.length (it (fillI (wisK s r c left) 0))) := (by rw [Hid, fillI_zero, wisK_len, ← made_it]; exact hown); have h6 := below_of_grownBy hgr; have H6 := Lib.hid h6; have c4 := (X5.out.below h6 (Nat.le_refl _)).c4; have hx6 := (X5.out.below h6 (Nat.le_refl _)).1; have hz6 : w5.heap.size < w6.heap.size := (O6.out.lt _ rfl).2; clear hown hgr h6)
         go_meet
         exact ⟨rfl, O6.out, H6.out⟩
       case rest =>
         obtain ⟨rfl, o6, h6⟩ := hcut
         have O6 : Hid (wc.ownsRow w5.heap.size 3 1 (.slice (some ⟨w5.heap.size, 0, none⟩) c.length c.length) c.length (it (fillI (wisK s r c left) 0))) := o6
         have H6 := Lib.hid h6
         have c4 := (X5.out.below h6 (Nat.le_refl _)).c4
         have hx6 := (X5.out.below h6 (Nat.le_refl _)).1
         have hz6 : w5.heap.size < wc.heap.size := (O6.out.lt _ rfl).2
         obtain ⟨w6, hw6⟩ : ∃ w6, w6 = wc := ⟨_, rfl⟩
         rw [← hw6] at O6 H6 c4 hx6 hz6 ⊢
         clear o6 h6 hw6
         rename_i kk
         refine kk _ _ ?_
         go_step
         go_cut [12, 13, 14, 15, 16] from 68 to 124 (fun o_ _ _ _ _ wx => ∃ (q cp : Nat), o_ = .slice (some ⟨q, 0, none⟩) c.length cp ∧ wx.ownsRow w.heap.size 3 1 o_ c.length (it (wisL s r c left)) ∧ Below w.heap.size w wx ∧ Below w2.heap.size w2 wx)
         case first =>
           by_cases h2 : r.kind = 2
           · have e2 : (r.kind == 2) = true := by simp [h2]
             have fw : Hid (wisL s r c left = appo (min r.value (sumT (meaL s r c left) c.length)) (meaL s r c left)) := if_pos h2
             have hml := meaL_len s r c left
             have hmb : ∀ j, j < (meaL s r c left).length → 0 ≤ iG (meaL s r c left) j ∧ iG (meaL s r c left) j ≤ 1000000 := fun j hj => by
               rw [hml] at hj
               have q1 := mea_bd (s := s) (r := r) (left := left) (fun k hk => (HL.out.2 k hk).1) hj
               have q2 := HL.out.2 j hj
               have q3 := amt_bd HP.out hj
               omega
             have hvb : 1 ≤ r.value ∧ r.value ≤ 1000000 := by rcases HPP.out.2.2.2.2.1 with h | h | h <;> omega
             obtain ⟨T, hT⟩ : ∃ T, T = sumT (meaL s r c left) c.length := ⟨_, rfl⟩
             have hT0 : 0 ≤ T := by rw [hT]; exact sumT_nn _ fun j hj => (hmb j (by rw [hml]; exact hj)).1
             have HT := Lib.hid hT
             have HML := Lib.hid hml
             have HMB := Lib.hid hmb
             clear hml hmb hT h2
             go_upto_region 18 with fail
             have rd1 := Lib.hid ((Rd.of_owns O5.out).below H6.out (Nat.le_refl _))
             have KT : Hid (∀ W' : World, W'.heap = w6.heap → Calls Tryz.prog 69 #[(.slice (some ⟨w2.heap.size, 0, none⟩) c.length c.length)] W' fun e w' => e = .returned (.int .i64 T) ∧ w' = W') := fun W' hW' => by
               have h := total_any (meaL s r c left) (.slice (some ⟨w2.heap.size, 0, none⟩) c.length c.length) W' (by rw [HML.out]; exact rd_heap rd1.out hW') (by rw [HML.out]; omega) HMB.out
               rw [HML.out, ← HT.out] at h
               exact h
             have KA : Hid (∀ W' : World, W'.heap = w6.heap → Calls Tryz.prog 117 #[.int .i64 (min r.value T), (.slice (some ⟨w2.heap.size, 0, none⟩) c.length c.length)] W' fun e w' => ∃ o, e = .returned o ∧ w'.ownsRow W'.heap.size 3 1 o c.length (it (wisL s r c left)) ∧ Below W'.heap.size W' w') := fun W' hW' => by
               have h := implAppo_any (min r.value T) (meaL s r c left) (.slice (some ⟨w2.heap.size, 0, none⟩) c.length c.length) W' (by rw [HML.out]; exact rd_heap rd1.out hW') (by rw [HML.out]; omega) (by rw [HML.out]; omega) (by omega) (by omega) (by rw [HML.out, ← HT.out]; omega) HMB.out
               rw [HML.out] at h
               rw [fw.out, ← HT.out]
               exact h
             have x6 := X5.out.below H6.out (Nat.le_refl _)
             have X6 := Lib.hid x6
             have c5 := x6.c5
             have hP : w.heap.size < w6.heap.size := x6.1
             have KP := Lib.hid (show ∀ w' : World, Below w6.heap.size w6 w' → w'.cell? ⟨w.heap.size, 5, none⟩ = some (.int .i64 r.value) ∧ Below w6.heap.size w6 w' from fun w' h => ⟨(h.cell (p := ⟨w.heap.size, 5, none⟩) hP).trans c5, h⟩)
             have b0 : Below w6.heap.size w6 w6.drew := (Below.refl _ w6).drew
             have B0 := Lib.hid b0
             have G1 := Lib.hid (KT.out w6.drew rfl)
             have G2 := Lib.hid (KA.out w6.drew rfl)
             clear x6 b0
             go_region_held3 (fun w' => w'.cell? ⟨w.heap.size, 5, none⟩ = some (.int .i64 r.value) ∧ Below w6.heap.size w6 w')
               (first
                 | assumption
                 | exact KP.out _ B0.out
                 | exact KP.out _ b9)
               ((first
                 | (go_at_call 69; (with_reducible refine G1.out.mono ?_); rintro e w9 ⟨rfl, h9⟩; replace h9 := h9.symm; subst h9; have b9 := B0.out)
                 | (go_at_call 117; (with_reducible refine G2.out.mono ?_); rintro e w9 ⟨o9, rfl, h9, x9⟩; have b9 : Below w6.heap.size w6 w9 := B0.out.trans (x9.mono B0.out.size); obtain ⟨qo, qc, hq9, hqa⟩ := owns_shape h9; obtain ⟨qq, hq8, _⟩ := hqa hcp; subst hq8; subst hq9)))
             all_goals go_wp2
             all_goals go_meet
             all_goals exact ⟨qq, qc, rfl, owns_base h9 (Nat.le_trans B5.out.size H6.out.size), B5.out.trans ((H6.out.trans (b9.mono H6.out.size)).mono B5.out.size), H5.out.trans ((H6.out.trans (b9.mono H6.out.size)).mono H5.out.size)⟩
           · have e2 : (r.kind == 2) = false := by simp [h2]
             have fw : Hid (wisL s r c left = wisK s r c left) := if_neg h2
             have H2 := Lib.hid h2
             by_cases h1 : r.kind = 1
             · have e1 : (r.kind == 1) = true := by simp [h1]
               have hvb : 1 ≤ r.value ∧ r.value ≤ 1000 := by rcases HPP.out.2.2.2.2.1 with h | h | h <;> omega
               have H1 := Lib.hid h1
               clear h1 h2
               go_wp2
               go_loopw [111] (fun i_ wr => ∃ k : Nat, k ≤ c.length ∧ i_ = .int .i64 k ∧ Below w5.heap.size w5 wr ∧ Hid (wr.ownsRow w5.heap.size 3 1 (.slice (some ⟨w5.heap.size, 0, none⟩) c.length c.length) c.length (it (fillI (wisK s r c left) k)))) (fun i_ _ => c.length - (intOf i_).toNat)
               case atStart => exact ⟨0, Nat.zero_le _, rfl, H6.out, O6⟩
               case round =>
                 clear O6 H6
                 obtain ⟨k, hk, rfl, hb5, OB⟩ := hrel
                 have hzB : w5.heap.size < wr.heap.size := (OB.out.lt _ rfl).2
                 by_cases hlt : k < c.length
                 · have OA := ownsRow_below O5.out hb5 (Nat.le_refl _)
                   obtain ⟨c0, f0⟩ := owns_at1 OA k hlt
                   obtain ⟨c1, f1⟩ := owns_at1 OB.out k hlt
                   have x6 := X5.out.below hb5 (Nat.le_refl _)
                   have c5 := x6.c5
                   have hx7 := x6.1
                   have hzA2 : w2.heap.size < wr.heap.size := (OA.lt _ rfl).2
                   have q1 := mea_bd (s := s) (r := r) (left := left) (fun k hk => (HL.out.2 k hk).1) hlt
                   have q2 := HL.out.2 k hlt
                   have q3 := amt_bd HP.out hlt
                   have hst := fillI_succ (wisK s r c left) k (by rw [wisK_len]; exact hlt)
                   rw [wisK_get s r left hlt, if_pos H1.out] at hst
                   obtain ⟨m, hm⟩ : ∃ m, m = iG (meaL s r c left) k := ⟨_, rfl⟩
                   rw [← hm] at c0 q1 hst
                   have m0 := mul_bd (a := m) (b := r.value) (m := 1000000) (n := 1000) q1.1 (by omega) (by omega) hvb.2
                   have ew : IntKind.i64.wrap (m * r.value) = m * r.value := IntWalk.i64_in _ (by omega)
                   have q0 : 0 ≤ (m * r.value).tdiv 1000 ∧ (m * r.value).tdiv 1000 ≤ 1000000000 := by
                     rw [Int.tdiv_eq_ediv_of_nonneg m0.1]
                     exact ⟨Int.ediv_nonneg m0.1 (by omega), Int.le_trans (Int.ediv_le_self _ m0.1) m0.2⟩
                   have ew2 : IntKind.i64.wrap ((m * r.value).tdiv 1000) = (m * r.value).tdiv 1000 := IntWalk.i64_in _ (by omega)
                   have hk0 : (0 : Int) ≤ (k : Int) := by omega
                   have hk1 : (k : Int) < (c.length : Int) := by omega
                   have HST := Lib.hid hst
                   clear hst hm OA x6 q2 q3
                   go_wp2
                   go_roundw
                   case rel => exact ⟨k + 1, by omega, by go_num, hb5.setCell (Nat.le_refl _) _, (by rw [← HST.out]; exact (owns_set1 OB.out k _).1)⟩
                   case measure => simp [intOf]; omega
                 · have hk9 : k = c.length := by omega
                   have O9 : Hid (wr.ownsRow w.heap.size 3 1 (.slice (some ⟨w5.heap.size, 0, none⟩) c.length c.length) c.length (it (wisL s r c left))) := (by have h9 := OB.out; rw [hk9, ← wisK_len s r c left, fillI_end, wisK_len] at h9; rw [Hid, fw.out]; exact owns_base h9 B5.out.size)
                   have B9 := Lib.hid (B5.out.trans (hb5.mono B5.out.size))
                   clear OB hk9
                   go_wp2
                   go_meet
                   exact ⟨_, _, rfl, O9.out, B9.out, H5.out.trans (hb5.mono H5.out.size)⟩
             · have e1 : (r.kind == 1) = false := by simp [h1]
               have hvb : 2 ≤ r.value ∧ r.value ≤ 20 := by rcases HPP.out.2.2.2.2.1 with h | h | h <;> omega
               have hv0 : (r.value == 0) = false := by rw [beq_eq_false_iff_ne]; omega
               have hv1 : ¬ r.value = 0 := by omega
               have hv2 : ¬ r.value = -1 := by omega
               have H1 := Lib.hid h1
               clear h1 h2
               go_wp2
               go_loopw [72] (fun i_ wr => ∃ k : Nat, k ≤ c.length ∧ i_ = .int .i64 k ∧ Below w5.heap.size w5 wr ∧ Hid (wr.ownsRow w5.heap.size 3 1 (.slice (some ⟨w5.heap.size, 0, none⟩) c.length c.length) c.length (it (fillI (wisK s r c left) k)))) (fun i_ _ => c.length - (intOf i_).toNat)
               case atStart => exact ⟨0, Nat.zero_le _, rfl, H6.out, O6⟩
               case round =>
                 clear O6 H6
                 obtain ⟨k, hk, rfl, hb5, OB⟩ := hrel
                 have hzB : w5.heap.size < wr.heap.size := (OB.out.lt _ rfl).2
                 by_cases hlt : k < c.length
                 · have hbl := B5.out.trans (hb5.mono B5.out.size)
                   obtain ⟨h4, h5, h6, h7, h8, h9⟩ := art_in HP.out hlt
                   have hat := atOk_pr h9
                   obtain ⟨b, off, rfl, hb, hcell⟩ := HRC.out (by omega)
                   obtain ⟨b2, off2, rfl, hbs, hcell2⟩ := HRS.out (by omega)
                   obtain ⟨a, ha⟩ := Int.eq_ofNat_of_zero_le h5
                   have haN : (pA c k).toNat = a := by omega
                   have g0 := (hbl.cell (p := ⟨b, off + k*2, none⟩) hb).trans (hcell k hlt).1
                   have g1 := (hbl.cell (p := ⟨b, off + k*2+1, none⟩) hb).trans (hcell k hlt).2
                   rw [haN] at h4 hat
                   have g2 := (hbl.cell (p := ⟨b2, off2 + a*4, none⟩) hbs).trans (hcell2 a h4).1
                   rw [ha] at g0
                   have hbw : b < wr.heap.size := Nat.lt_of_lt_of_le hb hbl.size
                   have hbw2 : b2 < wr.heap.size := Nat.lt_of_lt_of_le hbs hbl.size
                   have OA := ownsRow_below O5.out hb5 (Nat.le_refl _)
                   obtain ⟨c0, f0⟩ := owns_at1 OA k hlt
                   obtain ⟨c1, f1⟩ := owns_at1 OB.out k hlt
                   have x6 := X5.out.below hb5 (Nat.le_refl _)
                   have c5 := x6.c5
                   have hx7 := x6.1
                   have hzA2 : w2.heap.size < wr.heap.size := (OA.lt _ rfl).2
                   have q1 := mea_bd (s := s) (r := r) (left := left) (fun k hk => (HL.out.2 k hk).1) hlt
                   have hst := fillI_succ (wisK s r c left) k (by rw [wisK_len]; exact hlt)
                   rw [wisK_get s r left hlt, if_neg H1.out, haN] at hst
                   obtain ⟨m, hm⟩ : ∃ m, m = iG (meaL s r c left) k := ⟨_, rfl⟩
                   obtain ⟨y, hy⟩ : ∃ y, y = pB c k := ⟨_, rfl⟩
                   obtain ⟨p, hpe⟩ : ∃ p, p = (aT s a).p := ⟨_, rfl⟩
                   rw [← hm] at c0 hst
                   rw [← hy] at g1 h7 h8 hst
                   rw [← hpe] at g2 hat hst
                   have d0 : 0 ≤ y.tdiv r.value ∧ y.tdiv r.value ≤ 20 := by
                     rw [Int.tdiv_eq_ediv_of_nonneg (by omega)]
                     exact ⟨Int.ediv_nonneg (by omega) (by omega), Int.le_trans (Int.ediv_le_self _ (by omega)) h8⟩
                   have ew : IntKind.i64.wrap (y.tdiv r.value) = y.tdiv r.value := IntWalk.i64_in _ (by omega)
                   have m0 := mul_bd (a := y.tdiv r.value) (b := p) (m := 20) (n := 1000000) d0.1 d0.2 (by omega) (by omega)
                   have ew2 : IntKind.i64.wrap (y.tdiv r.value * p) = y.tdiv r.value * p := IntWalk.i64_in _ (by omega)
                   have ha0 : (0 : Int) ≤ (a : Int) := by omega
                   have ha1 : (a : Int) < (s.length : Int) := by omega
                   have hk0 : (0 : Int) ≤ (k : Int) := by omega
                   have hk1 : (k : Int) < (c.length : Int) := by omega
                   have hne1 : ¬ b = wr.heap.size := by omega
                   have hne2 : ¬ b2 = wr.heap.size := by omega
                   have hne3 : ¬ w5.heap.size = wr.heap.size := by omega
                   have hne4 : ¬ w2.heap.size = wr.heap.size := by omega
                   have HST := Lib.hid hst
                   have HB5 := Lib.hid hb5
                   clear hst hm OA x6 q1 hy hpe hcell hcell2 ha haN h4 h5 h6 h9 hat hbl hb5
                   go_wp2
                   go_region
                   go_wp2
                   go_roundw
                   case rel => exact ⟨k + 1, by omega, by go_num, ((HB5.out.setCell (Nat.le_refl _) _).alloc (by simp only [World.size_setCell]; exact HB5.out.size) (.cells #[.int .i64 a, .int .i64 y] 82)).drew, (by have o3 := (owns_set1 OB.out k (min m (y.tdiv r.value * p))).1; rw [HST.out] at o3; exact (o3.alloc (.cells #[.int .i64 a, .int .i64 y] 82)).drew)⟩
                   case measure => simp [intOf]; omega
                 · have hk9 : k = c.length := by omega
                   have O9 : Hid (wr.ownsRow w.heap.size 3 1 (.slice (some ⟨w5.heap.size, 0, none⟩) c.length c.length) c.length (it (wisL s r c left))) := (by have h9 := OB.out; rw [hk9, ← wisK_len s r c left, fillI_end, wisK_len] at h9; rw [Hid, fw.out]; exact owns_base h9 B5.out.size)
                   have B9 := Lib.hid (B5.out.trans (hb5.mono B5.out.size))
                   clear OB hk9
                   go_wp2
                   go_meet
                   exact ⟨_, _, rfl, O9.out, B9.out, H5.out.trans (hb5.mono H5.out.size)⟩
         case rest =>
           clear O6 H6 c4
           obtain ⟨qq, qc, rfl, h9, x9, y9⟩ := hcut
           have O9 := Lib.hid h9
           have B9 := Lib.hid x9
           have X9 := Lib.hid (X2.out.below y9 (Nat.le_refl _))
           clear h9 x9 y9
           have rd1 := Rd.of_owns O9.out
           have RD1 := Lib.hid rd1
           clear rd1
           have kt : ∀ W' : World, W'.heap = wc.heap → Calls Tryz.prog 69 #[(.slice (some ⟨qq, 0, none⟩) c.length qc)] W' fun e w' => e = .returned (.int .i64 S) ∧ w' = W' := fun W' hW' => by
             have h := total_any (wisL s r c left) (.slice (some ⟨qq, 0, none⟩) c.length qc) W' (by rw [HWL.out]; exact rd_heap RD1.out hW') (by rw [HWL.out]; omega) HWB.out
             rw [HWL.out, ← HSS.out] at h
             exact h
           have KT := Lib.hid kt
           have c6 := X9.out.c6
           clear kt
           by_cases hcap : r.cap = 0
           · have hcb : (r.cap != 0) = false := by simp [hcap]
             have fin : Hid (effL s r c left = wisL s r c left) := if_neg fun h => h.1 hcap
             clear hcap
             go_wp2
             go_quiet (fail)
             go_wp2
             go_ret
             exact ⟨_, rfl, by rw [fin.out]; exact O9.out, below_drewN B9.out _⟩
           · have hcb : (r.cap != 0) = true := by simp [hcap]
             by_cases hgt : r.cap < S
             · have hgb : decide (r.cap < S) = true := by simp [hgt]
               have fin : Hid (effL s r c left = appo r.cap (wisL s r c left)) := if_pos ⟨hcap, by rw [← HSS.out]; exact hgt⟩
               have HGT := Lib.hid hgt
               clear hcap hgt
               go_wp2
               go_quiet ((go_at_call 69; exact Calls.quiet_of_same (KT.out _ rfl)))
               go_wp2_with (go_at_call 117; refine (implAppo_any r.cap (wisL s r c left) _ _ (by rw [HWL.out]; exact rd_heap RD1.out rfl) (by rw [HWL.out]; omega) (by rw [HWL.out]; omega) HCP.out.1 HCP.out.2 (by rw [HWL.out, ← HSS.out]; have := HGT.out; omega) HWB.out).mono ?_; rintro e w9 ⟨o, rfl, h9, x9⟩; rw [HWL.out, ← fin.out] at h9; obtain ⟨zo9, zc9, hz9, _⟩ := owns_shape h9; subst hz9; have O9 := Lib.hid (owns_base h9 B9.out.size); have B9 := Lib.hid ((below_drewN B9.out _).trans (x9.mono B9.out.size)); clear h9 x9)
               go_ret
               exact ⟨_, rfl, O9.out, B9.out⟩
             · have hgb : decide (r.cap < S) = false := by simp; omega
               have fin : Hid (effL s r c left = wisL s r c left) := if_neg fun h => hgt (by rw [HSS.out]; exact h.2)
               clear hcap hgt
               go_wp2
               go_quiet ((go_at_call 69; exact Calls.quiet_of_same (KT.out _ rfl)))
               go_wp2
               go_ret
               exact ⟨_, rfl, by rw [fin.out]; exact O9.out, below_drewN B9.out _⟩
end Go.Proofs.YtijofgaekmahkaaGreatDoor
