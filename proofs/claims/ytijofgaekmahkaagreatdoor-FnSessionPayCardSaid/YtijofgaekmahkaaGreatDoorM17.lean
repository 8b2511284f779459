/- Joined texts: Walks: an amount that is split, in the reference. Walks: are amounts left in order, in the program; is a line meant, in the reference. Conditions: none. -/
import Derived.Test.YtijofgaekmahkaaGreatDoorM10
namespace Go.Proofs.YtijofgaekmahkaaGreatDoor
open Go.RowKit
set_option maxHeartbeats 8000000 in
set_option maxRecDepth 100000 in
theorem specAppo_any (a : Int) (ws : List Int) (v : Value) (w : World) (hv : Rd w 1 v ws.length (it ws)) (hl8 : ws.length ≤ 8) (ha0 : 0 ≤ a) (ha1 : a ≤ 1000000) (hs : a ≤ sumT ws ws.length) (hb : ∀ j, j < ws.length → 0 ≤ iG ws j ∧ iG ws j ≤ 1000000) :
   Calls Tryz.prog 199 #[.int .i64 a, v] w fun e w' => ∃ o, e = .returned o ∧ w'.ownsRow w.heap.size 3 1 o ws.length (it (appo a ws)) ∧ Below w.heap.size w w' := by
 have HV := Lib.hid hv
 obtain ⟨ao, cap, rfl, _, _, hr⟩ := hv.ints
 have HR := Lib.hid hr
 have HB := Lib.hid hb
 obtain ⟨i0, hi, hz0, hz1, hz2⟩ := info_parts Tryz.info3z
 have HI := Lib.hid hi
 have HZ0 := Lib.hid hz0
 have HZ1 := Lib.hid hz1
 have HZ2 := Lib.hid hz2
 obtain ⟨S, hS⟩ : ∃ S, S = sumT ws ws.length := ⟨_, rfl⟩
 have hSb := sumT_bd hb ws.length (Nat.le_refl _)
 rw [← hS] at hSb hs
 have HS := Lib.hid hS
 clear hi hz0 hz1 hz2 hv hr hb hS
 go_enter Tryz.func199, Tryz.ntmps199
 go_upto_region 2 with (refine wpList_make_full _ rfl _ _ 34 rfl w.heap.size 3 i0 _ 1 Tryz.underlying34 HI.out HZ0.out HZ1.out _ _ _ _ ws.length rfl rfl rfl rfl (by rw [HZ2.out]; omega) (by unfold maxLen; omega) (Nat.le_refl _) ?_; intro w1 hown hgr; have O1 : Hid (w1.ownsRow w.heap.size 3 1 (.slice (some ⟨w.heap.size, 0, none⟩) ws.length ws.length) ws.length (it (List.replicate ws.length 0))) := (by rw [← made_it]; exact hown); have B1 := below_of_grownBy hgr; have z1 : w.heap.size < w1.heap.size := (hown.lt _ rfl).2; clear hown hgr)
 go_upto_region 3 with (refine wpList_make_full _ rfl _ _ 34 rfl w1.heap.size 3 i0 _ 1 Tryz.underlying34 HI.out HZ0.out HZ1.out _ _ _ _ ws.length rfl rfl rfl rfl (by rw [HZ2.out]; omega) (by unfold maxLen; omega) (Nat.le_refl _) ?_; intro w2 hown hgr; have B2 := B1.trans ((below_of_grownBy hgr).mono B1.size); have O2 := Lib.hid (ownsRow_below O1.out (below_of_grownBy hgr) (Nat.le_refl _)); have R2 : Hid (w2.ownsRow w1.heap.size 3 1 (.slice (some ⟨w1.heap.size, 0, none⟩) ws.length ws.length) ws.length (it (List.replicate ws.length 0))) := (by rw [← made_it]; exact hown); clear hown hgr O1)
 by_cases hz : S = 0
 · have hzb : (S == 0) = true := by simp [hz]
   have fin : Hid (appo a ws = List.replicate ws.length 0) := by unfold Hid appo; rw [← HS.out, if_pos hz]
   clear hz
   go_wp2_with (go_at_call 91; refine (ssum_any ws _ _ (HV.out.below B2 (Nat.le_refl _)) (by omega) HB.out).mono ?_; rintro e w9 ⟨rfl, h9⟩; replace h9 := h9.symm; subst h9; rw [← HS.out])
   go_ret
   exact ⟨_, rfl, by rw [fin.out]; exact O2.out, B2⟩
 · have hzb : (S == 0) = false := by rw [beq_eq_false_iff_ne]; exact hz
   have hp : 0 < S := by omega
   have fin : Hid (appo a ws = bump (a - sumT (apF a ws) ws.length).toNat (apF a ws) (apR a ws)) := by unfold Hid appo; rw [← HS.out, if_neg hz]
   have inv := ap_inv (ws := ws) ha0 (by rw [← HS.out]; exact hs) (by rw [← HS.out]; exact hp) (fun k hk => (HB.out k hk).1)
   rw [← HS.out] at inv
   have INV := Lib.hid inv
   have hl1 : 1 ≤ ws.length := by
     apply Nat.pos_of_ne_zero
     intro h0
     have := HS.out
     rw [h0] at this
     simp [sumT] at this
     omega
   clear inv hz
   go_wp2_with (go_at_call 91; refine (ssum_any ws _ _ (HV.out.below B2 (Nat.le_refl _)) (by omega) HB.out).mono ?_; rintro e w9 ⟨rfl, h9⟩; replace h9 := h9.symm; subst h9; rw [← HS.out])
   go_loopw [8, 9] (fun l_ i_ wr => ∃ k : Nat, k ≤ ws.length ∧ i_ = .int .i64 k ∧ l_ = .int .i64 (a - sumT (apF a ws) k) ∧ Below w.heap.size w wr ∧ Hid (wr.ownsRow w.heap.size 3 1 (.slice (some ⟨w.heap.size, 0, none⟩) ws.length ws.length) ws.length (it (fillI (apF a ws) k))) ∧ Hid (wr.ownsRow w1.heap.size 3 1 (.slice (some ⟨w1.heap.size, 0, none⟩) ws.length ws.length) ws.length (it (fillI (apR a ws) k)))) (fun _ i_ _ => ws.length - (intOf i_).toNat)
   case atStart => exact ⟨0, Nat.zero_le _, rfl, by simp [sumT], B2, by rw [fillI_zero, apF_len]; exact O2, by rw [fillI_zero, apR_len]; exact R2⟩
   case round =>
     clear B2 O2 R2
     obtain ⟨k, hk, rfl, rfl, hbl, OF, OR⟩ := hrel
     by_cases hlt : k < ws.length
     · obtain ⟨b, off, rfl, hb, hcell⟩ := HR.out (by omega)
       have g0 := (hbl.cell (p := ⟨b, off + k, none⟩) hb).trans (hcell k hlt)
       have hbw : b < wr.heap.size := Nat.lt_of_lt_of_le hb hbl.size
       have z2 : w1.heap.size < wr.heap.size := (OR.out.lt _ rfl).2
       obtain ⟨c0, f0⟩ := owns_at1 OF.out k hlt
       obtain ⟨c1, f1⟩ := owns_at1 OR.out k hlt
       have sF := fillI_succ (apF a ws) k (by rw [apF_len]; exact hlt)
       have sR := fillI_succ (apR a ws) k (by rw [apR_len]; exact hlt)
       rw [apF_get a hlt, ← HS.out] at sF
       rw [apR_get a hlt, ← HS.out] at sR
       have SF := Lib.hid sF
       have SR := Lib.hid sR
       obtain ⟨x, hx⟩ : ∃ x, x = iG ws k := ⟨_, rfl⟩
       have hxb := HB.out k hlt
       rw [← hx] at g0 hxb SF SR
       have HX := Lib.hid hx
       clear hx hcell sF sR
       obtain ⟨x0, x1⟩ := hxb
       have m0 := mul_bd (a := a) (b := x) (m := 1000000) (n := 1000000) ha0 ha1 x0 x1
       have e1 : IntKind.i64.wrap (a * x) = a * x := IntWalk.i64_in _ (by omega)
       have q0 : 0 ≤ (a * x).tdiv S ∧ (a * x).tdiv S ≤ 1000000000000 := by
         rw [Int.tdiv_eq_ediv_of_nonneg m0.1]
         exact ⟨Int.ediv_nonneg m0.1 (by omega), Int.le_trans (Int.ediv_le_self _ m0.1) m0.2⟩
       have r0 : 0 ≤ (a * x).tmod S ∧ (a * x).tmod S ≤ 1000000000000 := by
         rw [Int.tmod_eq_emod_of_nonneg m0.1]
         have := Int.emod_nonneg (a * x) (Int.ne_of_gt hp)
         have := Int.emod_lt_of_pos (a * x) hp
         omega
       have e2 : IntKind.i64.wrap ((a * x).tdiv S) = (a * x).tdiv S := IntWalk.i64_in _ (by omega)
       have e3 : IntKind.i64.wrap ((a * x).tmod S) = (a * x).tmod S := IntWalk.i64_in _ (by omega)
       have hSne : ¬ S = 0 := by omega
       have n1 : ¬ b = w.heap.size := by omega
       have n2 : ¬ b = w1.heap.size := by omega
       have n3 : ¬ w1.heap.size = w.heap.size := by omega
       have n4 : ¬ w.heap.size = w1.heap.size := by omega
       have hs1 : sumT (apF a ws) (k + 1) = sumT (apF a ws) k + (a * x).tdiv S := by
         show sumT (apF a ws) k + iG (apF a ws) k = _
         rw [apF_get a hlt, ← HS.out, ← HX.out]
       have HS1 := Lib.hid hs1
       have hsl := sumT_nn (l := apF a ws) k (fun j hj => (INV.out.2.o j (by omega)).1)
       have hsu := sumT_ub (l := apF a ws) (b := 1000000) k (fun j hj => by have h1 := INV.out.2.o j (by omega); have h2 := HB.out j (by omega); omega)
       obtain ⟨y, hy⟩ : ∃ y, y = sumT (apF a ws) k := ⟨_, rfl⟩
       rw [← hy] at hsl hsu HS1 ⊢
       clear hs1 hy
       have e4 : IntKind.i64.wrap (a - y - (a * x).tdiv S) = a - y - (a * x).tdiv S := IntWalk.i64_in _ (by omega)
       clear m0 q0 r0 hsl hsu
       go_wp2
       have o3 := owns_off (g := w1.heap.size) (i := k) (owns_set1 OF.out k ((a * x).tdiv S)).1 (fun j hj => by have : w.heap.size = j := Option.some.inj hj; omega) (.int .i64 ((a * x).tmod S))
       have o4 := (owns_set1 (owns_off (g := w.heap.size) (i := k) OR.out (fun j hj => by have : w1.heap.size = j := Option.some.inj hj; omega) (.int .i64 ((a * x).tdiv S))) k ((a * x).tmod S)).1
       rw [SF.out] at o3
       rw [SR.out] at o4
       go_roundw
       case rel => exact ⟨k + 1, by omega, by go_num, by rw [HS1.out, Int.sub_sub], (hbl.setCell (Nat.le_refl _) _).setCell (Nat.le_of_lt z1) _, o3, o4⟩
       case measure => simp [intOf]; omega
     · obtain rfl : k = ws.length := by omega
       have eF : fillI (apF a ws) ws.length = apF a ws := by have := fillI_end (apF a ws); rw [apF_len] at this; exact this
       have eR : fillI (apR a ws) ws.length = apR a ws := by have := fillI_end (apR a ws); rw [apR_len] at this; exact this
       rw [eF] at OF
       rw [eR] at OR
       clear eF eR
       have hm0 := INV.out.1
       obtain ⟨m0, hm⟩ : ∃ m : Nat, (m : Int) = a - sumT (apF a ws) ws.length := ⟨(a - sumT (apF a ws) ws.length).toNat, Int.toNat_of_nonneg (by omega)⟩
       have hm2 : (a - sumT (apF a ws) ws.length).toNat = m0 := by omega
       have hm1 : m0 ≤ 1000000 := by have := sumT_nn (l := apF a ws) ws.length (fun j hj => (INV.out.2.o j hj).1); omega
       have HM2 := Lib.hid hm2
       rw [← hm]
       clear hm hm2 hm0
       go_wp2
       go_loopw [8] (fun l_ wr2 => ∃ (m : Nat) (out rs : List Int), l_ = .int .i64 m ∧ m ≤ 1000000 ∧ Hid (bump m out rs = appo a ws ∧ ApInv ws S m out rs) ∧ Below w.heap.size w wr2 ∧ Hid (wr2.ownsRow w.heap.size 3 1 (.slice (some ⟨w.heap.size, 0, none⟩) ws.length ws.length) ws.length (it out)) ∧ Hid (wr2.ownsRow w1.heap.size 3 1 (.slice (some ⟨w1.heap.size, 0, none⟩) ws.length ws.length) ws.length (it rs))) (fun l_ _ => (intOf l_).toNat)
       case atStart => exact ⟨m0, _, _, rfl, hm1, ⟨by rw [fin.out, HM2.out], by rw [← HM2.out]; exact INV.out.2⟩, hbl, OF, OR⟩
       case round =>
         clear hbl OF OR hm1 HM2
         obtain ⟨m, out, rs, rfl, hm1, H, hbl, OF, OR⟩ := hrel
         cases m with
         | zero =>
           go_wp2
           go_ret
           exact ⟨_, rfl, by rw [← H.out.1]; exact OF.out, hbl⟩
         | succ m =>
           have hltb : decide ((0 : Int) < (m : Int) + 1) = true := decide_eq_true (by omega)
           have e0 : ((m + 1 : Nat) : Int) = (m : Int) + 1 := by omega
           rw [e0]
           clear e0
           have H2 := H.out.2.step hp
           obtain ⟨hm, hinv⟩ := H2
           have HM := Lib.hid hm
           have HINV := Lib.hid hinv
           have hlr := H.out.2.lr
           have HLR := Lib.hid hlr
           have HLO := Lib.hid H.out.2.lo
           clear hm hinv hlr
           go_wp2
           go_loopw [10, 11] (fun b_ i_ w6 => ∃ k : Nat, 1 ≤ k ∧ k ≤ ws.length ∧ i_ = .int .i64 k ∧ b_ = .int .i64 (argM rs k : Nat) ∧ Below wr.heap.size wr w6) (fun _ i_ _ => ws.length - (intOf i_).toNat)
           case atStart => exact ⟨1, Nat.le_refl _, hl1, rfl, by rw [argM_one]; rfl, Below.refl _ _⟩
           case round =>
             obtain ⟨k, hk1, hk, rfl, rfl, hb6⟩ := hrel
             have OR6 := Lib.hid (ownsRow_below OR.out hb6 (Nat.le_refl _))
             by_cases hlt2 : k < ws.length
             · have hmk := argM_le rs k
               have hml : argM rs k < ws.length := by omega
               obtain ⟨c0, f0⟩ := owns_at1 OR6.out k hlt2
               obtain ⟨c1, f1⟩ := owns_at1 OR6.out (argM rs k) hml
               clear hmk
               by_cases hgt : iG rs (argM rs k) < iG rs k
               · have fin2 := Lib.hid (argM_yes hgt)
                 go_wp2
                 go_quiet (fail)
                 go_wp2
                 go_roundw
                 case rel => exact ⟨k + 1, by omega, by omega, by go_num, by rw [fin2.out], below_drewN hb6 _⟩
                 case measure => simp [intOf]; omega
               · have fin2 := Lib.hid (argM_no hgt)
                 have hgb : decide (iG rs (argM rs k) < iG rs k) = false := by simpa using hgt
                 go_wp2
                 go_quiet (fail)
                 go_wp2
                 go_roundw
                 case rel => exact ⟨k + 1, by omega, by omega, by go_num, by rw [fin2.out], below_drewN hb6 _⟩
                 case measure => simp [intOf]; omega
             · obtain rfl : k = ws.length := by omega
               have OF6 := Lib.hid (ownsRow_below OF.out hb6 (Nat.le_refl _))
               have BB := hbl.trans (hb6.mono hbl.size)
               rw [HLR.out] at HM HINV
               obtain ⟨q, hq⟩ : ∃ q, q = argM rs ws.length := ⟨_, rfl⟩
               have hbe : bump (m + 1) out rs = bump m (out.set q (iG out q + 1)) (rs.set q (-1)) := by
                 show bump m (out.set (argM rs rs.length) (iG out (argM rs rs.length) + 1)) (rs.set (argM rs rs.length) (-1)) = _
                 rw [HLR.out, ← hq]
               have HBE := Lib.hid hbe
               rw [← hq] at HM HINV ⊢
               clear hq hbe
               have hqn := HM.out
               obtain ⟨c0, f0⟩ := owns_at1 OF6.out q hqn
               obtain ⟨c1, f1⟩ := owns_at1 OR6.out q hqn
               have hxo := H.out.2.o q hqn
               have hxb := HB.out q hqn
               have e1 : IntKind.i64.wrap (iG out q + 1) = iG out q + 1 := IntWalk.i64_in _ (by omega)
               obtain ⟨x, hx⟩ : ∃ x, x = iG out q := ⟨_, rfl⟩
               rw [← hx] at e1 c0 HBE HINV
               clear hxo hxb hx
               have n3 : ¬ w1.heap.size = w.heap.size := by omega
               have n4 : ¬ w.heap.size = w1.heap.size := by omega
               have e2 : IntKind.i64.wrap ((m : Int) + 1 - 1) = (m : Int) := by rw [IntWalk.i64_in _ (by omega)]; omega
               go_wp2
               have o3 := owns_off (g := w1.heap.size) (i := q) (owns_set1 OF6.out q (x + 1)).1 (fun j hj => by have : w.heap.size = j := Option.some.inj hj; omega) (.int .i64 (-1))
               have o4 := (owns_set1 (owns_off (g := w.heap.size) (i := q) OR6.out (fun j hj => by have : w1.heap.size = j := Option.some.inj hj; omega) (.int .i64 (x + 1))) q (-1)).1
               go_roundw
               case rel => exact ⟨m, _, _, rfl, by omega, ⟨by rw [← HBE.out]; exact H.out.1, HINV.out⟩, (BB.setCell (Nat.le_refl _) _).setCell (Nat.le_of_lt z1) _, o3, o4⟩
               case measure => simp [intOf]
end Go.Proofs.YtijofgaekmahkaaGreatDoor

namespace Go.Proofs.YtijofgaekmahkaaGreatDoor
open Go.RowKit
theorem rd_heap {w w' : World} {sz n : Nat} {v : Value} {xs : List Value} (h : Rd w sz v n xs) (e : w'.heap = w.heap) : Rd w' sz v n xs := by
 have hc : ∀ a, w'.cell? a = w.cell? a := fun a => by unfold World.cell?; rw [e]
 obtain ⟨h1, ao, cap, h2, h3, h4, h5⟩ := h
 refine ⟨h1, ao, cap, h2, h3, h4, fun hn => ?_⟩
 obtain ⟨b, off, h6, h7, h8⟩ := h5 hn
 exact ⟨b, off, h6, by rw [e]; exact h7, fun j u hu => (hc _).trans (h8 j u hu)⟩
theorem amts_in {w : World} {base : Nat} {s : List Art} {c : List (Int × Int)} {o : Value} (h : w.ownsRow base 3 1 o (amK s c c.length).length (it (amK s c c.length))) :
   ∃ ao cap, o = .slice ao c.length cap ∧ (0 < c.length → ∃ b off, ao = some ⟨b, off, none⟩ ∧ b < w.heap.size ∧ ∀ k, k < c.length → w.cell? ⟨b, off + k, none⟩ = some (.int .i64 (amt s c k))) := by
 obtain ⟨ao, cap, h1, _, _, h2⟩ := (Rd.of_owns h).ints
 rw [amK_len] at h1 h2
 refine ⟨ao, cap, h1, fun hn => ?_⟩
 obtain ⟨b, off, h3, h4, h5⟩ := h2 hn
 exact ⟨b, off, h3, h4, fun k hk => by rw [h5 k hk, amK_get s c _ k hk]⟩
set_option maxHeartbeats 4000000 in
set_option maxRecDepth 100000 in
theorem leftOk_any (s : List Art) (u : Value) (c : List (Int × Int)) (v : Value) (left : List Int) (z : Value) (w : World) (hs : Rd w 4 u s.length (ar s)) (hv : Rd w 2 v c.length (pr c)) (hz : Rd w 1 z left.length (it left)) (hp : vCart s c = true) (hl : LeftOk s c left) :
   Calls Tryz.prog 116 #[u, v, z] w fun e w' => e = .returned (.bool true) ∧ Below w.heap.size w w' := by
 have HV := Lib.hid hv
 have HS := Lib.hid hs
 have HZ := Lib.hid hz
 have HP := Lib.hid hp
 have HL := Lib.hid hl
 have hc8 := (vLines_all (vCart_pr hp).2).2
 obtain ⟨so, scap, rfl, _, _, _⟩ := hs.arts
 obtain ⟨co, ccap, rfl, _, _, _⟩ := hv.pairs
 obtain ⟨zo, zcap, rfl, _, _, hrz⟩ := hz.ints
 rw [hl.1]
 rw [hl.1] at HZ
 have hne : ((c.length : Int) != (c.length : Int)) = false := by simp
 have HRZ := Lib.hid hrz
 clear hv hs hz hp hl hrz
 go_enter Tryz.func116, Tryz.ntmps116
 go_wp2_with (first
   | (go_at_call 70; refine (implAmounts_any s _ c _ _ HS.out HV.out HP.out).mono ?_; rintro e w1 ⟨o, rfl, h1, x1⟩; obtain ⟨mo, mcap, hmo, hrm⟩ := amts_in h1; subst hmo; have HRM := Lib.hid hrm; have X1 := Lib.hid x1; clear h1 x1 hrm)
   | (go_at_call 61; refine (implCart_any s _ c _ _ (HS.out.below X1.out (Nat.le_refl _)) (HV.out.below X1.out (Nat.le_refl _))).mono ?_; rintro e w2 ⟨rfl, x2⟩; rw [HP.out]; have X2 := Lib.hid x2; clear x2))
 go_loop [26] (fun i => ∃ k : Nat, k ≤ c.length ∧ i = .int .i64 k) (fun i => c.length - (intOf i).toNat)
 case atStart => exact ⟨0, Nat.zero_le _, rfl⟩
 case round =>
   obtain ⟨k, hk, rfl⟩ := hrel
   by_cases hlt : k < c.length
   · obtain ⟨b, off, rfl, hb, hcell⟩ := HRZ.out (by rw [HL.out.1]; omega)
     obtain ⟨b2, off2, hmo2, hb2, hcell2⟩ := HRM.out (by omega)
     subst hmo2
     have h0 := (X1.out.cell (p := ⟨b, off + k, none⟩) hb).trans (hcell k (by rw [HL.out.1]; exact hlt))
     have g0 := (X2.out.cell (p := ⟨b, off + k, none⟩) (Nat.lt_of_lt_of_le hb X1.out.size)).trans h0
     have g1 := (X2.out.cell (p := ⟨b2, off2 + k, none⟩) hb2).trans (hcell2 k hlt)
     have hw := HL.out.2 k hlt
     have h1 : wi (iG left k) 0 (amt s c k) = true := wi_true.2 hw
     clear hcell hcell2 h0
     go_wp2_with (go_at_call 35; refine (within_any _ _ _ _).mono ?_; rintro e w9 ⟨rfl, h9⟩; replace h9 := h9.symm; subst h9; rw [h1])
     go_round
     case rel => exact ⟨k + 1, by omega, by go_num⟩
     case measure => simp [intOf]; omega
   · obtain rfl : k = c.length := by omega
     go_wp2
     go_ret
     exact ⟨rfl, X1.out.trans (X2.out.mono X1.out.size)⟩
end Go.Proofs.YtijofgaekmahkaaGreatDoor
