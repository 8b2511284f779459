/- Joined texts: Walk: a line of a session in the program: a coupon. append of texts to a list of the call's own in a region that draws; texts joined by a semicolon. Conditions: none. -/
import Derived.Test.YtijofgaekmahkaaGreatDoorM34
namespace Go.Proofs.YtijofgaekmahkaaGreatDoor
open Go.RowKit
set_option maxHeartbeats 8000000 in
set_option maxRecDepth 100000 in
theorem runLine_coupon (b B : Nat) (S : Se) (T : List UInt8) (w : World) (h0 : SesI w b S) (hE : EnvB B w) (hB : B ≤ b) (hl : T.length ≤ 2000000) (hw : lnW T 0 = kCoupon ∧ lnN T = 2) :
   Calls Tryz.prog 22 #[.pointer (some ⟨b, 0, none⟩), .string ⟨T.toArray⟩] w (LineI b S T w) := by
 have fin : Hid (stepS S T = stepC S (.coupon (pI (lnW T 1)))) := by rw [Hid, stepS, cmdT_coupon hw]
 have HS := Lib.hid h0
 have hb0 : b < w.heap.size := by obtain ⟨_, _, _, _, _, sv⟩ := h0; exact sv.lt
 have HE := Lib.hid (hE.upTo (C := w.heap.size) (by omega))
 have hsz : (⟨T.toArray⟩ : ByteArray).size = T.length := by simp [ByteArray.size]
 have hn1 := List.length_pos_iff.2 (spl_ne 32 T)
 have sp := split_any T w hE.p (by omega)
 rw [words_spl _ T (Nat.le_refl _)] at sp
 obtain ⟨gw, hgwe⟩ : ∃ gw, gw = w.heap.size := ⟨_, rfl⟩
 rw [← hgwe] at sp
 have SP := Lib.hid sp
 have hgb : gw ≠ b := by omega
 have HGW := Lib.hid hgwe

 clear h0 hE hB sp hgwe
 unfold LineI
 go_enter Tryz.func22, Tryz.ntmps22
 go_upto_region 2 with (go_at_call 28; refine SP.out.mono ?_; rintro e w1 ⟨rfl, hc, hgw, x1⟩; rw [HGW.out] at x1; have X1 := Lib.hid x1; have HC := Lib.hid hc; clear hc x1)
 have hcw : ∀ k, k < (spl 32 T).length → w1.cell? ⟨gw, k, none⟩ = some (.string ⟨(lnW T k).toArray⟩) := fun k hk => HC.out k _ (by unfold lnW; rw [List.getD_eq_getElem?_getD, List.getElem?_eq_getElem hk]; rfl)
 have HS1 := Lib.hid (HS.out.below X1.out (Nat.le_refl _))
 have HE1 := Lib.hid ((HE.out.below X1.out).upTo X1.out.size)
 have HCW := Lib.hid hcw
 have c0 := hcw 0 hn1
 obtain ⟨x0, hx0⟩ : ∃ x0, x0 = lnW T 0 := ⟨_, rfl⟩
 obtain ⟨n, hn⟩ : ∃ n, n = (spl 32 T).length := ⟨_, rfl⟩
 rw [← hx0] at c0
 have HX0 := Lib.hid hx0
 have HN := Lib.hid hn
 rw [← hn] at hn1 hcw HCW ⊢
 have hn0 : (0 : Int) < (n : Int) := by omega
 have NA : Hid (¬ (x0 = kAdd ∧ n = 3)) := by rw [HX0.out]; exact fun k => absurd (k.1.symm.trans hw.1) (by decide)
 have NT : Hid (¬ (x0 = kTake ∧ n = 3)) := by rw [HX0.out]; exact fun k => absurd (k.1.symm.trans hw.1) (by decide)
 have NR : Hid (¬ (x0 = kRule ∧ 5 < T.length)) := by rw [HX0.out]; exact fun k => absurd (k.1.symm.trans hw.1) (by decide)
 have NX : Hid (x0 = kCoupon ∧ n = 2) := by rw [HX0.out, HN.out]; exact hw
 clear hx0 hn hw
 clear hcw
 go_upto_region 2 with fail
 go_cut [27] from 28 to 36 (fun t_ wx => t_ = .bool false ∧ wx = w1)
 case first =>
   by_cases q0 : x0 = kAdd
   · have e0 : (x0 == [97, 100, 100]) = true := beq_iff_eq.2 q0
     by_cases q1 : n = 3
     · have e1 : (n == 3) = true := beq_iff_eq.2 q1
       have e2 : ((n : Int) == 3) = true := beq_iff_eq.2 (by omega)
       exact absurd ⟨q0, q1⟩ NA.out
     · have e1 : (n == 3) = false := beq_eq_false_iff_ne.2 q1
       have e2 : ((n : Int) == 3) = false := beq_eq_false_iff_ne.2 (by omega)
       clear q0 q1
       go_wp2
       go_meet
       exact ⟨rfl, rfl⟩
   · have e0 : (x0 == [97, 100, 100]) = false := beq_eq_false_iff_ne.2 q0
     clear q0
     go_wp2
     go_meet
     exact ⟨rfl, rfl⟩
 case rest =>
   obtain ⟨rfl, hwc⟩ := hcut
   replace hwc := hwc.symm
   subst hwc
   go_upto_region 7 with fail
   go_cut [64] from 65 to 73 (fun t_ wx => t_ = .bool false ∧ wx = w1)
   case first =>
     by_cases q0 : x0 = kTake
     · have e0 : (x0 == [116, 97, 107, 101]) = true := beq_iff_eq.2 q0
       by_cases q1 : n = 3
       · have e1 : (n == 3) = true := beq_iff_eq.2 q1
         have e2 : ((n : Int) == 3) = true := beq_iff_eq.2 (by omega)
         exact absurd ⟨q0, q1⟩ NT.out
       · have e1 : (n == 3) = false := beq_eq_false_iff_ne.2 q1
         have e2 : ((n : Int) == 3) = false := beq_eq_false_iff_ne.2 (by omega)
         clear q0 q1
         go_wp2
         go_meet
         exact ⟨rfl, rfl⟩
     · have e0 : (x0 == [116, 97, 107, 101]) = false := beq_eq_false_iff_ne.2 q0
       clear q0
       go_wp2
       go_meet
       exact ⟨rfl, rfl⟩
   case rest =>
     obtain ⟨rfl, hwc⟩ := hcut
     replace hwc := hwc.symm
     subst hwc
     go_upto_region 12 with fail
     go_cut [101] from 102 to 110 (fun t_ wx => t_ = .bool false ∧ wx = w1)
     case first =>
       by_cases q0 : x0 = kRule
       · have e0 : (x0 == [114, 117, 108, 101]) = true := beq_iff_eq.2 q0
         by_cases q1 : 5 < T.length
         · have e1 : decide (5 < T.length) = true := by simp [q1]
           have e2 : decide (5 < (T.length : Int)) = true := by simp; omega
           exact absurd ⟨q0, q1⟩ NR.out
         · have e1 : decide (5 < T.length) = false := by simp [q1]
           have e2 : decide (5 < (T.length : Int)) = false := by simp; omega
           clear q0 q1
           go_wp2
           go_meet
           exact ⟨rfl, rfl⟩
       · have e0 : (x0 == [114, 117, 108, 101]) = false := beq_eq_false_iff_ne.2 q0
         clear q0
         go_wp2
         go_meet
         exact ⟨rfl, rfl⟩
     case rest =>
       obtain ⟨rfl, hwc⟩ := hcut
       replace hwc := hwc.symm
       subst hwc
       go_upto_region 19 with fail
       go_cut [138] from 139 to 147 (fun t_ wx => t_ = .bool true ∧ wx = w1)
       case first =>
         by_cases q0 : x0 = kCoupon
         · have e0 : (x0 == [99, 111, 117, 112, 111, 110]) = true := beq_iff_eq.2 q0
           by_cases q1 : n = 2
           · have e1 : (n == 2) = true := beq_iff_eq.2 q1
             have e2 : ((n : Int) == 2) = true := beq_iff_eq.2 (by omega)
             clear q0 q1
             go_wp2
             go_meet
             exact ⟨rfl, rfl⟩
           · have e1 : (n == 2) = false := beq_eq_false_iff_ne.2 q1
             have e2 : ((n : Int) == 2) = false := beq_eq_false_iff_ne.2 (by omega)
             exact absurd NX.out.2 q1
         · have e0 : (x0 == [99, 111, 117, 112, 111, 110]) = false := beq_eq_false_iff_ne.2 q0
           exact absurd NX.out.1 q0
       case rest =>
         obtain ⟨rfl, hwc⟩ := hcut
         replace hwc := hwc.symm
         subst hwc
         obtain ⟨u, v, z, y, hb, sv⟩ := HS1.out
         have hb1 := sv.lt
         obtain ⟨l, hrl, hry, _, _⟩ := sv.r
         have hok := sv.ok.rs
         rw [← hrl] at hok
         have hcv := sv.ok.c
         have hcp := sv.ok.cp
         have hsS := sv.s
         have hsC := sv.c
         have hsQ := sv.q
         obtain ⟨yo, ycap, rfl, _⟩ := hry.open
         obtain ⟨so, scap, rfl, _⟩ := sv.s.arts (l := shopS)
         obtain ⟨co, ccap, rfl, _⟩ := sv.c.pairs
         obtain ⟨zo, zcap, rfl, _⟩ := sv.q.ints
         obtain ⟨⟨d00, d1, d2, d3⟩, _⟩ := row4 hb
         have d0 : w1.cell? ⟨b, 0, none⟩ = some (.slice so 4 scap) := d00
         clear d00
         have hx1l := lnW_len T 1
         have g1 := HCW.out 1 (by have := NX.out.2; omega)
         obtain ⟨x1, hx1⟩ : ∃ x1, x1 = lnW T 1 := ⟨_, rfl⟩
         rw [← hx1] at g1 hx1l fin
         have hn4 : (1 : Int) < (n : Int) := by have := NX.out.2; omega
         have hn6 : 1 < n := by have := NX.out.2; omega
         have k1 := wordNumber_any x1 _ w1 HE1.out (by omega)
         obtain ⟨cn, hcn⟩ : ∃ cn, cn = pI x1 := ⟨_, rfl⟩
         rw [← hcn] at k1 fin
         have K1 := Lib.hid k1
         have HZC := Lib.hid hsQ
         have HBH := Lib.hid hb
         have SV1 := Lib.hid sv
         have hl3 := (cpnQ_pr hcp).2
         have HCP := Lib.hid hcp
         clear k1 hcn hx1 hx1l hcv hsS hsC hsQ hry hrl hok sv hb d0 d1 d3 hcp
         cases hw : wi cn 1 9
         · have HW := Lib.hid hw
           have fin2 := Lib.hid (fin.out.trans (coupon_no (S := S) (cpY_wi (l := S.cp) hw)))
           clear hw
           go_wp2_with (first
             | (go_at_call 30; refine K1.out.mono ?_; rintro e w2 ⟨rfl, x2⟩; have X2 := Lib.hid x2; have hb2 : b < w2.heap.size := Nat.lt_of_lt_of_le hb1 x2.size; have q2 := (x2.cell (p := ⟨b, 2, none⟩) hb1).trans d2; clear x2)
             | (go_at_call 35; refine (within_any cn 1 9 _).mono ?_; rintro e w9 ⟨rfl, h9⟩; replace h9 := h9.symm; subst h9; rw [HW.out]))
           go_ret
           exact ⟨by rw [fin2.out]; rfl, by rw [fin2.out]; exact HS1.out.below X2.out (Nat.le_refl _), grownBy_of_below (X1.out.trans (X2.out.mono X1.out.size))⟩
         · have HW := Lib.hid hw
           cases hq : hasQ S.cp cn
           · have HQ := Lib.hid hq
             by_cases h3 : S.cp.length = 3
             · have e5 : (S.cp.length == 3) = true := beq_iff_eq.2 h3
               have e6 : ((S.cp.length : Int) == 3) = true := beq_iff_eq.2 (by omega)
               have fin2 := Lib.hid (fin.out.trans (coupon_no (S := S) (n := cn) (cpY_three (l := S.cp) h3)))
               clear hw hq h3
               go_wp2_with (first
                 | (go_at_call 30; refine K1.out.mono ?_; rintro e w2 ⟨rfl, x2⟩; have X2 := Lib.hid x2; have hb2 : b < w2.heap.size := Nat.lt_of_lt_of_le hb1 x2.size; have q2 := (x2.cell (p := ⟨b, 2, none⟩) hb1).trans d2; clear x2)
                 | (go_at_call 35; refine (within_any cn 1 9 _).mono ?_; rintro e w9 ⟨rfl, h9⟩; replace h9 := h9.symm; subst h9; rw [HW.out])
                 | (go_at_call 36; refine (hasNumber_any S.cp _ cn _ (HZC.out.below X2.out (Nat.le_refl _))).mono ?_; rintro e w9 ⟨rfl, h9⟩; replace h9 := h9.symm; subst h9; rw [HQ.out]))
               go_ret
               exact ⟨by rw [fin2.out]; rfl, by rw [fin2.out]; exact HS1.out.below X2.out (Nat.le_refl _), grownBy_of_below (X1.out.trans (X2.out.mono X1.out.size))⟩
             · have e5 : (S.cp.length == 3) = false := beq_eq_false_iff_ne.2 h3
               have e6 : ((S.cp.length : Int) == 3) = false := beq_eq_false_iff_ne.2 (by omega)
               have fin2 := Lib.hid (fin.out.trans (coupon_yes (S := S) (cpY_yes (l := S.cp) hw hq h3)))
               have hcnt := cpL_count HCP.out (by rw [wi_true] at hw; exact hw) hq
               have HOKC := Lib.hid (cpL_ok (l := S.cp) (n := cn) (by omega))
               obtain ⟨i0, hi, hz0, hz1, hz2⟩ := info_parts Tryz.info3z
               have HI := Lib.hid hi
               have HZ0 := Lib.hid hz0
               have HZ1 := Lib.hid hz1
               have HZ2 := Lib.hid hz2
               have HZI := Lib.hid hz1
               clear hw hq h3 hcnt hi hz0 hz1 hz2
               go_upto_region 24 with (first
                 | (go_at_call 30; refine K1.out.mono ?_; rintro e w2 ⟨rfl, x2⟩; have X2 := Lib.hid x2; have hb2 : b < w2.heap.size := Nat.lt_of_lt_of_le hb1 x2.size; have q2 := (x2.cell (p := ⟨b, 2, none⟩) hb1).trans d2; clear x2)
                 | (go_at_call 35; refine (within_any cn 1 9 _).mono ?_; rintro e w9 ⟨rfl, h9⟩; replace h9 := h9.symm; subst h9; rw [HW.out])
                 | (go_at_call 36; refine (hasNumber_any S.cp _ cn _ (HZC.out.below X2.out (Nat.le_refl _))).mono ?_; rintro e w9 ⟨rfl, h9⟩; replace h9 := h9.symm; subst h9; rw [HQ.out]))
               have HZQ := Lib.hid (HZC.out.below X2.out (Nat.le_refl _))
               have CQ := Lib.hid q2
               have hb0 : b < w2.heap.size := hb2
               have HB2 := Lib.hid ((X2.out.block b hb1).trans HBH.out)
               have O0 := Lib.hid (World.ownsRow_made w2 #[] 0 (Nat.le_refl _) (by simp) (by simp) : (w2.alloc (.cells #[] 3)).ownsRow w2.heap.size 3 1 (.slice (some ⟨w2.heap.size, 0, none⟩) 0 0) 0 (it []))
               have B0 : Hid (Below w2.heap.size w2 (w2.alloc (.cells #[] 3))) := (Below.refl _ w2).alloc (Nat.le_refl _) _
               clear q2
               go_wp2
               go_loopw [14, 15] (fun o_ c_ wr => ∃ k : Nat, k ≤ 9 ∧ c_ = .int .i64 ((k : Int) + 1) ∧ Hid (wr.ownsRow w2.heap.size 3 1 o_ (cpK S.cp cn k).length (it (cpK S.cp cn k))) ∧ Below w2.heap.size w2 wr) (fun _ c_ _ => 10 - (intOf c_).toNat)
               case atStart => exact ⟨0, Nat.zero_le _, rfl, O0, B0.out⟩
               case round =>
                 obtain ⟨k, hk, rfl, O, hbl⟩ := hrel
                 have hlen := cpK_len S.cp cn k
                 have hbw : b < wr.heap.size := Nat.lt_of_lt_of_le hb0 hbl.size
                 have cq := (hbl.cell (p := ⟨b, 2, none⟩) hb0).trans CQ.out
                 obtain ⟨lo, lcap, hlo, _⟩ := owns_shape O.out
                 subst hlo
                 by_cases hlt : k < 9
                 · have hle : decide ((k : Int) + 1 ≤ 9) = true := by simp; omega
                   have ew : IntKind.i64.wrap ((k : Int) + 1 + 1) = (k : Int) + 1 + 1 := IntWalk.i64_in _ (by omega)
                   have ez : ((k + 1 : Nat) : Int) = (k : Int) + 1 := by omega
                   by_cases he : ((k + 1 : Nat) : Int) = cn
                   · have heb : ((k : Int) + 1 == cn) = true := by rw [beq_iff_eq]; omega
                     have HNX := Lib.hid (cpK_yes (l := S.cp) (n := cn) (k := k) (.inl he))
                     rw [ez] at HNX
                     clear he hlen ez
                     go_wp2_with (at_builtin; refine app_int rfl (.tmp 187) (.tmp 189) 34 rfl w2.heap.size 3 _ i0 _ Tryz.underlying34 HI.out HZ0.out HZ1.out HZ2.out rfl _ (cpK S.cp cn k) ((k : Int) + 1) rfl O.out rfl (by have h9 := cpK_len S.cp cn k; omega) hbl.size ?_; intro v1 w3 ho3 hg3; have B3 := Lib.hid (below_row (hbl.alloc hbl.size _) hg3 (fun k hk => (O.out.lt k hk).1)); rw [← HNX.out] at ho3; have O3 := Lib.hid ho3; clear ho3 hg3)
                     go_roundw
                     case rel => exact ⟨k + 1, by omega, by go_num, O3, B3.out⟩
                     case measure => simp [intOf]; omega
                   · have heb : ((k : Int) + 1 == cn) = false := by rw [beq_eq_false_iff_ne]; omega
                     cases hq : hasQ S.cp ((k + 1 : Nat) : Int)
                     · have HNX := Lib.hid (cpK_no (l := S.cp) (n := cn) (k := k) (fun h => h.elim he (fun h => by rw [hq] at h; cases h)))
                       have HQ := Lib.hid hq
                       rw [ez] at HQ
                       clear he hlen ez hq
                       go_wp2_with (go_at_call 36; refine (hasNumber_any S.cp _ ((k : Int) + 1) _ (HZQ.out.below hbl (Nat.le_refl _))).mono ?_; rintro e w9 ⟨rfl, h9⟩; replace h9 := h9.symm; subst h9; rw [HQ.out])
                       go_roundw
                       case rel => exact ⟨k + 1, by omega, by go_num, by rw [HNX.out]; exact O, hbl⟩
                       case measure => simp [intOf]; omega
                     · have HNX := Lib.hid (cpK_yes (l := S.cp) (n := cn) (k := k) (.inr hq))
                       have HQ := Lib.hid hq
                       rw [ez] at HQ HNX
                       clear he hlen ez hq
                       go_wp2_with (first
                         | (go_at_call 36; refine (hasNumber_any S.cp _ ((k : Int) + 1) _ (HZQ.out.below hbl (Nat.le_refl _))).mono ?_; rintro e w9 ⟨rfl, h9⟩; replace h9 := h9.symm; subst h9; rw [HQ.out])
                         | (at_builtin; refine app_int rfl (.tmp 187) (.tmp 189) 34 rfl w2.heap.size 3 _ i0 _ Tryz.underlying34 HI.out HZ0.out HZ1.out HZ2.out rfl _ (cpK S.cp cn k) ((k : Int) + 1) rfl O.out rfl (by have h9 := cpK_len S.cp cn k; omega) hbl.size ?_; intro v1 w3 ho3 hg3; have B3 := Lib.hid (below_row (hbl.alloc hbl.size _) hg3 (fun k hk => (O.out.lt k hk).1)); rw [← HNX.out] at ho3; have O3 := Lib.hid ho3; clear ho3 hg3))
                       go_roundw
                       case rel => exact ⟨k + 1, by omega, by go_num, O3, B3.out⟩
                       case measure => simp [intOf]; omega
                 · have hk9 : k = 9 := by omega
                   subst hk9
                   have O9 : Hid (wr.ownsRow w2.heap.size 3 1 (.slice lo (cpL S.cp cn).length lcap) (cpL S.cp cn).length (it (cpL S.cp cn))) := O
                   have hll : (cpK S.cp cn 9).length = (cpL S.cp cn).length := rfl
                   rw [hll]
                   obtain ⟨cl, hcl⟩ : ∃ cl, cl = cpL S.cp cn := ⟨_, rfl⟩
                   rw [← hcl] at O9 ⊢
                   have HCL := Lib.hid hcl
                   clear O hlen hll hcl
                   have hle : decide (((9 : Nat) : Int) + 1 ≤ 9) = false := by decide
                   have RL := Lib.hid (Rd.of_owns O9.out)
                   have OF := Lib.hid (Off.of_owns O9.out hb0)
                   have HOK2 : Hid (cpnQ cl = true) := by rw [Hid, HCL.out]; exact HOKC.out
                   rw [← HCL.out] at fin2
                   obtain ⟨⟨g0, g1', g2, g3⟩, q0, q1, q2, q3⟩ := row4 ((hbl.block b hb0).trans HB2.out)
                   go_wp2
                   go_ret
                   exact ⟨by rw [fin2.out]; rfl, by rw [fin2.out]; exact ⟨_, _, _, _, SesI.set2 ((hbl.block b hb0).trans HB2.out), ((SV1.out.below (X2.out.trans (hbl.mono X2.out.size)) (Nat.le_refl _)).grown (grown_set _ b 2 _)).coupons (RL.out.grown (grown_set _ b 2 _) OF.out) OF.out HOK2.out⟩, grownBy_trans (grownBy_of_below (X1.out.trans ((X2.out.trans (hbl.mono X2.out.size)).mono X1.out.size))) (grown_set _ b 2 _)⟩
           · have HQ := Lib.hid hq
             have fin2 := Lib.hid (fin.out.trans (coupon_no (S := S) (cpY_has (l := S.cp) hq)))
             clear hw hq
             go_wp2_with (first
               | (go_at_call 30; refine K1.out.mono ?_; rintro e w2 ⟨rfl, x2⟩; have X2 := Lib.hid x2; have hb2 : b < w2.heap.size := Nat.lt_of_lt_of_le hb1 x2.size; have q2 := (x2.cell (p := ⟨b, 2, none⟩) hb1).trans d2; clear x2)
               | (go_at_call 35; refine (within_any cn 1 9 _).mono ?_; rintro e w9 ⟨rfl, h9⟩; replace h9 := h9.symm; subst h9; rw [HW.out])
               | (go_at_call 36; refine (hasNumber_any S.cp _ cn _ (HZC.out.below X2.out (Nat.le_refl _))).mono ?_; rintro e w9 ⟨rfl, h9⟩; replace h9 := h9.symm; subst h9; rw [HQ.out]))
             go_ret
             exact ⟨by rw [fin2.out]; rfl, by rw [fin2.out]; exact HS1.out.below X2.out (Nat.le_refl _), grownBy_of_below (X1.out.trans (X2.out.mono X1.out.size))⟩
end Go.Proofs.YtijofgaekmahkaaGreatDoor

namespace Go.Proofs.YtijofgaekmahkaaGreatDoor
open Go.RowKit
def StN (B : Nat) (w : World) (n0 : Nat) (v : Value) (l : List (List UInt8)) : Prop := (v = .slice (some ⟨n0, 0, none⟩) 0 0 ∧ l = []) ∨ w.ownsRow B 9 1 v l.length (sw l)
theorem StN.shape {B n0 : Nat} {w : World} {v : Value} {l : List (List UInt8)} (h : StN B w n0 v l) : ∃ ao cap, v = .slice ao l.length cap := by
 rcases h with ⟨rfl, rfl⟩ | h
 · exact ⟨_, 0, rfl⟩
 · obtain ⟨ao, cap, e, _⟩ := owns_shape h
   exact ⟨ao, cap, e⟩
theorem StN.below {B C n0 : Nat} {w w' : World} {v : Value} {l : List (List UInt8)} (h : StN B w n0 v l) (hb : Below C w w') (hC : w.heap.size ≤ C) : StN B w' n0 v l := by
 rcases h with h | h
 · exact .inl h
 · exact .inr (ownsRow_below h hb hC)
theorem run_st (B n0 : Nat) (w : World) (ty : TypeId) (v : Value) (l : List (List UInt8)) (x : List UInt8) (g : Nat) (h : StN B w n0 v l) (hB : B ≤ w.heap.size) (hx : w.cell? ⟨g, 0, none⟩ = some (.string ⟨x.toArray⟩)) (hlen : l.length ≤ 1000) :
   ∃ v' w', (Builtin.append_ #[23, 23] ty #[v, .slice (some ⟨g, 0, none⟩) 1 1]).run Tryz.prog w = .ok v' w' ∧ StN B w' n0 v' (l ++ [x]) ∧ Below B w w' ∧ ∀ i, i < w.heap.size → (∀ k, v.ownBlock = some k → i ≠ k) → w'.heap[i]? = w.heap[i]? := by
 obtain ⟨i0, hi, hz0, hz1, hz2⟩ := info_parts infoStr
 have hnews := one_atZ hx
 rcases h with ⟨rfl, rfl⟩ | h
 · obtain ⟨v', w', h1, h2, h3⟩ := run_append_zero (P := Tryz.prog) w 23 ty 9 i0 _ 1 16 Tryz.underlying23 hi hz0 hz1 hz2 rfl (by decide) n0 ⟨g, 0, none⟩ 1 1 [.string ⟨x.toArray⟩] rfl hnews (by simp [Value.oneCell']) (by decide) (by decide)
   refine ⟨v', w', h1, ?_, h2.mono hB, fun i hi _ => h2.block i hi⟩
   rcases h3 with ⟨h4, _⟩ | ⟨_, h4⟩
   · cases h4
   · exact .inr (owns_base h4 hB)
 · obtain ⟨v', w', h1, h2, h3, _⟩ := run_append_near (P := Tryz.prog) w B 23 ty 9 i0 _ 1 16 Tryz.underlying23 hi hz0 hz1 hz2 rfl (by decide) v l.length (sw l) h ⟨g, 0, none⟩ 1 1 [.string ⟨x.toArray⟩] rfl hnews (by simp [Value.oneCell']) (by unfold maxLen; omega) (by omega) hB
   refine ⟨v', w', h1, .inr ?_, (Below.refl B w).grown h3 hB (fun k hk => (h.lt k hk).1), fun i hi hne => h3.block i hi (fun e => hne i e.symm rfl)⟩
   rw [List.length_append, sw_append]
   exact h2
theorem step_st {ops : Array Oper} {o : Oper} {a : Act} {w : World} {K : Act → World → Prop} {Q : Exit → Act → World → Prop} {E : Prop} (hgd : o.guard = none) (s x : Operand)
   (ho : o.op = .call { callee := .builtin .append, args := #[s, x], argTypes := #[23, 23] }) (B n0 : Nat) (W0 : World) (v : Value) (l : List (List UInt8)) (X : List UInt8) (g : Nat) (hs : a.eval s = v) (hx : a.eval x = .slice (some ⟨g, 0, none⟩) 1 1) (h : StN B w n0 v l) (hb : Below W0.heap.size W0 w) (hB : B ≤ W0.heap.size) (hc : w.cell? ⟨g, 0, none⟩ = some (.string ⟨X.toArray⟩)) (hlen : l.length ≤ 1000)
   (hk : ∀ v' w', StN B w' n0 v' (l ++ [X]) → Below B W0 w' → (∀ i, i < W0.heap.size → (∀ k, v.ownBlock = some k → i ≠ k) → w'.heap[i]? = W0.heap[i]?) → K (a.put o.dst v') w') : if Region.wanted o (yielded ops a.tmps) = true then Oper.wp Tryz.prog o a w K Q else E := by
 have hw : Region.wanted o (yielded ops a.tmps) = true := by simp [Region.wanted, hgd]
 rw [if_pos hw]
 obtain ⟨v', w', hrn, h2, h3, h4⟩ := run_st B n0 w o.type v l X g h (Nat.le_trans hB hb.size) hc hlen
 unfold Oper.wp execOp
 simp only [ho, resolve, invoke, builtin, Sem.run_bind, Sem.run_pure, Result.andThen_ok, List.map_toArray, List.map_cons, List.map_nil, hs, hx, hrn]
 exact hk v' w' h2 ((hb.mono hB).trans h3) (fun i hi hne => (h4 i (Nat.lt_of_lt_of_le hi hb.size) hne).trans (hb.block i hi))
theorem joinS_any (B n0 : Nat) (v : Value) (ws : List (List UInt8)) (W : World) (h : StN B W n0 v ws) (hn : ws.length ≤ 1000) (hl : (jn ws).length ≤ 100000) :
   Calls Tryz.prog 41 #[v, .string ⟨#[59]⟩] W fun e w' => e = .returned (.string ⟨(jn ws).toArray⟩) ∧ Below W.heap.size W w' := by
 have hj : Lib.join ((ws.map fun x => (⟨x.toArray⟩ : ByteArray)).map (·.data.toList)) (⟨#[59]⟩ : ByteArray).data.toList = jn ws := by
   rw [List.map_map]
   have : ((fun x : ByteArray => x.data.toList) ∘ fun x : List UInt8 => (⟨x.toArray⟩ : ByteArray)) = id := rfl
   rw [this, List.map_id]
   rfl
 have hlm : (ws.map fun x => (⟨x.toArray⟩ : ByteArray)).length = ws.length := List.length_map _
 rcases h with ⟨rfl, rfl⟩ | ho
 · exact (Tryz.strings_Join_none _ 0 ⟨#[59]⟩ W).mono fun e w' h => ⟨by rw [h.1]; rfl, by rw [h.2]; exact Below.refl _ _⟩
 · rcases ho.2 with ⟨rfl, h0⟩ | ⟨g, cap, cur, rfl, hb, hg, hnc, _⟩
   · have hw0 : ws = [] := List.eq_nil_of_length_eq_zero h0
     subst hw0
     exact (Tryz.strings_Join_none none 0 ⟨#[59]⟩ W).mono fun e w' h => ⟨by rw [h.1]; rfl, by rw [h.2]; exact Below.refl _ _⟩
   · have h := Tryz.strings_Join g 0 cap (ws.map fun x => (⟨x.toArray⟩ : ByteArray)) ⟨#[59]⟩ W (fun j x hx => by
       rw [List.getElem?_map] at hx
       obtain ⟨y, hy, rfl⟩ := Option.map_eq_some_iff.1 hx
       rw [Nat.zero_add]
       exact sw_cell ho j y hy) (ho.lt g rfl).2 (by rw [hlm]; omega) (by rw [hlm]; exact hnc) (by rw [hj]; omega)
     rw [hlm, hj] at h
     exact h
end Go.Proofs.YtijofgaekmahkaaGreatDoor
