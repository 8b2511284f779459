/- Joined texts: Walks: a line of a session in the program: add, take. Walk: a line of a session in the program: a rule. Conditions: none. -/
import Derived.Test.YtijofgaekmahkaaGreatDoorM34
namespace Go.Proofs.YtijofgaekmahkaaGreatDoor
open Go.RowKit
set_option maxHeartbeats 8000000 in
set_option maxRecDepth 100000 in
theorem runLine_add (b B : Nat) (S : Se) (T : List UInt8) (w : World) (h0 : SesI w b S) (hE : EnvB B w) (hB : B ≤ b) (hl : T.length ≤ 2000000) (hw : lnW T 0 = kAdd ∧ lnN T = 3) :
   Calls Tryz.prog 22 #[.pointer (some ⟨b, 0, none⟩), .string ⟨T.toArray⟩] w (LineI b S T w) := by
 have fin : Hid (stepS S T = stepC S (.add (pI (lnW T 1)) (pI (lnW T 2)))) := by rw [Hid, stepS, cmdT_add hw]
 have HS := Lib.hid h0
 have hb0 : b < w.heap.size := by obtain ⟨_, _, _, _, _, sv⟩ := h0; exact sv.lt
 have HE := Lib.hid (hE.upTo (C := w.heap.size) (by omega))
 have hsz : (⟨T.toArray⟩ : ByteArray).size = T.length := by simp [ByteArray.size]
 have hn1 := List.length_pos_iff.2 (spl_ne 32 T)
 have sp := split_any T w hE.p (by omega)
 rw [words_spl _ T (Nat.le_refl _)] at sp
 obtain ⟨gw, hgwe⟩ : ∃ gw, gw = w.heap.size := ⟨_, rfl⟩
 rw [← hgwe] at sp
 have SP := Lib.hid sp
 have hgb : gw ≠ b := by omega
 have HGW := Lib.hid hgwe

 clear h0 hE hB sp hgwe
 unfold LineI
 go_enter Tryz.func22, Tryz.ntmps22
 go_upto_region 2 with (go_at_call 28; refine SP.out.mono ?_; rintro e w1 ⟨rfl, hc, hgw, x1⟩; rw [HGW.out] at x1; have X1 := Lib.hid x1; have HC := Lib.hid hc; clear hc x1)
 have hcw : ∀ k, k < (spl 32 T).length → w1.cell? ⟨gw, k, none⟩ = some (.string ⟨(lnW T k).toArray⟩) := fun k hk => HC.out k _ (by unfold lnW; rw [List.getD_eq_getElem?_getD, List.getElem?_eq_getElem hk]; rfl)
 have HS1 := Lib.hid (HS.out.below X1.out (Nat.le_refl _))
 have HE1 := Lib.hid ((HE.out.below X1.out).upTo X1.out.size)
 have HCW := Lib.hid hcw
 have c0 := hcw 0 hn1
 obtain ⟨x0, hx0⟩ : ∃ x0, x0 = lnW T 0 := ⟨_, rfl⟩
 obtain ⟨n, hn⟩ : ∃ n, n = (spl 32 T).length := ⟨_, rfl⟩
 rw [← hx0] at c0
 have HX0 := Lib.hid hx0
 have HN := Lib.hid hn
 rw [← hn] at hn1 hcw HCW ⊢
 have hn0 : (0 : Int) < (n : Int) := by omega
 have NX : Hid (x0 = kAdd ∧ n = 3) := by rw [HX0.out, HN.out]; exact hw
 clear hx0 hn hw
 clear hcw
 go_upto_region 2 with fail
 go_cut [27] from 28 to 36 (fun t_ wx => t_ = .bool true ∧ wx = w1)
 case first =>
   by_cases q0 : x0 = kAdd
   · have e0 : (x0 == [97, 100, 100]) = true := beq_iff_eq.2 q0
     by_cases q1 : n = 3
     · have e1 : (n == 3) = true := beq_iff_eq.2 q1
       have e2 : ((n : Int) == 3) = true := beq_iff_eq.2 (by omega)
       clear q0 q1
       go_wp2
       go_meet
       exact ⟨rfl, rfl⟩
     · have e1 : (n == 3) = false := beq_eq_false_iff_ne.2 q1
       have e2 : ((n : Int) == 3) = false := beq_eq_false_iff_ne.2 (by omega)
       exact absurd NX.out.2 q1
   · have e0 : (x0 == [97, 100, 100]) = false := beq_eq_false_iff_ne.2 q0
     exact absurd NX.out.1 q0
 case rest =>
   obtain ⟨rfl, hwc⟩ := hcut
   replace hwc := hwc.symm
   subst hwc
   obtain ⟨u, v, z, y, hb, sv⟩ := HS1.out
   have hb1 := sv.lt
   obtain ⟨l, hrl, hry, _, _⟩ := sv.r
   have hok := sv.ok.rs
   rw [← hrl] at hok
   have hcv := sv.ok.c
   have hcp := sv.ok.cp
   have hsS := sv.s
   have hsC := sv.c
   have hsQ := sv.q
   obtain ⟨yo, ycap, rfl, _⟩ := hry.open
   obtain ⟨so, scap, rfl, _⟩ := sv.s.arts (l := shopS)
   obtain ⟨co, ccap, rfl, _⟩ := sv.c.pairs
   obtain ⟨zo, zcap, rfl, _⟩ := sv.q.ints
   obtain ⟨⟨d00, d1, d2, d3⟩, _⟩ := row4 hb
   have d0 : w1.cell? ⟨b, 0, none⟩ = some (.slice so 4 scap) := d00
   clear d00
   have hx1l := lnW_len T 1
   have hx2l := lnW_len T 2
   have g1 := HCW.out 1 (by have := NX.out.2; omega)
   have g2 := HCW.out 2 (by have := NX.out.2; omega)
   obtain ⟨x1, hx1⟩ : ∃ x1, x1 = lnW T 1 := ⟨_, rfl⟩
   obtain ⟨x2, hx2⟩ : ∃ x2, x2 = lnW T 2 := ⟨_, rfl⟩
   rw [← hx1] at g1 hx1l fin
   rw [← hx2] at g2 hx2l fin
   have hn3 : (2 : Int) < (n : Int) := by have := NX.out.2; omega
   have hn4 : (1 : Int) < (n : Int) := by have := NX.out.2; omega
   have hn5 : 2 < n := by have := NX.out.2; omega
   have hn6 : 1 < n := by have := NX.out.2; omega
   have K1 : Hid (∀ W', Below w1.heap.size w1 W' → Calls Tryz.prog 30 #[.string ⟨x1.toArray⟩] W' fun e w' => e = .returned (.int .i64 (pI x1)) ∧ Below w1.heap.size w1 w') := fun W' hW => (wordNumber_any x1 _ W' (HE1.out.below hW) (by omega)).mono fun e w' h => ⟨h.1, hW.trans (h.2.mono hW.size)⟩
   have K2 : Hid (∀ W', Below w1.heap.size w1 W' → Calls Tryz.prog 30 #[.string ⟨x2.toArray⟩] W' fun e w' => e = .returned (.int .i64 (pI x2)) ∧ Below w1.heap.size w1 w') := fun W' hW => (wordNumber_any x2 _ W' (HE1.out.below hW) (by omega)).mono fun e w' h => ⟨h.1, hW.trans (h.2.mono hW.size)⟩
   have KD : Hid (∀ W', Below w1.heap.size w1 W' → Calls Tryz.prog 29 #[.slice so 4 scap, .slice co S.c.length ccap, .int .i64 (pI x1), .int .i64 (pI x2)] W' fun e w' => ∃ (ao : Option Addr) (m k : Nat), e = .returned (.tuple #[.slice ao m k, .bool (addOk shopS S.c (pI x1) (pI x2))]) ∧ Below w1.heap.size w1 w' ∧ (addOk shopS S.c (pI x1) (pI x2) = true → m = (addL S.c (pI x1) (pI x2)).length ∧ Rd w' 2 (.slice ao m k) m (pr (addL S.c (pI x1) (pI x2))) ∧ Off b (.slice ao m k))) := fun W' hW => by
     refine (implAdd_any shopS _ S.c _ (pI x1) (pI x2) W' (hsS.below hW (Nat.le_refl _)) (hsC.below hW (Nat.le_refl _))).mono ?_
     rintro e w' ⟨v9, rfl, h9, x9⟩
     obtain ⟨vo, vc, hv9, _⟩ := owns_shape h9
     subst hv9
     refine ⟨vo, _, vc, rfl, hW.trans (x9.mono hW.size), fun hk => ?_⟩
     have e9 := addR_yes hk
     rw [e9] at h9 ⊢
     exact ⟨rfl, Rd.of_owns h9, Off.of_owns h9 (Nat.lt_of_lt_of_le hb1 hW.size)⟩
   have KP := Lib.hid (show ∀ w' : World, Below w1.heap.size w1 w' → w'.cell? ⟨gw, 1, none⟩ = some (.string ⟨x1.toArray⟩) ∧ w'.cell? ⟨gw, 2, none⟩ = some (.string ⟨x2.toArray⟩) ∧ w'.cell? ⟨b, 0, none⟩ = some (.slice so 4 scap) ∧ w'.cell? ⟨b, 1, none⟩ = some (.slice co S.c.length ccap) from fun w' h => ⟨(h.cell (p := ⟨gw, 1, none⟩) hgw).trans g1, (h.cell (p := ⟨gw, 2, none⟩) hgw).trans g2, (h.cell (p := ⟨b, 0, none⟩) hb1).trans d0, (h.cell (p := ⟨b, 1, none⟩) hb1).trans d1⟩)
   have B0 : Below w1.heap.size w1 w1.drew := (Below.refl _ w1).drew
   have SV1 := Lib.hid sv
   have HBH := Lib.hid hb
   clear hx1 hx2 hx1l hx2l hcv hcp hsS hsC hsQ hry hrl hok sv hb d2 d3
   go_upto_region 3 with fail
   go_cut [6, 7] from 37 to 56 (fun c_ ok_ wx => ∃ (ao : Option Addr) (m k : Nat), c_ = .slice ao m k ∧ ok_ = .bool (addOk shopS S.c (pI x1) (pI x2)) ∧ Below w1.heap.size w1 wx ∧ (addOk shopS S.c (pI x1) (pI x2) = true → m = (addL S.c (pI x1) (pI x2)).length ∧ Rd wx 2 (.slice ao m k) m (pr (addL S.c (pI x1) (pI x2))) ∧ Off b (.slice ao m k)))
   case first =>
     go_region_held3 (fun w' => w'.cell? ⟨gw, 1, none⟩ = some (.string ⟨x1.toArray⟩) ∧ w'.cell? ⟨gw, 2, none⟩ = some (.string ⟨x2.toArray⟩) ∧ w'.cell? ⟨b, 0, none⟩ = some (.slice so 4 scap) ∧ w'.cell? ⟨b, 1, none⟩ = some (.slice co S.c.length ccap))
       (first
         | assumption
         | exact KP.out _ B0
         | exact KP.out _ y4
         | exact KP.out _ y3
         | exact KP.out _ y2)
       ((first
         | (go_at_call 30; (with_reducible refine (K1.out _ (by assumption)).mono ?_); rintro e w2 ⟨rfl, y2⟩)
         | (go_at_call 30; (with_reducible refine (K2.out _ (by assumption)).mono ?_); rintro e w3 ⟨rfl, y3⟩)
         | (go_at_call 29; (with_reducible refine (KD.out _ (by assumption)).mono ?_); rintro e w4 ⟨ao, m4, k4, rfl, y4, z4⟩)))
     all_goals go_wp2
     all_goals go_meet
     all_goals exact ⟨_, _, _, rfl, rfl, y4, z4⟩
   case rest =>
     obtain ⟨ao, m, k, rfl, rfl, y4, z4⟩ := hcut
     have Y4 := Lib.hid y4
     have HBC := Lib.hid ((y4.block b hb1).trans HBH.out)
     have Z4 := Lib.hid z4
     clear y4 z4
     cases hok : addOk shopS S.c (pI x1) (pI x2)
     · have fin2 := Lib.hid (fin.out.trans (add_no hok))
       clear hok
       go_wp2_with (go_at_call 31; refine (said_any false _).mono ?_; rintro e w5 ⟨rfl, h5⟩; replace h5 := h5.symm; subst h5)
       go_ret
       exact ⟨by rw [fin2.out]; rfl, by rw [fin2.out]; exact HS1.out.below Y4.out (Nat.le_refl _), grownBy_of_below (X1.out.trans (Y4.out.mono X1.out.size))⟩
     · have fin2 := Lib.hid (fin.out.trans (add_yes hok))
       have HCC := Lib.hid (addL_ok hok)
       obtain ⟨rfl, hrd, hoff⟩ := Z4.out hok
       have RD := Lib.hid hrd
       have OF := Lib.hid hoff
       obtain ⟨⟨q0, q1, q2, q3⟩, r0, r1, r2, r3⟩ := row4 HBC.out
       clear hok hrd hoff Z4
       go_wp2_with (go_at_call 31; refine (said_any true _).mono ?_; rintro e w5 ⟨rfl, h5⟩; replace h5 := h5.symm; subst h5)
       go_ret
       exact ⟨by rw [fin2.out]; rfl, by rw [fin2.out]; exact ⟨_, _, _, _, SesI.set1 HBC.out, ((SV1.out.below Y4.out (Nat.le_refl _)).grown (grown_set _ b 1 _)).cart (RD.out.grown (grown_set _ b 1 _) OF.out) OF.out HCC.out⟩, grownBy_trans (grownBy_of_below (X1.out.trans (Y4.out.mono X1.out.size))) (grown_set _ b 1 _)⟩
set_option maxHeartbeats 8000000 in
set_option maxRecDepth 100000 in
theorem runLine_take (b B : Nat) (S : Se) (T : List UInt8) (w : World) (h0 : SesI w b S) (hE : EnvB B w) (hB : B ≤ b) (hl : T.length ≤ 2000000) (hw : lnW T 0 = kTake ∧ lnN T = 3) :
   Calls Tryz.prog 22 #[.pointer (some ⟨b, 0, none⟩), .string ⟨T.toArray⟩] w (LineI b S T w) := by
 have fin : Hid (stepS S T = stepC S (.take (pI (lnW T 1)) (pI (lnW T 2)))) := by rw [Hid, stepS, cmdT_take hw]
 have HS := Lib.hid h0
 have hb0 : b < w.heap.size := by obtain ⟨_, _, _, _, _, sv⟩ := h0; exact sv.lt
 have HE := Lib.hid (hE.upTo (C := w.heap.size) (by omega))
 have hsz : (⟨T.toArray⟩ : ByteArray).size = T.length := by simp [ByteArray.size]
 have hn1 := List.length_pos_iff.2 (spl_ne 32 T)
 have sp := split_any T w hE.p (by omega)
 rw [words_spl _ T (Nat.le_refl _)] at sp
 obtain ⟨gw, hgwe⟩ : ∃ gw, gw = w.heap.size := ⟨_, rfl⟩
 rw [← hgwe] at sp
 have SP := Lib.hid sp
 have hgb : gw ≠ b := by omega
 have HGW := Lib.hid hgwe

 clear h0 hE hB sp hgwe
 unfold LineI
 go_enter Tryz.func22, Tryz.ntmps22
 go_upto_region 2 with (go_at_call 28; refine SP.out.mono ?_; rintro e w1 ⟨rfl, hc, hgw, x1⟩; rw [HGW.out] at x1; have X1 := Lib.hid x1; have HC := Lib.hid hc; clear hc x1)
 have hcw : ∀ k, k < (spl 32 T).length → w1.cell? ⟨gw, k, none⟩ = some (.string ⟨(lnW T k).toArray⟩) := fun k hk => HC.out k _ (by unfold lnW; rw [List.getD_eq_getElem?_getD, List.getElem?_eq_getElem hk]; rfl)
 have HS1 := Lib.hid (HS.out.below X1.out (Nat.le_refl _))
 have HE1 := Lib.hid ((HE.out.below X1.out).upTo X1.out.size)
 have HCW := Lib.hid hcw
 have c0 := hcw 0 hn1
 obtain ⟨x0, hx0⟩ : ∃ x0, x0 = lnW T 0 := ⟨_, rfl⟩
 obtain ⟨n, hn⟩ : ∃ n, n = (spl 32 T).length := ⟨_, rfl⟩
 rw [← hx0] at c0
 have HX0 := Lib.hid hx0
 have HN := Lib.hid hn
 rw [← hn] at hn1 hcw HCW ⊢
 have hn0 : (0 : Int) < (n : Int) := by omega
 have NA : Hid (¬ (x0 = kAdd ∧ n = 3)) := by rw [HX0.out]; exact fun k => absurd (k.1.symm.trans hw.1) (by decide)
 have NX : Hid (x0 = kTake ∧ n = 3) := by rw [HX0.out, HN.out]; exact hw
 clear hx0 hn hw
 clear hcw
 go_upto_region 2 with fail
 go_cut [27] from 28 to 36 (fun t_ wx => t_ = .bool false ∧ wx = w1)
 case first =>
   by_cases q0 : x0 = kAdd
   · have e0 : (x0 == [97, 100, 100]) = true := beq_iff_eq.2 q0
     by_cases q1 : n = 3
     · have e1 : (n == 3) = true := beq_iff_eq.2 q1
       have e2 : ((n : Int) == 3) = true := beq_iff_eq.2 (by omega)
       exact absurd ⟨q0, q1⟩ NA.out
     · have e1 : (n == 3) = false := beq_eq_false_iff_ne.2 q1
       have e2 : ((n : Int) == 3) = false := beq_eq_false_iff_ne.2 (by omega)
       clear q0 q1
       go_wp2
       go_meet
       exact ⟨rfl, rfl⟩
   · have e0 : (x0 == [97, 100, 100]) = false := beq_eq_false_iff_ne.2 q0
     clear q0
     go_wp2
     go_meet
     exact ⟨rfl, rfl⟩
 case rest =>
   obtain ⟨rfl, hwc⟩ := hcut
   replace hwc := hwc.symm
   subst hwc
   go_upto_region 7 with fail
   go_cut [64] from 65 to 73 (fun t_ wx => t_ = .bool true ∧ wx = w1)
   case first =>
     by_cases q0 : x0 = kTake
     · have e0 : (x0 == [116, 97, 107, 101]) = true := beq_iff_eq.2 q0
       by_cases q1 : n = 3
       · have e1 : (n == 3) = true := beq_iff_eq.2 q1
         have e2 : ((n : Int) == 3) = true := beq_iff_eq.2 (by omega)
         clear q0 q1
         go_wp2
         go_meet
         exact ⟨rfl, rfl⟩
       · have e1 : (n == 3) = false := beq_eq_false_iff_ne.2 q1
         have e2 : ((n : Int) == 3) = false := beq_eq_false_iff_ne.2 (by omega)
         exact absurd NX.out.2 q1
     · have e0 : (x0 == [116, 97, 107, 101]) = false := beq_eq_false_iff_ne.2 q0
       exact absurd NX.out.1 q0
   case rest =>
     obtain ⟨rfl, hwc⟩ := hcut
     replace hwc := hwc.symm
     subst hwc
     obtain ⟨u, v, z, y, hb, sv⟩ := HS1.out
     have hb1 := sv.lt
     obtain ⟨l, hrl, hry, _, _⟩ := sv.r
     have hok := sv.ok.rs
     rw [← hrl] at hok
     have hcv := sv.ok.c
     have hcp := sv.ok.cp
     have hsS := sv.s
     have hsC := sv.c
     have hsQ := sv.q
     obtain ⟨yo, ycap, rfl, _⟩ := hry.open
     obtain ⟨so, scap, rfl, _⟩ := sv.s.arts (l := shopS)
     obtain ⟨co, ccap, rfl, _⟩ := sv.c.pairs
     obtain ⟨zo, zcap, rfl, _⟩ := sv.q.ints
     obtain ⟨⟨d00, d1, d2, d3⟩, _⟩ := row4 hb
     have d0 : w1.cell? ⟨b, 0, none⟩ = some (.slice so 4 scap) := d00
     clear d00
     have hx1l := lnW_len T 1
     have hx2l := lnW_len T 2
     have g1 := HCW.out 1 (by have := NX.out.2; omega)
     have g2 := HCW.out 2 (by have := NX.out.2; omega)
     obtain ⟨x1, hx1⟩ : ∃ x1, x1 = lnW T 1 := ⟨_, rfl⟩
     obtain ⟨x2, hx2⟩ : ∃ x2, x2 = lnW T 2 := ⟨_, rfl⟩
     rw [← hx1] at g1 hx1l fin
     rw [← hx2] at g2 hx2l fin
     have hn3 : (2 : Int) < (n : Int) := by have := NX.out.2; omega
     have hn4 : (1 : Int) < (n : Int) := by have := NX.out.2; omega
     have hn5 : 2 < n := by have := NX.out.2; omega
     have hn6 : 1 < n := by have := NX.out.2; omega
     have K1 : Hid (∀ W', Below w1.heap.size w1 W' → Calls Tryz.prog 30 #[.string ⟨x1.toArray⟩] W' fun e w' => e = .returned (.int .i64 (pI x1)) ∧ Below w1.heap.size w1 w') := fun W' hW => (wordNumber_any x1 _ W' (HE1.out.below hW) (by omega)).mono fun e w' h => ⟨h.1, hW.trans (h.2.mono hW.size)⟩
     have K2 : Hid (∀ W', Below w1.heap.size w1 W' → Calls Tryz.prog 30 #[.string ⟨x2.toArray⟩] W' fun e w' => e = .returned (.int .i64 (pI x2)) ∧ Below w1.heap.size w1 w') := fun W' hW => (wordNumber_any x2 _ W' (HE1.out.below hW) (by omega)).mono fun e w' h => ⟨h.1, hW.trans (h.2.mono hW.size)⟩
     have KD : Hid (∀ W', Below w1.heap.size w1 W' → Calls Tryz.prog 32 #[.slice so 4 scap, .slice co S.c.length ccap, .int .i64 (pI x1), .int .i64 (pI x2)] W' fun e w' => ∃ (ao : Option Addr) (m k : Nat), e = .returned (.tuple #[.slice ao m k, .bool (takeOk shopS S.c (pI x1) (pI x2))]) ∧ Below w1.heap.size w1 w' ∧ (takeOk shopS S.c (pI x1) (pI x2) = true → m = (takeL S.c (pI x1) (pI x2)).length ∧ Rd w' 2 (.slice ao m k) m (pr (takeL S.c (pI x1) (pI x2))) ∧ Off b (.slice ao m k))) := fun W' hW => by
       refine (implTakeVal_any shopS _ S.c _ (pI x1) (pI x2) W' (hsS.below hW (Nat.le_refl _)) (hsC.below hW (Nat.le_refl _))).mono ?_
       rintro e w' ⟨vo, m9, vc, rfl, h8, x9⟩
       refine ⟨vo, m9, vc, rfl, hW.trans (x9.mono hW.size), fun hk => ?_⟩
       obtain ⟨rfl, h9⟩ := h8 hk
       exact ⟨rfl, Rd.of_owns h9, Off.of_owns h9 (Nat.lt_of_lt_of_le hb1 hW.size)⟩
     have KP := Lib.hid (show ∀ w' : World, Below w1.heap.size w1 w' → w'.cell? ⟨gw, 1, none⟩ = some (.string ⟨x1.toArray⟩) ∧ w'.cell? ⟨gw, 2, none⟩ = some (.string ⟨x2.toArray⟩) ∧ w'.cell? ⟨b, 0, none⟩ = some (.slice so 4 scap) ∧ w'.cell? ⟨b, 1, none⟩ = some (.slice co S.c.length ccap) from fun w' h => ⟨(h.cell (p := ⟨gw, 1, none⟩) hgw).trans g1, (h.cell (p := ⟨gw, 2, none⟩) hgw).trans g2, (h.cell (p := ⟨b, 0, none⟩) hb1).trans d0, (h.cell (p := ⟨b, 1, none⟩) hb1).trans d1⟩)
     have B0 : Below w1.heap.size w1 w1.drew := (Below.refl _ w1).drew
     have SV1 := Lib.hid sv
     have HBH := Lib.hid hb
     clear hx1 hx2 hx1l hx2l hcv hcp hsS hsC hsQ hry hrl hok sv hb d2 d3
     go_upto_region 8 with fail
     go_cut [8, 9] from 74 to 93 (fun c_ ok_ wx => ∃ (ao : Option Addr) (m k : Nat), c_ = .slice ao m k ∧ ok_ = .bool (takeOk shopS S.c (pI x1) (pI x2)) ∧ Below w1.heap.size w1 wx ∧ (takeOk shopS S.c (pI x1) (pI x2) = true → m = (takeL S.c (pI x1) (pI x2)).length ∧ Rd wx 2 (.slice ao m k) m (pr (takeL S.c (pI x1) (pI x2))) ∧ Off b (.slice ao m k)))
     case first =>
       go_region_held3 (fun w' => w'.cell? ⟨gw, 1, none⟩ = some (.string ⟨x1.toArray⟩) ∧ w'.cell? ⟨gw, 2, none⟩ = some (.string ⟨x2.toArray⟩) ∧ w'.cell? ⟨b, 0, none⟩ = some (.slice so 4 scap) ∧ w'.cell? ⟨b, 1, none⟩ = some (.slice co S.c.length ccap))
         (first
           | assumption
           | exact KP.out _ B0
           | exact KP.out _ y4
           | exact KP.out _ y3
           | exact KP.out _ y2)
         ((first
           | (go_at_call 30; (with_reducible refine (K1.out _ (by assumption)).mono ?_); rintro e w2 ⟨rfl, y2⟩)
           | (go_at_call 30; (with_reducible refine (K2.out _ (by assumption)).mono ?_); rintro e w3 ⟨rfl, y3⟩)
           | (go_at_call 32; (with_reducible refine (KD.out _ (by assumption)).mono ?_); rintro e w4 ⟨ao, m4, k4, rfl, y4, z4⟩)))
       all_goals go_wp2
       all_goals go_meet
       all_goals exact ⟨_, _, _, rfl, rfl, y4, z4⟩
     case rest =>
       obtain ⟨ao, m, k, rfl, rfl, y4, z4⟩ := hcut
       have Y4 := Lib.hid y4
       have HBC := Lib.hid ((y4.block b hb1).trans HBH.out)
       have Z4 := Lib.hid z4
       clear y4 z4
       cases hok : takeOk shopS S.c (pI x1) (pI x2)
       · have fin2 := Lib.hid (fin.out.trans (take_no hok))
         clear hok
         go_wp2_with (go_at_call 31; refine (said_any false _).mono ?_; rintro e w5 ⟨rfl, h5⟩; replace h5 := h5.symm; subst h5)
         go_ret
         exact ⟨by rw [fin2.out]; rfl, by rw [fin2.out]; exact HS1.out.below Y4.out (Nat.le_refl _), grownBy_of_below (X1.out.trans (Y4.out.mono X1.out.size))⟩
       · have fin2 := Lib.hid (fin.out.trans (take_yes hok))
         have HCC := Lib.hid (takeL_ok hok)
         obtain ⟨rfl, hrd, hoff⟩ := Z4.out hok
         have RD := Lib.hid hrd
         have OF := Lib.hid hoff
         obtain ⟨⟨q0, q1, q2, q3⟩, r0, r1, r2, r3⟩ := row4 HBC.out
         clear hok hrd hoff Z4
         go_wp2_with (go_at_call 31; refine (said_any true _).mono ?_; rintro e w5 ⟨rfl, h5⟩; replace h5 := h5.symm; subst h5)
         go_ret
         exact ⟨by rw [fin2.out]; rfl, by rw [fin2.out]; exact ⟨_, _, _, _, SesI.set1 HBC.out, ((SV1.out.below Y4.out (Nat.le_refl _)).grown (grown_set _ b 1 _)).cart (RD.out.grown (grown_set _ b 1 _) OF.out) OF.out HCC.out⟩, grownBy_trans (grownBy_of_below (X1.out.trans (Y4.out.mono X1.out.size))) (grown_set _ b 1 _)⟩
end Go.Proofs.YtijofgaekmahkaaGreatDoor

namespace Go.Proofs.YtijofgaekmahkaaGreatDoor
open Go.RowKit
set_option maxHeartbeats 8000000 in
set_option maxRecDepth 100000 in
theorem runLine_rule (b B : Nat) (S : Se) (T : List UInt8) (w : World) (h0 : SesI w b S) (hE : EnvB B w) (hB : B ≤ b) (hl : T.length ≤ 2000000) (hw : lnW T 0 = kRule ∧ 5 < T.length) :
   Calls Tryz.prog 22 #[.pointer (some ⟨b, 0, none⟩), .string ⟨T.toArray⟩] w (LineI b S T w) := by
 have fin : Hid (stepS S T = stepC S (.rule (T.drop 5))) := by rw [Hid, stepS, cmdT_rule hw]
 have HS := Lib.hid h0
 have hb0 : b < w.heap.size := by obtain ⟨_, _, _, _, _, sv⟩ := h0; exact sv.lt
 have HE := Lib.hid (hE.upTo (C := w.heap.size) (by omega))
 have hsz : (⟨T.toArray⟩ : ByteArray).size = T.length := by simp [ByteArray.size]
 have hn1 := List.length_pos_iff.2 (spl_ne 32 T)
 have sp := split_any T w hE.p (by omega)
 rw [words_spl _ T (Nat.le_refl _)] at sp
 obtain ⟨gw, hgwe⟩ : ∃ gw, gw = w.heap.size := ⟨_, rfl⟩
 rw [← hgwe] at sp
 have SP := Lib.hid sp
 have hgb : gw ≠ b := by omega
 have HGW := Lib.hid hgwe

 clear h0 hE hB sp hgwe
 unfold LineI
 go_enter Tryz.func22, Tryz.ntmps22
 go_upto_region 2 with (go_at_call 28; refine SP.out.mono ?_; rintro e w1 ⟨rfl, hc, hgw, x1⟩; rw [HGW.out] at x1; have X1 := Lib.hid x1; have HC := Lib.hid hc; clear hc x1)
 have hcw : ∀ k, k < (spl 32 T).length → w1.cell? ⟨gw, k, none⟩ = some (.string ⟨(lnW T k).toArray⟩) := fun k hk => HC.out k _ (by unfold lnW; rw [List.getD_eq_getElem?_getD, List.getElem?_eq_getElem hk]; rfl)
 have HS1 := Lib.hid (HS.out.below X1.out (Nat.le_refl _))
 have HE1 := Lib.hid ((HE.out.below X1.out).upTo X1.out.size)
 have HCW := Lib.hid hcw
 have c0 := hcw 0 hn1
 obtain ⟨x0, hx0⟩ : ∃ x0, x0 = lnW T 0 := ⟨_, rfl⟩
 obtain ⟨n, hn⟩ : ∃ n, n = (spl 32 T).length := ⟨_, rfl⟩
 rw [← hx0] at c0
 have HX0 := Lib.hid hx0
 have HN := Lib.hid hn
 rw [← hn] at hn1 hcw HCW ⊢
 have hn0 : (0 : Int) < (n : Int) := by omega
 have NA : Hid (¬ (x0 = kAdd ∧ n = 3)) := by rw [HX0.out]; exact fun k => absurd (k.1.symm.trans hw.1) (by decide)
 have NT : Hid (¬ (x0 = kTake ∧ n = 3)) := by rw [HX0.out]; exact fun k => absurd (k.1.symm.trans hw.1) (by decide)
 have NX : Hid (x0 = kRule ∧ 5 < T.length) := by rw [HX0.out]; exact hw
 clear hx0 hn hw
 clear hcw
 go_upto_region 2 with fail
 go_cut [27] from 28 to 36 (fun t_ wx => t_ = .bool false ∧ wx = w1)
 case first =>
   by_cases q0 : x0 = kAdd
   · have e0 : (x0 == [97, 100, 100]) = true := beq_iff_eq.2 q0
     by_cases q1 : n = 3
     · have e1 : (n == 3) = true := beq_iff_eq.2 q1
       have e2 : ((n : Int) == 3) = true := beq_iff_eq.2 (by omega)
       exact absurd ⟨q0, q1⟩ NA.out
     · have e1 : (n == 3) = false := beq_eq_false_iff_ne.2 q1
       have e2 : ((n : Int) == 3) = false := beq_eq_false_iff_ne.2 (by omega)
       clear q0 q1
       go_wp2
       go_meet
       exact ⟨rfl, rfl⟩
   · have e0 : (x0 == [97, 100, 100]) = false := beq_eq_false_iff_ne.2 q0
     clear q0
     go_wp2
     go_meet
     exact ⟨rfl, rfl⟩
 case rest =>
   obtain ⟨rfl, hwc⟩ := hcut
   replace hwc := hwc.symm
   subst hwc
   go_upto_region 7 with fail
   go_cut [64] from 65 to 73 (fun t_ wx => t_ = .bool false ∧ wx = w1)
   case first =>
     by_cases q0 : x0 = kTake
     · have e0 : (x0 == [116, 97, 107, 101]) = true := beq_iff_eq.2 q0
       by_cases q1 : n = 3
       · have e1 : (n == 3) = true := beq_iff_eq.2 q1
         have e2 : ((n : Int) == 3) = true := beq_iff_eq.2 (by omega)
         exact absurd ⟨q0, q1⟩ NT.out
       · have e1 : (n == 3) = false := beq_eq_false_iff_ne.2 q1
         have e2 : ((n : Int) == 3) = false := beq_eq_false_iff_ne.2 (by omega)
         clear q0 q1
         go_wp2
         go_meet
         exact ⟨rfl, rfl⟩
     · have e0 : (x0 == [116, 97, 107, 101]) = false := beq_eq_false_iff_ne.2 q0
       clear q0
       go_wp2
       go_meet
       exact ⟨rfl, rfl⟩
   case rest =>
     obtain ⟨rfl, hwc⟩ := hcut
     replace hwc := hwc.symm
     subst hwc
     go_upto_region 12 with fail
     go_cut [101] from 102 to 110 (fun t_ wx => t_ = .bool true ∧ wx = w1)
     case first =>
       by_cases q0 : x0 = kRule
       · have e0 : (x0 == [114, 117, 108, 101]) = true := beq_iff_eq.2 q0
         by_cases q1 : 5 < T.length
         · have e1 : decide (5 < T.length) = true := by simp [q1]
           have e2 : decide (5 < (T.length : Int)) = true := by simp; omega
           clear q0 q1
           go_wp2
           go_meet
           exact ⟨rfl, rfl⟩
         · have e1 : decide (5 < T.length) = false := by simp [q1]
           have e2 : decide (5 < (T.length : Int)) = false := by simp; omega
           exact absurd NX.out.2 q1
       · have e0 : (x0 == [114, 117, 108, 101]) = false := beq_eq_false_iff_ne.2 q0
         exact absurd NX.out.1 q0
     case rest =>
       obtain ⟨rfl, hwc⟩ := hcut
       replace hwc := hwc.symm
       subst hwc
       obtain ⟨u, v, z, y, hb, sv⟩ := HS1.out
       have hb1 := sv.lt
       obtain ⟨l, hrl, hry, _, hxl⟩ := sv.r
       have hok := sv.ok.rs
       rw [← hrl] at hok
       have hcv := sv.ok.c
       have hcp := sv.ok.cp
       have hsS := sv.s
       have hsC := sv.c
       have hsQ := sv.q
       obtain ⟨yo, ycap, rfl, _⟩ := hry.open
       obtain ⟨so, scap, rfl, _⟩ := sv.s.arts (l := shopS)
       obtain ⟨co, ccap, rfl, _⟩ := sv.c.pairs
       obtain ⟨zo, zcap, rfl, _⟩ := sv.q.ints
       obtain ⟨⟨d00, d1, d2, d3⟩, _⟩ := row4 hb
       have d0 : w1.cell? ⟨b, 0, none⟩ = some (.slice so 4 scap) := d00
       clear d00
       have hshp := hry.shp
       have hsix : l.length ≤ 6 := by have h9 := (okRs_pr hok).2.2; rw [rls_len] at h9; exact h9
       have hokx : ∀ x ∈ l, okRu x.r = true := fun x hx => okRs_mem hok x.r (List.mem_map.2 ⟨x, hx, rfl⟩)
       have SV := Lib.hid sv
       have HBH := Lib.hid hb
       have HRL := Lib.hid hrl
       have HRY := Lib.hid hry
       have HSH := Lib.hid hshp
       have HOK := Lib.hid hokx
       have HXO := Lib.hid hxl
       have hd5 : (T.drop 5).length ≤ 1000000000 := by rw [List.length_drop]; omega
       have ex : ((⟨T.toArray⟩ : ByteArray).extract 5 T.length) = ⟨(T.drop 5).toArray⟩ := by rw [ext_take, List.take_length]
       have e3 : (0 : Int) ≤ 5 := by omega
       have e4 : (5 : Int) ≤ (T.length : Int) := by have := NX.out.2; omega
       have KPR := Lib.hid (implOut (T.drop 5) w1 HE1.out hd5)
       clear hcv hcp hsS hsC hsQ hry hrl hok sv hb hshp hokx hxl d0 d1 d2 d3
       go_upto_region 14 with (go_at_call 33; refine KPR.out.mono ?_; rintro e w2 ⟨ok, r, v9, hres, rfl, ho, x2⟩; obtain ⟨po, pc, hv9, _⟩ := owns_shape ho; subst hv9; unfold ruV; have RES := Lib.hid hres; have O1 := Lib.hid ho; have XA := Lib.hid x2; clear hres ho x2)
       have a1 : (w2.alloc (.cells #[.int .i64 r.num, .int .i64 r.lvl, .int .i64 r.rank, .int .i64 r.group, .int .i64 r.kind, .int .i64 r.value, .int .i64 r.cap, .int .i64 r.lo, .int .i64 r.hi, .slice po r.counts.length pc, .int .i64 r.coupon] 43)).heap[w2.heap.size]? = some (.cells #[.int .i64 r.num, .int .i64 r.lvl, .int .i64 r.rank, .int .i64 r.group, .int .i64 r.kind, .int .i64 r.value, .int .i64 r.cap, .int .i64 r.lo, .int .i64 r.hi, .slice po r.counts.length pc, .int .i64 r.coupon] 43 (0, 0)) := heap_alloc_new w2 _
       have dd : Below w2.heap.size w2 (w2.alloc (.cells #[.int .i64 r.num, .int .i64 r.lvl, .int .i64 r.rank, .int .i64 r.group, .int .i64 r.kind, .int .i64 r.value, .int .i64 r.cap, .int .i64 r.lo, .int .i64 r.hi, .slice po r.counts.length pc, .int .i64 r.coupon] 43)) := (Below.refl _ w2).alloc (Nat.le_refl _) _
       obtain ⟨W1, hW⟩ : ∃ W1, W1 = w2.alloc (.cells #[.int .i64 r.num, .int .i64 r.lvl, .int .i64 r.rank, .int .i64 r.group, .int .i64 r.kind, .int .i64 r.value, .int .i64 r.cap, .int .i64 r.lo, .int .i64 r.hi, .slice po r.counts.length pc, .int .i64 r.coupon] 43) := ⟨_, rfl⟩
       rw [← hW] at a1 dd ⊢
       have A1 := Lib.hid a1
       have X2 := Lib.hid (XA.out.trans (dd.mono XA.out.size))
       have O2 := Lib.hid (ownsRow_below O1.out dd (Nat.le_refl _))
       have HY1 := Lib.hid (HRY.out.below X2.out (Nat.le_refl _))
       have BH1 := Lib.hid ((X2.out.block b hb1).trans HBH.out)
       have hbW : b < W1.heap.size := Nat.lt_of_lt_of_le hb1 X2.out.size
       have hz1 : w2.heap.size < W1.heap.size := (Array.getElem?_eq_some_iff.1 a1).1
       obtain ⟨⟨c0', c1', c2', c3'⟩, _⟩ := row4 BH1.out
       have bz := box_at (r := r) (v := .slice po r.counts.length pc) A1.out
       have d0 := bz.c0
       have d1 := bz.c1
       have d2 := bz.c2
       have d3 := bz.c3
       have d4 := bz.c4
       have d5 := bz.c5
       have d6 := bz.c6
       have d7 := bz.c7
       have d8 := bz.c8
       have d9 := bz.c9
       have d10 := bz.c10
       have KP := Lib.hid (show ∀ w' : World, Below W1.heap.size W1 w' → w'.cell? ⟨b, 3, none⟩ = some (.slice yo l.length ycap) ∧ w'.cell? ⟨w2.heap.size, 0, none⟩ = some (.int .i64 r.num) ∧ w'.cell? ⟨w2.heap.size, 1, none⟩ = some (.int .i64 r.lvl) ∧ w'.cell? ⟨w2.heap.size, 2, none⟩ = some (.int .i64 r.rank) ∧ w'.cell? ⟨w2.heap.size, 3, none⟩ = some (.int .i64 r.group) ∧ w'.cell? ⟨w2.heap.size, 4, none⟩ = some (.int .i64 r.kind) ∧ w'.cell? ⟨w2.heap.size, 5, none⟩ = some (.int .i64 r.value) ∧ w'.cell? ⟨w2.heap.size, 6, none⟩ = some (.int .i64 r.cap) ∧ w'.cell? ⟨w2.heap.size, 7, none⟩ = some (.int .i64 r.lo) ∧ w'.cell? ⟨w2.heap.size, 8, none⟩ = some (.int .i64 r.hi) ∧ w'.cell? ⟨w2.heap.size, 9, none⟩ = some (.slice po r.counts.length pc) ∧ w'.cell? ⟨w2.heap.size, 10, none⟩ = some (.int .i64 r.coupon) ∧ Below W1.heap.size W1 w' from fun w' h => ⟨(h.cell (p := ⟨b, 3, none⟩) hbW).trans c3', (h.cell (p := ⟨w2.heap.size, 0, none⟩) hz1).trans d0, (h.cell (p := ⟨w2.heap.size, 1, none⟩) hz1).trans d1, (h.cell (p := ⟨w2.heap.size, 2, none⟩) hz1).trans d2, (h.cell (p := ⟨w2.heap.size, 3, none⟩) hz1).trans d3, (h.cell (p := ⟨w2.heap.size, 4, none⟩) hz1).trans d4, (h.cell (p := ⟨w2.heap.size, 5, none⟩) hz1).trans d5, (h.cell (p := ⟨w2.heap.size, 6, none⟩) hz1).trans d6, (h.cell (p := ⟨w2.heap.size, 7, none⟩) hz1).trans d7, (h.cell (p := ⟨w2.heap.size, 8, none⟩) hz1).trans d8, (h.cell (p := ⟨w2.heap.size, 9, none⟩) hz1).trans d9, (h.cell (p := ⟨w2.heap.size, 10, none⟩) hz1).trans d10, h⟩)
       have B0 : Below W1.heap.size W1 W1.drew := (Below.refl _ W1).drew
       clear a1 dd hW O1 XA bz
       go_cut [12] from 117 to 125 (fun r_ wx => ∃ (n0 : Nat) (ao : Option Addr) (k : Nat), r_ = .slice ao (l.length + 1) k ∧ b < n0 ∧ RuN W1.heap.size wx n0 r_ (l ++ [⟨r, .slice po r.counts.length pc⟩]) ∧ Below W1.heap.size W1 wx)
       case first =>
         go_region_held3 (fun w' => w'.cell? ⟨b, 3, none⟩ = some (.slice yo l.length ycap) ∧ w'.cell? ⟨w2.heap.size, 0, none⟩ = some (.int .i64 r.num) ∧ w'.cell? ⟨w2.heap.size, 1, none⟩ = some (.int .i64 r.lvl) ∧ w'.cell? ⟨w2.heap.size, 2, none⟩ = some (.int .i64 r.rank) ∧ w'.cell? ⟨w2.heap.size, 3, none⟩ = some (.int .i64 r.group) ∧ w'.cell? ⟨w2.heap.size, 4, none⟩ = some (.int .i64 r.kind) ∧ w'.cell? ⟨w2.heap.size, 5, none⟩ = some (.int .i64 r.value) ∧ w'.cell? ⟨w2.heap.size, 6, none⟩ = some (.int .i64 r.cap) ∧ w'.cell? ⟨w2.heap.size, 7, none⟩ = some (.int .i64 r.lo) ∧ w'.cell? ⟨w2.heap.size, 8, none⟩ = some (.int .i64 r.hi) ∧ w'.cell? ⟨w2.heap.size, 9, none⟩ = some (.slice po r.counts.length pc) ∧ w'.cell? ⟨w2.heap.size, 10, none⟩ = some (.int .i64 r.coupon) ∧ Below W1.heap.size W1 w')
           (first
             | assumption
             | exact KP.out _ B0
             | exact KP.out _ y2
             | exact KP.out _ y3
             | exact KP.out _ (y2.alloc y2.size _)
             | (refine KP.out _ ?_; go_grown; done))
           ((first
             | (refine step_ru0 rfl (.tmp 117) (.tmp 121) rfl W1 _ _ l rfl rfl (by go_grown) (Rd.below (B := W1.heap.size) HY1.out.1 (by go_grown) (Nat.le_refl _)) HSH.out (by omega) ?_; intro v2 w2' n2 z2 y2; obtain ⟨a2, k2, hv2⟩ := n2.shape; subst hv2; have s2 := y2.size)
             | (refine step_ru rfl (.tmp 122) (.tmp 124) rfl W1 _ _ _ l [⟨r, .slice po r.counts.length pc⟩] rfl rfl (by first | exact n2 | exact n2.alloc _) (by go_grown) (by first | (refine rule_rd _ _ r _ ?_; (first | rfl | (simp; done)); done) | (refine Rd.below (Rd.below (rule_rd _ _ r _ ?_) (Below.drew (Below.refl _ _)) (Nat.le_refl _)) z2 (Nat.le_refl _); (first | rfl | (simp; done)); done) | (refine Rd.below (Rd.below (rule_rd _ _ r _ ?_) (Below.drew ((Below.refl _ _).alloc (Nat.le_refl _) _)) (Nat.le_refl _)) z2 (Nat.le_refl _); (first | rfl | (simp; done)); done)) shp_one (by first | omega | (simp; omega)) ?_; intro v3 w3 n3 y3; obtain ⟨a3, k3, hv3⟩ := n3.shape; rw [List.length_append, List.length_singleton] at hv3; subst hv3)))
         all_goals go_wp2
         all_goals go_meet
         all_goals exact ⟨_, _, _, rfl, by first | omega | (simp; omega), n3, y3⟩
       case rest =>
         obtain ⟨n0, ao, k, rfl, hn0', hru, hx9⟩ := hcut
         have hb9 := (hx9.block b hbW).trans BH1.out
         have S9 := Lib.hid (SV.out.below (X2.out.trans (hx9.mono X2.out.size)) (Nat.le_refl _))
         have XC := Lib.hid (X2.out.trans (hx9.mono X2.out.size))
         have HB9 := Lib.hid hb9
         have R9 : Hid (RdR wc (.slice ao (l.length + 1) k) (l ++ [⟨r, .slice po r.counts.length pc⟩])) := by
           refine ⟨hru.rd, fun x hx => ?_⟩
           rcases List.mem_append.1 hx with hx | hx
           · exact (HY1.out.2 x hx).below hx9 (Nat.le_refl _)
           · rw [List.mem_singleton] at hx
             subst hx
             exact (Rd.of_owns O2.out).below hx9 (Nat.le_refl _)
         have OF : Hid (Off b (.slice ao (l.length + 1) k)) := hru.off hbW (by omega)
         have OX : Hid (∀ q ∈ l ++ [(⟨r, .slice po r.counts.length pc⟩ : Rx)], Off b q.v) := fun q hq => by
           rcases List.mem_append.1 hq with hq | hq
           · exact HXO.out q hq
           · rw [List.mem_singleton] at hq
             subst hq
             exact Off.of_owns O2.out hb1
         have hbc : b < wc.heap.size := Nat.lt_of_lt_of_le hbW hx9.size
         clear hru hx9 hb9 hn0' c0' c1' c2' c3' d0 d1 d2 d3 d4 d5 d6 d7 d8 d9 d10 B0
         cases ok
         · have fin2 := Lib.hid (fin.out.trans (rule_no (S := S) RES.out rfl))
           go_wp2_with (go_at_call 31; refine (said_any false _).mono ?_; rintro e w5 ⟨rfl, h5⟩; replace h5 := h5.symm; subst h5)
           go_ret
           exact ⟨by rw [fin2.out]; rfl, by rw [fin2.out]; exact ⟨_, _, _, _, HB9.out, S9.out⟩, grownBy_of_below (X1.out.trans (XC.out.mono X1.out.size))⟩
         · have hro := RES.out.ok
           have HO : Hid (∀ x ∈ l ++ [(⟨r, .slice po r.counts.length pc⟩ : Rx)], okRu x.r = true) := fun x hx => by
             rcases List.mem_append.1 hx with hx | hx
             · exact HOK.out x hx
             · rw [List.mem_singleton] at hx
               subst hx
               exact hro
           cases hk : okRs (S.rs ++ [r])
           · have fin2 := Lib.hid (fin.out.trans (rule_no (S := S) RES.out hk))
             have HK : Hid (okRs (rls (l ++ [(⟨r, .slice po r.counts.length pc⟩ : Rx)])) = false) := by rw [Hid, rls_snoc, HRL.out]; exact hk
             clear hk hro
             go_wp2_with (first
               | (go_at_call 34; refine (implRules_any _ _ _ R9.out HO.out).mono ?_; rintro e w5 ⟨rfl, x5⟩; rw [HK.out]; have X5 := Lib.hid x5; clear x5)
               | (go_at_call 31; refine (said_any false _).mono ?_; rintro e w6 ⟨rfl, h5⟩; replace h5 := h5.symm; subst h5))
             go_ret
             exact ⟨by rw [fin2.out]; rfl, by rw [fin2.out]; exact ⟨_, _, _, _, (X5.out.block b hbc).trans HB9.out, S9.out.below X5.out (Nat.le_refl _)⟩, grownBy_of_below (X1.out.trans ((XC.out.trans (X5.out.mono XC.out.size)).mono X1.out.size))⟩
           · have fin2 := Lib.hid (fin.out.trans (rule_yes (S := S) RES.out rfl hk))
             have HK : Hid (okRs (rls (l ++ [(⟨r, .slice po r.counts.length pc⟩ : Rx)])) = true) := by rw [Hid, rls_snoc, HRL.out]; exact hk
             have HKK := Lib.hid hk
             clear hk hro
             go_wp2_with (first
               | (go_at_call 34; refine (implRules_any _ _ _ R9.out HO.out).mono ?_; rintro e w5 ⟨rfl, x5⟩; rw [HK.out]; have X5 := Lib.hid x5; obtain ⟨⟨g0, g1, g2, g3⟩, q0, q1, q2, q3⟩ := row4 ((x5.block b hbc).trans HB9.out); clear x5)
               | (go_at_call 31; refine (said_any true _).mono ?_; rintro e w6 ⟨rfl, h5⟩; replace h5 := h5.symm; subst h5))
             go_ret
             exact ⟨by rw [fin2.out]; rfl, by rw [fin2.out]; exact ⟨_, _, _, _, SesI.set3 ((X5.out.block b hbc).trans HB9.out), ((S9.out.below X5.out (Nat.le_refl _)).grown (grown_set _ b 3 _)).rules (by rw [rls_snoc, HRL.out]) ((R9.out.below X5.out (Nat.le_refl _)).grown (grown_set _ b 3 _) OF.out OX.out) OF.out OX.out HKK.out⟩, grownBy_trans (grownBy_of_below (X1.out.trans ((XC.out.trans (X5.out.mono XC.out.size)).mono X1.out.size))) (grown_set _ b 3 _)⟩
end Go.Proofs.YtijofgaekmahkaaGreatDoor
