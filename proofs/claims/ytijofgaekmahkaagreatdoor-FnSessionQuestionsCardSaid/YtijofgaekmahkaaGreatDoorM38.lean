/- Joined texts: Walk: a line of a session in the program: the notes. Walks: a line at the desk: a rule, a coupon. Conditions: none. -/
import Derived.Test.YtijofgaekmahkaaGreatDoorM37
namespace Go.Proofs.YtijofgaekmahkaaGreatDoor
open Go.RowKit
set_option maxHeartbeats 8000000 in
set_option maxRecDepth 100000 in
theorem runLine_notes (b B : Nat) (S : Se) (T : List UInt8) (w : World) (h0 : SesI w b S) (hE : EnvB B w) (hB : B ≤ b) (hl : T.length ≤ 2000000) (hw : NoW T) (h : T = kNotes) :
   Calls Tryz.prog 22 #[.pointer (some ⟨b, 0, none⟩), .string ⟨T.toArray⟩] w (LineI b S T w) := by
 have fin : Hid (stepS S T = stepC S (.notes)) := by rw [Hid, stepS, cmdT_notes hw h]
 have HS := Lib.hid h0
 have hb0 : b < w.heap.size := by obtain ⟨_, _, _, _, _, sv⟩ := h0; exact sv.lt
 have HE := Lib.hid (hE.upTo (C := w.heap.size) (by omega))
 have hsz : (⟨T.toArray⟩ : ByteArray).size = T.length := by simp [ByteArray.size]
 have hn1 := List.length_pos_iff.2 (spl_ne 32 T)
 have sp := split_any T w hE.p (by omega)
 rw [words_spl _ T (Nat.le_refl _)] at sp
 obtain ⟨gw, hgwe⟩ : ∃ gw, gw = w.heap.size := ⟨_, rfl⟩
 rw [← hgwe] at sp
 have SP := Lib.hid sp
 have hgb : gw ≠ b := by omega
 have HGW := Lib.hid hgwe
 have HT := Lib.hid h
 clear h
 clear h0 hE hB sp hgwe
 unfold LineI
 go_enter Tryz.func22, Tryz.ntmps22
 go_upto_region 2 with (go_at_call 28; refine SP.out.mono ?_; rintro e w1 ⟨rfl, hc, hgw, x1⟩; rw [HGW.out] at x1; have X1 := Lib.hid x1; have HC := Lib.hid hc; clear hc x1)
 have hcw : ∀ k, k < (spl 32 T).length → w1.cell? ⟨gw, k, none⟩ = some (.string ⟨(lnW T k).toArray⟩) := fun k hk => HC.out k _ (by unfold lnW; rw [List.getD_eq_getElem?_getD, List.getElem?_eq_getElem hk]; rfl)
 have HS1 := Lib.hid (HS.out.below X1.out (Nat.le_refl _))
 have HE1 := Lib.hid ((HE.out.below X1.out).upTo X1.out.size)
 have HCW := Lib.hid hcw
 have c0 := hcw 0 hn1
 obtain ⟨x0, hx0⟩ : ∃ x0, x0 = lnW T 0 := ⟨_, rfl⟩
 obtain ⟨n, hn⟩ : ∃ n, n = (spl 32 T).length := ⟨_, rfl⟩
 rw [← hx0] at c0
 have HX0 := Lib.hid hx0
 have HN := Lib.hid hn
 rw [← hn] at hn1 hcw HCW ⊢
 have hn0 : (0 : Int) < (n : Int) := by omega
 have NR : Hid (¬ (x0 = kRule ∧ 5 < T.length)) := by rw [HX0.out]; exact hw.r
 have NA : Hid (¬ (x0 = kAdd ∧ n = 3)) := by rw [HX0.out, HN.out]; exact hw.a
 have NT : Hid (¬ (x0 = kTake ∧ n = 3)) := by rw [HX0.out, HN.out]; exact hw.t
 have NC : Hid (¬ (x0 = kCoupon ∧ n = 2)) := by rw [HX0.out, HN.out]; exact hw.c
 clear hx0 hn hw
 clear hcw
 go_upto_region 2 with fail
 go_cut [27] from 28 to 36 (fun t_ wx => t_ = .bool false ∧ wx = w1)
 case first =>
   by_cases q0 : x0 = kAdd
   · have e0 : (x0 == [97, 100, 100]) = true := beq_iff_eq.2 q0
     by_cases q1 : n = 3
     · have e1 : (n == 3) = true := beq_iff_eq.2 q1
       have e2 : ((n : Int) == 3) = true := beq_iff_eq.2 (by omega)
       exact absurd ⟨q0, q1⟩ NA.out
     · have e1 : (n == 3) = false := beq_eq_false_iff_ne.2 q1
       have e2 : ((n : Int) == 3) = false := beq_eq_false_iff_ne.2 (by omega)
       clear q0 q1
       go_wp2
       go_meet
       exact ⟨rfl, rfl⟩
   · have e0 : (x0 == [97, 100, 100]) = false := beq_eq_false_iff_ne.2 q0
     clear q0
     go_wp2
     go_meet
     exact ⟨rfl, rfl⟩
 case rest =>
   obtain ⟨rfl, hwc⟩ := hcut
   replace hwc := hwc.symm
   subst hwc
   go_upto_region 7 with fail
   go_cut [64] from 65 to 73 (fun t_ wx => t_ = .bool false ∧ wx = w1)
   case first =>
     by_cases q0 : x0 = kTake
     · have e0 : (x0 == [116, 97, 107, 101]) = true := beq_iff_eq.2 q0
       by_cases q1 : n = 3
       · have e1 : (n == 3) = true := beq_iff_eq.2 q1
         have e2 : ((n : Int) == 3) = true := beq_iff_eq.2 (by omega)
         exact absurd ⟨q0, q1⟩ NT.out
       · have e1 : (n == 3) = false := beq_eq_false_iff_ne.2 q1
         have e2 : ((n : Int) == 3) = false := beq_eq_false_iff_ne.2 (by omega)
         clear q0 q1
         go_wp2
         go_meet
         exact ⟨rfl, rfl⟩
     · have e0 : (x0 == [116, 97, 107, 101]) = false := beq_eq_false_iff_ne.2 q0
       clear q0
       go_wp2
       go_meet
       exact ⟨rfl, rfl⟩
   case rest =>
     obtain ⟨rfl, hwc⟩ := hcut
     replace hwc := hwc.symm
     subst hwc
     go_upto_region 12 with fail
     go_cut [101] from 102 to 110 (fun t_ wx => t_ = .bool false ∧ wx = w1)
     case first =>
       by_cases q0 : x0 = kRule
       · have e0 : (x0 == [114, 117, 108, 101]) = true := beq_iff_eq.2 q0
         by_cases q1 : 5 < T.length
         · have e1 : decide (5 < T.length) = true := by simp [q1]
           have e2 : decide (5 < (T.length : Int)) = true := by simp; omega
           exact absurd ⟨q0, q1⟩ NR.out
         · have e1 : decide (5 < T.length) = false := by simp [q1]
           have e2 : decide (5 < (T.length : Int)) = false := by simp; omega
           clear q0 q1
           go_wp2
           go_meet
           exact ⟨rfl, rfl⟩
       · have e0 : (x0 == [114, 117, 108, 101]) = false := beq_eq_false_iff_ne.2 q0
         clear q0
         go_wp2
         go_meet
         exact ⟨rfl, rfl⟩
     case rest =>
       obtain ⟨rfl, hwc⟩ := hcut
       replace hwc := hwc.symm
       subst hwc
       go_upto_region 19 with fail
       go_cut [138] from 139 to 147 (fun t_ wx => t_ = .bool false ∧ wx = w1)
       case first =>
         by_cases q0 : x0 = kCoupon
         · have e0 : (x0 == [99, 111, 117, 112, 111, 110]) = true := beq_iff_eq.2 q0
           by_cases q1 : n = 2
           · have e1 : (n == 2) = true := beq_iff_eq.2 q1
             have e2 : ((n : Int) == 2) = true := beq_iff_eq.2 (by omega)
             exact absurd ⟨q0, q1⟩ NC.out
           · have e1 : (n == 2) = false := beq_eq_false_iff_ne.2 q1
             have e2 : ((n : Int) == 2) = false := beq_eq_false_iff_ne.2 (by omega)
             clear q0 q1
             go_wp2
             go_meet
             exact ⟨rfl, rfl⟩
         · have e0 : (x0 == [99, 111, 117, 112, 111, 110]) = false := beq_eq_false_iff_ne.2 q0
           clear q0
           go_wp2
           go_meet
           exact ⟨rfl, rfl⟩
       case rest =>
         obtain ⟨rfl, hwc⟩ := hcut
         replace hwc := hwc.symm
         subst hwc
         have l_total : (T == [116, 111, 116, 97, 108]) = false := beq_eq_false_iff_ne.2 (by rw [HT.out]; decide)
         have l_pay : (T == [112, 97, 121]) = false := beq_eq_false_iff_ne.2 (by rw [HT.out]; decide)
         have l_notes : (T == [110, 111, 116, 101, 115]) = true := beq_iff_eq.2 HT.out
         obtain ⟨u, v, z, y, hb, sv⟩ := HS1.out
         have hb1 := sv.lt
         obtain ⟨l, hrl, hry, _, _⟩ := sv.r
         have hok := sv.ok.rs
         rw [← hrl] at hok
         have hcv := sv.ok.c
         have hcp := sv.ok.cp
         have hsS := sv.s
         have hsC := sv.c
         have hsQ := sv.q
         obtain ⟨yo, ycap, rfl, _⟩ := hry.open
         obtain ⟨so, scap, rfl, _⟩ := sv.s.arts (l := shopS)
         obtain ⟨co, ccap, rfl, _, _, hrc⟩ := sv.c.pairs
         obtain ⟨zo, zcap, rfl, _⟩ := sv.q.ints
         obtain ⟨⟨d00, d1, d2, d3⟩, _⟩ := row4 hb
         have d0 : w1.cell? ⟨b, 0, none⟩ = some (.slice so 4 scap) := d00
         clear d00
         have KR : Hid (∀ W', Below w1.heap.size w1 W' → Calls Tryz.prog 40 #[.slice so 4 scap, .slice co S.c.length ccap, .slice zo S.cp.length zcap, .slice yo l.length ycap] W' (RcOut shopS S.c S.cp (rls l) W')) := fun W' hW => implReceipt_any shopS _ S.c _ S.cp _ l _ W' (hsS.below hW (Nat.le_refl _)) (hsC.below hW (Nat.le_refl _)) (hsQ.below hW (Nat.le_refl _)) (hry.below hW (Nat.le_refl _)) hcv hcp hok
         have C1 := Lib.hid d1
         have HRC := Lib.hid hrc
         have KP := Lib.hid (show ∀ w' : World, Below w1.heap.size w1 w' → w'.cell? ⟨b, 0, none⟩ = some (.slice so 4 scap) ∧ w'.cell? ⟨b, 1, none⟩ = some (.slice co S.c.length ccap) ∧ w'.cell? ⟨b, 2, none⟩ = some (.slice zo S.cp.length zcap) ∧ w'.cell? ⟨b, 3, none⟩ = some (.slice yo l.length ycap) ∧ Below w1.heap.size w1 w' from fun w' h => ⟨(h.cell (p := ⟨b, 0, none⟩) hb1).trans d0, (h.cell (p := ⟨b, 1, none⟩) hb1).trans d1, (h.cell (p := ⟨b, 2, none⟩) hb1).trans d2, (h.cell (p := ⟨b, 3, none⟩) hb1).trans d3, h⟩)
         have B0 : Below w1.heap.size w1 w1.drew := (Below.refl _ w1).drew
         have HCV := Lib.hid hcv
         have HJL := Lib.hid (notes_len S.cp hcv hok)
         have hnt := rcL_notes S.cp hcv hok
         have HNT := Lib.hid hnt
         have hfin : stepC S .notes = (S, if clrQ (rls l) then jn ((rcL shopS S.c S.cp (ordL (rls l))).2.map (ntW S.c)) else tNo) := by rw [hrl]; simp only [stepC]
         obtain ⟨rc, hrcl⟩ : ∃ rc, rc = rcL shopS S.c S.cp (ordL (rls l)) := ⟨_, rfl⟩
         unfold RcOut at KR
         simp only [← hrcl] at KR
         rw [← hrcl] at hfin HNT HJL
         rw [hfin] at fin
         clear hfin hcv hcp hsS hsC hsQ hry hrl hok sv hb hrc hnt d0 d1 d2 d3 hrcl
         have bx0 := heap_alloc_new w1 (.cells #[.slice none 0 0, .slice none 0 0] 76)
         have B1 : Below w1.heap.size w1 (w1.alloc (.cells #[.slice none 0 0, .slice none 0 0] 76)).drew := ((Below.refl _ w1).alloc (Nat.le_refl _) _).drew
         have z1 : (w1.alloc (.cells #[.slice none 0 0, .slice none 0 0] 76)).drew.heap.size = w1.heap.size + 1 := World.size_alloc _ _
         have BX0 := Lib.hid bx0
         have Z1 := Lib.hid z1
         clear bx0 z1
         go_upto_region 40 with fail
         go_cut [17, 18] from 234 to 252 (fun p_ ok_ wx => ∃ (g : Nat), p_ = .pointer (some ⟨g, 0, none⟩) ∧ ok_ = .bool (clrQ (rls l)) ∧ Below w1.heap.size w1 wx ∧ (clrQ (rls l) = true → ∃ (a1 : Option Addr) (k1 : Nat) (a2 : Option Addr) (k2 : Nat), wx.heap[g]? = some (.cells #[.slice a1 S.c.length k1, .slice a2 rc.2.length k2] 76 (0, 0)) ∧ Rd wx 3 (.slice a2 rc.2.length k2) rc.2.length (nts rc.2)))
         case first =>
           go_region_held3 (fun w' => w'.cell? ⟨b, 0, none⟩ = some (.slice so 4 scap) ∧ w'.cell? ⟨b, 1, none⟩ = some (.slice co S.c.length ccap) ∧ w'.cell? ⟨b, 2, none⟩ = some (.slice zo S.cp.length zcap) ∧ w'.cell? ⟨b, 3, none⟩ = some (.slice yo l.length ycap) ∧ Below w1.heap.size w1 w')
             (first
               | assumption
               | exact KP.out _ B0
               | exact KP.out _ B1
               | exact KP.out _ y9
               | exact KP.out _ (y9.alloc y9.size _)
               | exact KP.out _ ((y9.setCell (Nat.le_refl _) _).setCell (Nat.le_refl _) _))
             ((first
               | (go_at_call 40; (with_reducible refine (KR.out _ B0).mono ?_); rintro e w9 ⟨a1, n1, k1, a2, n2, k2, rfl, h1, x9⟩; have y9 : Below w1.heap.size w1 w9 := B0.trans (x9.mono B0.size); have n9 := heap_alloc_new w9 (.cells #[.slice none 0 0, .slice none 0 0] 76); obtain ⟨⟨q0, q1⟩, q2, q3⟩ := row2 n9)
               | (go_at_call 40; (with_reducible refine (KR.out _ B1).mono ?_); rintro e w9 ⟨a1, n1, k1, a2, n2, k2, rfl, h1, x9⟩; have y9 : Below w1.heap.size w1 w9 := B1.trans (x9.mono B1.size); have n9 := (x9.block w1.heap.size (by rw [Z1.out]; omega)).trans BX0.out; obtain ⟨⟨q0, q1⟩, q2, q3⟩ := row2 n9)))
           all_goals go_wp2
           all_goals go_meet
           · exact ⟨_, rfl, rfl, y9.alloc y9.size _, fun hc => by
               obtain ⟨rfl, rfl, _, h3, h4⟩ := h1 hc
               exact ⟨a1, k1, a2, k2, heap_alloc_new w9 _, h3.below ((Below.refl _ w9).alloc (Nat.le_refl _) _) (Nat.le_refl _)⟩⟩
           · exact ⟨_, rfl, rfl, (y9.setCell (Nat.le_refl _) _).setCell (Nat.le_refl _) _, fun hc => by
               obtain ⟨rfl, rfl, _, h3, h4⟩ := h1 hc
               have o2 : Off w1.heap.size (.slice a2 rc.2.length k2) := fun g n m hg => by injection hg with h5; have h6 := h4 g h5; rw [Z1.out] at h6; omega
               exact ⟨a1, k1, a2, k2, Joins.block_setCell (i := 1) (Joins.block_setCell (i := 0) n9 _) _, (h3.grown (grown_set _ _ 0 _) o2).grown (grown_set _ _ 1 _) o2⟩⟩
         case rest =>
           obtain ⟨g, rfl, rfl, y9, hyes⟩ := hcut
           cases hcl : clrQ (rls l)
           · rw [hcl] at fin
             clear hcl hyes
             go_wp2
             go_ret
             exact ⟨by rw [fin.out]; rfl, by rw [fin.out]; exact HS1.out.below y9 (Nat.le_refl _), grownBy_of_below (X1.out.trans (y9.mono X1.out.size))⟩
           · rw [hcl, if_pos rfl] at fin
             obtain ⟨ws, hws⟩ : ∃ ws, ws = rc.2.map (ntW S.c) := ⟨_, rfl⟩
             rw [← hws] at fin HJL
             have HWL : Hid (ws.length = rc.2.length) := by rw [Hid, hws, List.length_map]
             have HWK : Hid (∀ k (h : k < rc.2.length) (h2 : k < ws.length), ws[k] = ntW S.c (rc.2[k])) := fun k h h2 => by simp only [hws, List.getElem_map]
             obtain ⟨a1, k1, a2, k2, bx, hn9⟩ := hyes hcl
             obtain ⟨W1, hW⟩ : ∃ W1, W1 = wc := ⟨_, rfl⟩
             rw [← hW] at bx hn9 y9 ⊢
             clear hcl hws hyes hW
             have XA := Lib.hid y9
             obtain ⟨ao, acap, hna, hnb⟩ := nts_at hn9
             have NB := Lib.hid hnb
             have hbW : b < W1.heap.size := Nat.lt_of_lt_of_le hb1 y9.size
             have C2 := Lib.hid ((y9.cell (p := ⟨b, 1, none⟩) hb1).trans C1.out)
             obtain ⟨⟨q0, q1⟩, _⟩ := row2 bx
             have hgW : g < W1.heap.size := (Array.getElem?_eq_some_iff.1 bx).1
             injection hna with hna1 hna2 hna3
             subst hna1 hna3
             have e2 : Below W1.heap.size W1 (W1.alloc (.cells #[] 9)) := (Below.refl _ W1).alloc (Nat.le_refl _) _
             have z2 : (W1.alloc (.cells #[] 9)).heap.size = W1.heap.size + 1 := World.size_alloc _ _
             obtain ⟨W2, hW2⟩ : ∃ W2, W2 = W1.alloc (.cells #[] 9) := ⟨_, rfl⟩
             rw [← hW2] at e2 z2
             have HW2 := Lib.hid hW2
             have E2 := Lib.hid e2
             have Z2 := Lib.hid z2
             clear bx hn9 hna2 hnb y9 e2 z2 hW2
             go_wp2
             rw [← HW2.out]
             clear q0 q1
             go_loopw [19, 259] (fun s_ i_ wr => ∃ k : Nat, k ≤ rc.2.length ∧ i_ = .int .i64 k ∧ Hid (StN W2.heap.size wr W1.heap.size s_ (ws.take k)) ∧ Below W2.heap.size W2 wr) (fun _ i_ _ => rc.2.length - (intOf i_).toNat)
             case atStart => exact ⟨0, Nat.zero_le _, rfl, .inl ⟨rfl, rfl⟩, Below.refl _ _⟩
             case round =>
               obtain ⟨k, hk, rfl, HSN, hbl⟩ := hrel
               have hwl := HWL.out
               have h48 := HNT.out.1
               have hkb : k ≤ 48 := by omega
               have htl : (ws.take k).length = k := by rw [List.length_take]; omega
               have hlk : (ws.take k).length ≤ 1000 := by omega
               obtain ⟨so2, scap2, hsv⟩ := HSN.out.shape
               rw [htl] at hsv
               subst hsv
               clear htl
               have hblW := E2.out.trans (hbl.mono E2.out.size)
               by_cases hlt : k < rc.2.length
               · obtain ⟨q, off, rfl, hq, hcell⟩ := NB.out (by omega)
                 obtain ⟨d0, d1, d2⟩ := hcell k hlt
                 have hnk := HNT.out.2 _ (List.getElem_mem hlt)
                 have hwk := HWK.out k hlt (by omega)
                 obtain ⟨n9, hn9⟩ : ∃ n9, n9 = rc.2[k] := ⟨_, rfl⟩
                 rw [← hn9] at d0 d1 d2 hnk hwk
                 have g0 := (hblW.cell (p := ⟨q, off + k*3, none⟩) hq).trans d0
                 have g1 := (hblW.cell (p := ⟨q, off + k*3+1, none⟩) hq).trans d1
                 have g2 := (hblW.cell (p := ⟨q, off + k*3+2, none⟩) hq).trans d2
                 have hqw : q < wr.heap.size := Nat.lt_of_lt_of_le hq hblW.size
                 obtain ⟨e1, e2, e3, e4, e5, e6⟩ := hnk
                 obtain ⟨m, hm⟩ := Int.eq_ofNat_of_zero_le e1
                 have hmc : m < S.c.length := by omega
                 obtain ⟨cb, coff, rfl, hcb, hcc⟩ := HRC.out (by omega)
                 have hbl1 := XA.out.trans (hblW.mono XA.out.size)
                 have m0 := (hbl1.cell (p := ⟨cb, coff + m*2, none⟩) hcb).trans (hcc m hmc).1
                 have c1 := (hblW.cell (p := ⟨b, 1, none⟩) hbW).trans C2.out
                 have har := art_in HCV.out hmc
                 have hs4 : shopS.length = 4 := rfl
                 have htk := take_app ws (k := k) (by omega)
                 have hwx : ws[k]'(by omega) = dec (pA S.c m) ++ [32] ++ dec n9.ru ++ [32] ++ dec n9.am := by rw [hwk]; unfold ntW; rw [hm, Int.toNat_natCast]
                 rw [hwx] at htk
                 rw [hm] at g0
                 have l1 := dec_short (n := pA S.c m) (by omega) (by omega)
                 have l2 := dec_short (n := n9.ru) (by omega) (by omega)
                 have l3 := dec_short (n := n9.am) (by omega) (by omega)
                 obtain ⟨Y1, Y2, Y3, Y4, A1, A2, A3, A4, hX⟩ := add_three_w (dec (pA S.c m)) (dec n9.ru) (dec n9.am) (by omega)
                 have fk : Hid (ws.take k ++ [Y4] = ws.take (k + 1)) := by rw [Hid, ← htk, hX]
                 obtain ⟨tk, htke⟩ : ∃ tk, tk = ws.take k := ⟨_, rfl⟩
                 rw [← htke] at HSN fk hlk
                 have na := heap_alloc_new wr (.cells #[.int .i64 (m : Int), .int .i64 n9.ru, .int .i64 n9.am] 80)
                 have dd : Below wr.heap.size wr (wr.alloc (.cells #[.int .i64 (m : Int), .int .i64 n9.ru, .int .i64 n9.am] 80)) := (Below.refl _ wr).alloc (Nat.le_refl _) _
                 have hbrw : W2.heap.size ≤ wr.heap.size := hbl.size
                 obtain ⟨br, hbr⟩ : ∃ br, br = wr.heap.size := ⟨_, rfl⟩
                 obtain ⟨W3, hW3⟩ : ∃ W3, W3 = wr.alloc (.cells #[.int .i64 (m : Int), .int .i64 n9.ru, .int .i64 n9.am] 80) := ⟨_, rfl⟩
                 rw [← hW3] at na dd
                 have HW3 := Lib.hid hW3
                 have h3s := dd.size
                 have SN3 := Lib.hid (HSN.out.below dd (Nat.le_refl _))
                 have hz2 := Z2.out
                 rw [← hbr] at na hbrw
                 have hbr3 : br < W3.heap.size := (Array.getElem?_eq_some_iff.1 na).1
                 obtain ⟨⟨n0', n1', n2'⟩, _⟩ := row3z na
                 have hcb1 : cb < W1.heap.size := Nat.lt_of_lt_of_le hcb XA.out.size
                 have hs9 := hblW.size
                 have x3c := (dd.cell (p := ⟨cb, coff + m*2, none⟩) (by show cb < _; omega)).trans m0
                 have x3b := (dd.cell (p := ⟨b, 1, none⟩) (by show b < _; omega)).trans c1
                 have HOB : Hid (∀ j, (Value.slice so2 k scap2).ownBlock = some j → j ≠ b ∧ j ≠ br ∧ j ≠ cb) := fun j hj => by
                   rcases SN3.out with ⟨h1, _⟩ | h1
                   · rw [h1] at hj
                     obtain rfl : W1.heap.size = j := Option.some.inj hj
                     omega
                   · have h2 := (h1.lt j hj).1
                     exact ⟨by omega, owns_ne_ty h1 na (by decide) j hj, by omega⟩
                 have KP3 := Lib.hid (show ∀ w' : World, Below W3.heap.size W3 w' → w'.cell? ⟨b, 1, none⟩ = some (.slice (some ⟨cb, coff, none⟩) S.c.length ccap) ∧ w'.cell? ⟨br, 0, none⟩ = some (.int .i64 m) ∧ w'.cell? ⟨br, 1, none⟩ = some (.int .i64 n9.ru) ∧ w'.cell? ⟨br, 2, none⟩ = some (.int .i64 n9.am) ∧ w'.cell? ⟨cb, coff + m*2, none⟩ = some (.int .i64 (pA S.c m)) from fun w' h => ⟨(h.cell (p := ⟨b, 1, none⟩) (by show b < _; omega)).trans x3b, (h.cell (p := ⟨br, 0, none⟩) hbr3).trans n0', (h.cell (p := ⟨br, 1, none⟩) hbr3).trans n1', (h.cell (p := ⟨br, 2, none⟩) hbr3).trans n2', (h.cell (p := ⟨cb, coff + m*2, none⟩) (by show cb < _; omega)).trans x3c⟩)
                 have KQ3 := Lib.hid (show ∀ w' : World, (∀ i, i < W3.heap.size → (∀ j, (Value.slice so2 k scap2).ownBlock = some j → i ≠ j) → w'.heap[i]? = W3.heap[i]?) → w'.cell? ⟨b, 1, none⟩ = some (.slice (some ⟨cb, coff, none⟩) S.c.length ccap) ∧ w'.cell? ⟨br, 0, none⟩ = some (.int .i64 m) ∧ w'.cell? ⟨br, 1, none⟩ = some (.int .i64 n9.ru) ∧ w'.cell? ⟨br, 2, none⟩ = some (.int .i64 n9.am) ∧ w'.cell? ⟨cb, coff + m*2, none⟩ = some (.int .i64 (pA S.c m)) from fun w' h => by
                   have hB := h b (by omega) (fun j hj e => (HOB.out j hj).1 e.symm)
                   have hR := h br hbr3 (fun j hj e => (HOB.out j hj).2.1 e.symm)
                   have hC := h cb (by omega) (fun j hj e => (HOB.out j hj).2.2 e.symm)
                   exact ⟨(World.cell?_of_block (a := ⟨b, 1, none⟩) hB).trans x3b, (World.cell?_of_block (a := ⟨br, 0, none⟩) hR).trans n0', (World.cell?_of_block (a := ⟨br, 1, none⟩) hR).trans n1', (World.cell?_of_block (a := ⟨br, 2, none⟩) hR).trans n2', (World.cell?_of_block (a := ⟨cb, coff + m*2, none⟩) hC).trans x3c⟩)
                 have xw3 := XA.out.trans ((E2.out.trans ((hbl.trans (dd.mono hbl.size)).mono E2.out.size)).mono XA.out.size)
                 have KI : ∀ y : Int, 0 ≤ y → y ≤ 1000000 → ∀ W', Below W3.heap.size W3 W' → Calls Tryz.prog 37 #[.int .i64 y] W' fun e w' => e = .returned (.string ⟨(dec y).toArray⟩) ∧ Below W3.heap.size W3 w' := fun y hy0 hy1 W' hW => (itoa_run y W' (HE1.out.below (xw3.trans (hW.mono xw3.size))).env hy0 hy1).mono fun e w' h => ⟨h.1, hW.trans (h.2.mono hW.size)⟩
                 have K1 := Lib.hid (KI (pA S.c m) (by omega) (by omega))
                 have K2 := Lib.hid (KI n9.ru (by omega) (by omega))
                 have K3 := Lib.hid (KI n9.am (by omega) (by omega))
                 have hk0 : (0 : Int) ≤ (k : Int) := by omega
                 have hk1 : (k : Int) < (rc.2.length : Int) := by omega
                 have hm0 : (0 : Int) ≤ (m : Int) := by omega
                 have hm1 : (m : Int) < (S.c.length : Int) := by omega
                 have hb2 : W2.heap.size ≤ W3.heap.size := by omega
                 have HB3 : Hid (Below W2.heap.size W2 W3) := hbl.trans (dd.mono hbl.size)
                 have BD : Below W3.heap.size W3 W3.drew := (Below.refl _ W3).drew
                 have HBR := Lib.hid hbr
                 clear KI l1 l2 l3 hX htke htk hwx hwk hn9 e1 e2 e3 e4 e5 e6 hm d0 d1 d2 hcell hcc har na dd x3c x3b c1 m0 hbl1 xw3 hblW hW3 hwl hz2 n0' n1' n2'
                 go_upto_region 47 with fail
                 rw [← HW3.out]
                 rw [← HBR.out]
                 clear g0 g1 g2 hbr
                 go_region_held3 (fun w' => w'.cell? ⟨b, 1, none⟩ = some (.slice (some ⟨cb, coff, none⟩) S.c.length ccap) ∧ w'.cell? ⟨br, 0, none⟩ = some (.int .i64 m) ∧ w'.cell? ⟨br, 1, none⟩ = some (.int .i64 n9.ru) ∧ w'.cell? ⟨br, 2, none⟩ = some (.int .i64 n9.am) ∧ w'.cell? ⟨cb, coff + m*2, none⟩ = some (.int .i64 (pA S.c m)))
                   (first
                     | assumption
                     | exact KP3.out _ BD
                     | exact KP3.out _ y3
                     | exact KP3.out _ y4
                     | exact KP3.out _ y5
                     | exact KP3.out _ (y3.alloc y3.size _)
                     | exact KP3.out _ (y4.alloc y4.size _)
                     | exact KP3.out _ (y5.alloc y5.size _)
                     | exact KQ3.out _ k6)
                   ((first
                     | (go_at_call 37; (with_reducible refine (K1.out _ (by assumption)).mono ?_); rintro e w3 ⟨rfl, y3⟩; have s3 := y3.size)
                     | (go_at_call 37; (with_reducible refine (K2.out _ (by assumption)).mono ?_); rintro e w4 ⟨rfl, y4⟩; have s4 := y4.size)
                     | (go_at_call 37; (with_reducible refine (K3.out _ (by assumption)).mono ?_); rintro e w5 ⟨rfl, y5⟩; have s5 := y5.size)
                     | (refine step_st rfl (.tmp 263) (.tmp 284) rfl W2.heap.size W1.heap.size W3 _ tk Y4 _ rfl rfl (StN.below (C := W3.heap.size) SN3.out (by go_grown) (Nat.le_refl _)) (by go_grown) hb2 (cell_of_row _ _ 0 _ _ _ (heap_alloc_new _ _)) hlk ?_; intro v6 w6 n6 y6 k6; rw [fk.out] at n6)))
                 all_goals go_wp2
                 all_goals go_roundw
                 all_goals first
                   | exact ⟨k + 1, by omega, by go_num, n6, HB3.out.trans y6⟩
                   | (simp [intOf]; omega)
               · have hle : decide ((k : Int) < (rc.2.length : Int)) = false := by simp; omega
                 have hle2 : decide (k < rc.2.length) = false := by simp; omega
                 have fw : ws.take k = ws := List.take_of_length_le (by omega)
                 rw [fw] at HSN
                 have KJ := Lib.hid (joinS_any _ _ _ ws wr HSN.out (by omega) (by have := HJL.out; omega))
                 have X9 := Lib.hid (XA.out.trans (hblW.mono XA.out.size))
                 clear fw hwl hblW
                 go_wp2_with (go_at_call 41; refine KJ.out.mono ?_; rintro e w6 ⟨rfl, x6⟩; have X6 := Lib.hid (X9.out.trans (x6.mono X9.out.size)); clear x6)
                 go_ret
                 exact ⟨by rw [fin.out] <;> rfl, by rw [fin.out]; exact HS1.out.below X6.out (Nat.le_refl _), grownBy_of_below (X1.out.trans (X6.out.mono X1.out.size))⟩
end Go.Proofs.YtijofgaekmahkaaGreatDoor

namespace Go.Proofs.YtijofgaekmahkaaGreatDoor
open Go.RowKit
set_option maxHeartbeats 8000000 in
set_option maxRecDepth 100000 in
theorem deskLine_rule (b : Nat) (S : Se) (T : List UInt8) (w : World) (h0 : SesD w b S) (hl : T.length ≤ 2000000) (hw : lnW T 0 = kRule ∧ 5 < T.length) :
   Calls Tryz.prog 24 #[.pointer (some ⟨b, 0, none⟩), .string ⟨T.toArray⟩] w (LineD b S T w) := by
 have fin : Hid (stepS S T = stepC S (.rule (T.drop 5))) := by rw [Hid, stepS, cmdT_rule hw]
 have HS := Lib.hid h0
 have hb0 : b < w.heap.size := by obtain ⟨_, _, _, _, _, sv⟩ := h0; exact sv.lt
 have hsz : (⟨T.toArray⟩ : ByteArray).size = T.length := by simp [ByteArray.size]
 have hn1 := List.length_pos_iff.2 (spl_ne 32 T)
 have SP := Lib.hid (splitAt_any T 32 w (by omega))

 clear h0
 unfold LineD
 go_enter Tryz.func24, Tryz.ntmps24
 go_upto_region 2 with (go_at_call 43; refine SP.out.mono ?_; rintro e w1 ⟨vw, rfl, ho, x1⟩; obtain ⟨wo, wcap, hvw, hg⟩ := owns_shape ho; subst hvw; obtain ⟨gw, rfl, _⟩ := hg hn1; have X1 := Lib.hid x1; have OW := Lib.hid ho; clear ho hg x1)
 have hcw : ∀ k, k < (spl 32 T).length → w1.cell? ⟨gw, k, none⟩ = some (.string ⟨(lnW T k).toArray⟩) := fun k hk => sw_cell OW.out k _ (by unfold lnW; rw [List.getD_eq_getElem?_getD, List.getElem?_eq_getElem hk]; rfl)
 have hgw := (OW.out.lt gw rfl).2
 have HS1 := Lib.hid (HS.out.below X1.out (Nat.le_refl _))
 have HCW := Lib.hid hcw
 have c0 := hcw 0 hn1
 obtain ⟨x0, hx0⟩ : ∃ x0, x0 = lnW T 0 := ⟨_, rfl⟩
 obtain ⟨n, hn⟩ : ∃ n, n = (spl 32 T).length := ⟨_, rfl⟩
 rw [← hx0] at c0
 have HX0 := Lib.hid hx0
 have HN := Lib.hid hn
 rw [← hn] at hn1 hcw HCW OW ⊢
 have hn0 : (0 : Int) < (n : Int) := by omega
 have NR := Lib.hid hw
 clear hx0 hn hw
 clear hcw
 go_cut [9] from 10 to 17 (fun t_ wx => t_ = .bool true ∧ wx = w1)
 case first =>
   have ex : ((⟨T.toArray⟩ : ByteArray).extract 0 5) = ⟨(T.take 5).toArray⟩ := by rw [ext_take, List.drop_zero]
   by_cases q1 : 5 < T.length
   · have e1 : decide (5 < T.length) = true := by simp [q1]
     have e2 : decide (5 < (T.length : Int)) = true := by simp; omega
     have e3 : (0 : Int) ≤ 5 := by omega
     have e4 : (5 : Int) ≤ (T.length : Int) := by omega
     by_cases q0 : T.take 5 = [114, 117, 108, 101, 32]
     · have e0 : (T.take 5 == [114, 117, 108, 101, 32]) = true := beq_iff_eq.2 q0
       clear q0 q1
       go_wp2
       go_meet
       exact ⟨rfl, rfl⟩
     · have e0 : (T.take 5 == [114, 117, 108, 101, 32]) = false := beq_eq_false_iff_ne.2 q0
       exact absurd ((rule_word q1).2 NR.out.1) q0
   · have e1 : decide (5 < T.length) = false := by simp [q1]
     have e2 : decide (5 < (T.length : Int)) = false := by simp; omega
     exact absurd NR.out.2 q1
 case rest =>
   obtain ⟨rfl, hwc⟩ := hcut
   replace hwc := hwc.symm
   subst hwc
   have ex : ((⟨T.toArray⟩ : ByteArray).extract 5 T.length) = ⟨(T.drop 5).toArray⟩ := by rw [ext_take, List.take_length]
   have e3 : (0 : Int) ≤ 5 := by omega
   have e4 : (5 : Int) ≤ (T.length : Int) := by have := NR.out.2; omega
   have hd5 : (T.drop 5).length ≤ 1000000000 := by rw [List.length_drop]; omega
   have KD := deskRule_any b S (T.drop 5) _ HS1.out hd5
   obtain ⟨st, hst⟩ : ∃ st, st = stepC S (.rule (T.drop 5)) := ⟨_, rfl⟩
   rw [← hst] at KD fin
   clear hst
   go_wp2_with (go_at_call 44; refine KD.mono ?_; rintro e w2 ⟨rfl, s2, g2⟩; have S2 := Lib.hid s2; have G2 := Lib.hid (grownBy_trans (grownBy_of_below X1.out) g2); clear s2 g2)
   go_ret
   exact ⟨by rw [fin.out] <;> rfl, by rw [fin.out]; exact S2.out, G2.out⟩
set_option maxHeartbeats 8000000 in
set_option maxRecDepth 100000 in
theorem deskLine_coupon (b : Nat) (S : Se) (T : List UInt8) (w : World) (h0 : SesD w b S) (hl : T.length ≤ 2000000) (hw : lnW T 0 = kCoupon ∧ lnN T = 2) :
   Calls Tryz.prog 24 #[.pointer (some ⟨b, 0, none⟩), .string ⟨T.toArray⟩] w (LineD b S T w) := by
 have fin : Hid (stepS S T = stepC S (.coupon (pI (lnW T 1)))) := by rw [Hid, stepS, cmdT_coupon hw]
 have HS := Lib.hid h0
 have hb0 : b < w.heap.size := by obtain ⟨_, _, _, _, _, sv⟩ := h0; exact sv.lt
 have hsz : (⟨T.toArray⟩ : ByteArray).size = T.length := by simp [ByteArray.size]
 have hn1 := List.length_pos_iff.2 (spl_ne 32 T)
 have SP := Lib.hid (splitAt_any T 32 w (by omega))

 clear h0
 unfold LineD
 go_enter Tryz.func24, Tryz.ntmps24
 go_upto_region 2 with (go_at_call 43; refine SP.out.mono ?_; rintro e w1 ⟨vw, rfl, ho, x1⟩; obtain ⟨wo, wcap, hvw, hg⟩ := owns_shape ho; subst hvw; obtain ⟨gw, rfl, _⟩ := hg hn1; have X1 := Lib.hid x1; have OW := Lib.hid ho; clear ho hg x1)
 have hcw : ∀ k, k < (spl 32 T).length → w1.cell? ⟨gw, k, none⟩ = some (.string ⟨(lnW T k).toArray⟩) := fun k hk => sw_cell OW.out k _ (by unfold lnW; rw [List.getD_eq_getElem?_getD, List.getElem?_eq_getElem hk]; rfl)
 have hgw := (OW.out.lt gw rfl).2
 have HS1 := Lib.hid (HS.out.below X1.out (Nat.le_refl _))
 have HCW := Lib.hid hcw
 have c0 := hcw 0 hn1
 obtain ⟨x0, hx0⟩ : ∃ x0, x0 = lnW T 0 := ⟨_, rfl⟩
 obtain ⟨n, hn⟩ : ∃ n, n = (spl 32 T).length := ⟨_, rfl⟩
 rw [← hx0] at c0
 have HX0 := Lib.hid hx0
 have HN := Lib.hid hn
 rw [← hn] at hn1 hcw HCW OW ⊢
 have hn0 : (0 : Int) < (n : Int) := by omega
 have NR : Hid (¬ (lnW T 0 = kRule ∧ 5 < T.length)) := fun k => absurd (k.1.symm.trans hw.1) (by decide)
 have NA : Hid (¬ (x0 = kAdd ∧ n = 3)) := by rw [HX0.out]; exact fun k => absurd (k.1.symm.trans hw.1) (by decide)
 have NT : Hid (¬ (x0 = kTake ∧ n = 3)) := by rw [HX0.out]; exact fun k => absurd (k.1.symm.trans hw.1) (by decide)
 have NC : Hid (x0 = kCoupon ∧ n = 2) := by rw [HX0.out, HN.out]; exact hw
 have c1 := hcw 1 (by have := NC.out.2; omega)
 have hn2 : (1 : Int) < (n : Int) := by have := NC.out.2; omega
 clear hx0 hn hw
 clear hcw
 go_cut [9] from 10 to 17 (fun t_ wx => t_ = .bool false ∧ wx = w1)
 case first =>
   have ex : ((⟨T.toArray⟩ : ByteArray).extract 0 5) = ⟨(T.take 5).toArray⟩ := by rw [ext_take, List.drop_zero]
   by_cases q1 : 5 < T.length
   · have e1 : decide (5 < T.length) = true := by simp [q1]
     have e2 : decide (5 < (T.length : Int)) = true := by simp; omega
     have e3 : (0 : Int) ≤ 5 := by omega
     have e4 : (5 : Int) ≤ (T.length : Int) := by omega
     by_cases q0 : T.take 5 = [114, 117, 108, 101, 32]
     · have e0 : (T.take 5 == [114, 117, 108, 101, 32]) = true := beq_iff_eq.2 q0
       exact absurd ⟨(rule_word q1).1 q0, q1⟩ NR.out
     · have e0 : (T.take 5 == [114, 117, 108, 101, 32]) = false := beq_eq_false_iff_ne.2 q0
       clear q0 q1
       go_wp2
       go_meet
       exact ⟨rfl, rfl⟩
   · have e1 : decide (5 < T.length) = false := by simp [q1]
     have e2 : decide (5 < (T.length : Int)) = false := by simp; omega
     clear q1
     go_wp2
     go_meet
     exact ⟨rfl, rfl⟩
 case rest =>
   obtain ⟨rfl, hwc⟩ := hcut
   replace hwc := hwc.symm
   subst hwc
   go_upto_region 4 with fail
   go_cut [22] from 23 to 31 (fun t_ wx => t_ = .bool false ∧ wx = w1)
   case first =>
     by_cases q0 : x0 = kAdd
     · have e0 : (x0 == [97, 100, 100]) = true := beq_iff_eq.2 q0
       by_cases q1 : n = 3
       · have e1 : (n == 3) = true := beq_iff_eq.2 q1
         have e2 : ((n : Int) == 3) = true := beq_iff_eq.2 (by omega)
         exact absurd ⟨q0, q1⟩ NA.out
       · have e1 : (n == 3) = false := beq_eq_false_iff_ne.2 q1
         have e2 : ((n : Int) == 3) = false := beq_eq_false_iff_ne.2 (by omega)
         clear q0 q1
         go_wp2
         go_meet
         exact ⟨rfl, rfl⟩
     · have e0 : (x0 == [97, 100, 100]) = false := beq_eq_false_iff_ne.2 q0
       clear q0
       go_wp2
       go_meet
       exact ⟨rfl, rfl⟩
   case rest =>
     obtain ⟨rfl, hwc⟩ := hcut
     replace hwc := hwc.symm
     subst hwc
     go_upto_region 6 with fail
     go_cut [42] from 43 to 51 (fun t_ wx => t_ = .bool false ∧ wx = w1)
     case first =>
       by_cases q0 : x0 = kTake
       · have e0 : (x0 == [116, 97, 107, 101]) = true := beq_iff_eq.2 q0
         by_cases q1 : n = 3
         · have e1 : (n == 3) = true := beq_iff_eq.2 q1
           have e2 : ((n : Int) == 3) = true := beq_iff_eq.2 (by omega)
           exact absurd ⟨q0, q1⟩ NT.out
         · have e1 : (n == 3) = false := beq_eq_false_iff_ne.2 q1
           have e2 : ((n : Int) == 3) = false := beq_eq_false_iff_ne.2 (by omega)
           clear q0 q1
           go_wp2
           go_meet
           exact ⟨rfl, rfl⟩
       · have e0 : (x0 == [116, 97, 107, 101]) = false := beq_eq_false_iff_ne.2 q0
         clear q0
         go_wp2
         go_meet
         exact ⟨rfl, rfl⟩
     case rest =>
       obtain ⟨rfl, hwc⟩ := hcut
       replace hwc := hwc.symm
       subst hwc
       go_upto_region 8 with fail
       go_cut [62] from 63 to 71 (fun t_ wx => t_ = .bool true ∧ wx = w1)
       case first =>
         by_cases q0 : x0 = kCoupon
         · have e0 : (x0 == [99, 111, 117, 112, 111, 110]) = true := beq_iff_eq.2 q0
           by_cases q1 : n = 2
           · have e1 : (n == 2) = true := beq_iff_eq.2 q1
             have e2 : ((n : Int) == 2) = true := beq_iff_eq.2 (by omega)
             clear q0 q1
             go_wp2
             go_meet
             exact ⟨rfl, rfl⟩
           · have e1 : (n == 2) = false := beq_eq_false_iff_ne.2 q1
             have e2 : ((n : Int) == 2) = false := beq_eq_false_iff_ne.2 (by omega)
             exact absurd NC.out.2 q1
         · have e0 : (x0 == [99, 111, 117, 112, 111, 110]) = false := beq_eq_false_iff_ne.2 q0
           exact absurd NC.out.1 q0
       case rest =>
         obtain ⟨rfl, hwc⟩ := hcut
         replace hwc := hwc.symm
         subst hwc
         have hx1l : (lnW T 1).length ≤ 1000000000 := by have := lnW_len T 1; omega
         obtain ⟨st, hst⟩ : ∃ st, st = stepC S (.coupon (pI (lnW T 1))) := ⟨_, rfl⟩
         have KDD : Hid (∀ W, SesD W b S → Calls Tryz.prog 48 #[.pointer (some ⟨b, 0, none⟩), .int .i64 (pI (lnW T 1))] W fun e w' => e = .returned (.string ⟨st.2.toArray⟩) ∧ SesD w' b st.1 ∧ W.grownBy w' (some b)) := fun W hW => by rw [hst]; exact deskCoupon_any b S _ W hW
         rw [← hst] at fin
         clear hst
         go_wp2_with (first
           | (go_at_call 46; refine (parseInt_any (lnW T 1) _ hx1l).mono ?_; rintro e w2 ⟨rfl, x2⟩; have X2 := Lib.hid (X1.out.trans (x2.mono X1.out.size)); have HS2 := Lib.hid (HS1.out.below x2 (Nat.le_refl _)); clear x2)
           | (go_at_call 48; refine (KDD.out _ HS2.out).mono ?_; rintro e w3 ⟨rfl, s3, g3⟩; have S3 := Lib.hid s3; have G3 := Lib.hid (grownBy_trans (grownBy_of_below X2.out) g3); clear s3 g3))
         go_ret
         exact ⟨by rw [fin.out] <;> rfl, by rw [fin.out]; exact S3.out, G3.out⟩
end Go.Proofs.YtijofgaekmahkaaGreatDoor
