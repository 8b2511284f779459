/- Joined texts: Plain law: the program's number of a word is the reference's; no program. Walks: the number of a word; yes and no. Walks: a line of a session in the program: what is none, total, pay. Conditions: none. -/
import Derived.Test.YtijofgaekmahkaaGreatDoorM33
import Derived.Lib.AtoiAllCases
namespace Go.Proofs.YtijofgaekmahkaaGreatDoor
open Go.RowKit
def wnV (T : List UInt8) : Int := if okI T = true ∧ 0 ≤ vaI T ∧ dec (vaI T) = T then vaI T else -1
theorem wn_pI {T : List UInt8} (hl : T.length ≤ 7) : wnV T = pI T := by
 unfold wnV
 by_cases h : okI T = true ∧ 0 ≤ vaI T ∧ dec (vaI T) = T
 · rw [if_pos h]
   obtain ⟨_, h0, h1⟩ := h
   obtain ⟨m, hm⟩ := Int.eq_ofNat_of_zero_le h0
   rw [hm] at h1 ⊢
   have hv : dvl T = m := by rw [← h1]; unfold dec; rw [Int.toNat_natCast]; exact dvl_digits m m (pow_big m)
   have hne : ¬ (T = [] ∨ 7 < T.length) := by
     rintro (h | h)
     · rw [h] at h1; exact dec_ne _ h1
     · omega
   have hd : ∀ b ∈ T, isD b = true := fun b hb => by
     rw [← h1] at hb
     have := dec_digits _ b hb
     simp [isD]
     omega
   rw [pI_in hne hd, hv, if_pos h1]
 · rw [if_neg h]
   symm
   unfold pI
   split
   · rfl
   · split
     · split
       · rename_i h1 h2 h3
         exfalso
         apply h
         have ha := atoiAll_dec (n := (dvl T : Int)) (by omega) (by rw [h3]; omega)
         rw [h3] at ha
         have ho : okI T = true := by unfold okI; rw [ha]
         have hv : vaI T = (dvl T : Int) := by unfold vaI; rw [ha]
         exact ⟨ho, by rw [hv]; omega, by rw [hv]; exact h3⟩
       · rfl
     · rfl
theorem vaI_up {T : List UInt8} (h : okI T = true) : vaI T ≤ 9223372036854775807 := by
 unfold okI at h
 unfold vaI
 cases ha : Lib.atoiAll T with
 | ok v => exact (Lib.atoiAll_bounds ha).2
 | _ => rw [ha] at h; simp at h
theorem EnvB.env {B : Nat} {W : World} (h : EnvB B W) : Env W := by
 obtain ⟨W0, _, h2, _, h4⟩ := h
 exact ⟨W0, h2, h4⟩
set_option maxHeartbeats 2000000 in
theorem wordNumber_any (T : List UInt8) (B : Nat) (W : World) (hE : EnvB B W) (hT : T.length ≤ 1000000000) :
   Calls Tryz.prog 30 #[.string ⟨T.toArray⟩] W fun e w' => e = .returned (.int .i64 (pI T)) ∧ Below W.heap.size W w' := by
 have hs : (⟨T.toArray⟩ : ByteArray).size = T.length := by simp [ByteArray.size]
 have HE := Lib.hid hE
 by_cases hl : 7 < T.length
 · have fin := Lib.hid (pI_out (.inr hl))
   have hlb : decide ((7 : Int) < (T.length : Int)) = true := by simp; omega
   have hlb2 : decide (7 < T.length) = true := by simp; omega
   clear hE hl
   go_enter Tryz.func30, Tryz.ntmps30
   go_wp2
   go_ret
   exact ⟨by rw [fin.out] <;> rfl, Below.refl _ _⟩
 · have hlb : decide ((7 : Int) < (T.length : Int)) = false := by simp; omega
   have hlb2 : decide (7 < T.length) = false := by simp; omega
   have fw := Lib.hid (wn_pI (T := T) (by omega)).symm
   clear hE hl
   cases ho : okI T
   · have fin : Hid (pI T = -1) := by rw [Hid, fw.out, wnV, if_neg (by rw [ho]; simp)]
     have HO := Lib.hid ho
     clear ho
     go_enter Tryz.func30, Tryz.ntmps30
     go_wp2_with (go_at_call 62; refine (atoi_any T _ HE.out.p hT).mono ?_; rintro e w1 ⟨er, rfl, _, h2, x1⟩; obtain ⟨te, pe, rfl⟩ := h2 HO.out; have X1 := Lib.hid x1; clear h2 x1)
     go_ret
     exact ⟨by rw [fin.out] <;> rfl, X1.out⟩
   · have HO := Lib.hid ho
     by_cases hv : vaI T < 0
     · have fin : Hid (pI T = -1) := by rw [Hid, fw.out, wnV, if_neg (fun h => by omega)]
       have hvb : decide (vaI T < 0) = true := by simp [hv]
       clear ho hv
       go_enter Tryz.func30, Tryz.ntmps30
       go_wp2_with (go_at_call 62; refine (atoi_any T _ HE.out.p hT).mono ?_; rintro e w1 ⟨er, rfl, h1, _, x1⟩; have h9 := h1 HO.out; subst h9; have X1 := Lib.hid x1; clear h1 x1)
       go_ret
       exact ⟨by rw [fin.out] <;> rfl, X1.out⟩
     · have hvb : decide (vaI T < 0) = false := by simp; omega
       have hup : vaI T ≤ 9223372036854775807 := vaI_up ho
       have it : Lib.itoa (vaI T) = dec (vaI T) := by
         obtain ⟨m, hm⟩ := Int.eq_ofNat_of_zero_le (show 0 ≤ vaI T by omega)
         rw [hm, Lib.itoa_nonneg]
         rfl
       have IT := Lib.hid it
       have hv0 : 0 ≤ vaI T := by omega
       clear it
       by_cases hd : dec (vaI T) = T
       · have fin : Hid (pI T = vaI T) := by rw [Hid, fw.out, wnV, if_pos ⟨ho, hv0, hd⟩]
         have HD := Lib.hid hd
         clear ho hv hd
         go_enter Tryz.func30, Tryz.ntmps30
         go_wp2_with (first
           | (go_at_call 62; refine (atoi_any T _ HE.out.p hT).mono ?_; rintro e w1 ⟨er, rfl, h1, _, x1⟩; have h9 := h1 HO.out; subst h9; have X1 := Lib.hid x1; have E1 := Lib.hid (HE.out.below x1).env; clear h1 x1)
           | (go_at_call 37; refine (Tryz.strconv_Itoa (vaI T) (by omega) hup _ E1.out.tab).mono ?_; rintro e w2 ⟨rfl, kk, os, hw2⟩; rw [IT.out, HD.out]; have X2 := Lib.hid (X1.out.trans ((by rw [hw2]; exact below_grow _ _ _ : Below w1.heap.size w1 w2).mono X1.out.size)); clear hw2))
         go_ret
         exact ⟨by rw [fin.out] <;> rfl, X2.out⟩
       · have fin : Hid (pI T = -1) := by rw [Hid, fw.out, wnV, if_neg (fun h => hd h.2.2)]
         have hne : (dec (vaI T) == T) = false := beq_eq_false_iff_ne.2 hd
         clear ho hv hd
         go_enter Tryz.func30, Tryz.ntmps30
         go_wp2_with (first
           | (go_at_call 62; refine (atoi_any T _ HE.out.p hT).mono ?_; rintro e w1 ⟨er, rfl, h1, _, x1⟩; have h9 := h1 HO.out; subst h9; have X1 := Lib.hid x1; have E1 := Lib.hid (HE.out.below x1).env; clear h1 x1)
           | (go_at_call 37; refine (Tryz.strconv_Itoa (vaI T) (by omega) hup _ E1.out.tab).mono ?_; rintro e w2 ⟨rfl, kk, os, hw2⟩; rw [IT.out]; have X2 := Lib.hid (X1.out.trans ((by rw [hw2]; exact below_grow _ _ _ : Below w1.heap.size w1 w2).mono X1.out.size)); clear hw2))
         go_ret
         exact ⟨by rw [fin.out] <;> rfl, X2.out⟩
set_option maxHeartbeats 400000 in
theorem said_any (b : Bool) (W : World) :
   Calls Tryz.prog 31 #[.bool b] W fun e w' => e = .returned (.string ⟨(if b then [111, 107] else [110, 111] : List UInt8).toArray⟩) ∧ w' = W := by
 cases b
 · go_enter Tryz.func31, Tryz.ntmps31
   go_wp2
   go_ret
   exact ⟨rfl, rfl⟩
 · go_enter Tryz.func31, Tryz.ntmps31
   go_wp2
   go_ret
   exact ⟨rfl, rfl⟩
end Go.Proofs.YtijofgaekmahkaaGreatDoor

namespace Go.Proofs.YtijofgaekmahkaaGreatDoor
open Go.RowKit
def LineI (b : Nat) (S : Se) (T : List UInt8) (w : World) (e : Ending) (w' : World) : Prop := e = .returned (.string ⟨(stepS S T).2.toArray⟩) ∧ SesI w' b (stepS S T).1 ∧ w.grownBy w' (some b)
set_option maxHeartbeats 8000000 in
set_option maxRecDepth 100000 in
theorem runLine_what (b B : Nat) (S : Se) (T : List UInt8) (w : World) (h0 : SesI w b S) (hE : EnvB B w) (hB : B ≤ b) (hl : T.length ≤ 2000000) (hw : NoW T) (h_total : T ≠ kTotal) (h_pay : T ≠ kPay) (h_notes : T ≠ kNotes) (h_conf : T ≠ kConf) :
   Calls Tryz.prog 22 #[.pointer (some ⟨b, 0, none⟩), .string ⟨T.toArray⟩] w (LineI b S T w) := by
 have fin : Hid (stepS S T = stepC S (.what)) := by rw [Hid, stepS, cmdT_what hw h_total h_pay h_notes h_conf]
 have HS := Lib.hid h0
 have hb0 : b < w.heap.size := by obtain ⟨_, _, _, _, _, sv⟩ := h0; exact sv.lt
 have HE := Lib.hid (hE.upTo (C := w.heap.size) (by omega))
 have hsz : (⟨T.toArray⟩ : ByteArray).size = T.length := by simp [ByteArray.size]
 have hn1 := List.length_pos_iff.2 (spl_ne 32 T)
 have sp := split_any T w hE.p (by omega)
 rw [words_spl _ T (Nat.le_refl _)] at sp
 obtain ⟨gw, hgwe⟩ : ∃ gw, gw = w.heap.size := ⟨_, rfl⟩
 rw [← hgwe] at sp
 have SP := Lib.hid sp
 have hgb : gw ≠ b := by omega
 have HGW := Lib.hid hgwe

 clear h0 hE hB sp hgwe
 unfold LineI
 go_enter Tryz.func22, Tryz.ntmps22
 go_upto_region 2 with (go_at_call 28; refine SP.out.mono ?_; rintro e w1 ⟨rfl, hc, hgw, x1⟩; rw [HGW.out] at x1; have X1 := Lib.hid x1; have HC := Lib.hid hc; clear hc x1)
 have hcw : ∀ k, k < (spl 32 T).length → w1.cell? ⟨gw, k, none⟩ = some (.string ⟨(lnW T k).toArray⟩) := fun k hk => HC.out k _ (by unfold lnW; rw [List.getD_eq_getElem?_getD, List.getElem?_eq_getElem hk]; rfl)
 have HS1 := Lib.hid (HS.out.below X1.out (Nat.le_refl _))
 have HE1 := Lib.hid ((HE.out.below X1.out).upTo X1.out.size)
 have HCW := Lib.hid hcw
 have c0 := hcw 0 hn1
 obtain ⟨x0, hx0⟩ : ∃ x0, x0 = lnW T 0 := ⟨_, rfl⟩
 obtain ⟨n, hn⟩ : ∃ n, n = (spl 32 T).length := ⟨_, rfl⟩
 rw [← hx0] at c0
 have HX0 := Lib.hid hx0
 have HN := Lib.hid hn
 rw [← hn] at hn1 hcw HCW ⊢
 have hn0 : (0 : Int) < (n : Int) := by omega
 have NR : Hid (¬ (x0 = kRule ∧ 5 < T.length)) := by rw [HX0.out]; exact hw.r
 have NA : Hid (¬ (x0 = kAdd ∧ n = 3)) := by rw [HX0.out, HN.out]; exact hw.a
 have NT : Hid (¬ (x0 = kTake ∧ n = 3)) := by rw [HX0.out, HN.out]; exact hw.t
 have NC : Hid (¬ (x0 = kCoupon ∧ n = 2)) := by rw [HX0.out, HN.out]; exact hw.c
 clear hx0 hn hw
 clear hcw
 go_upto_region 2 with fail
 go_cut [27] from 28 to 36 (fun t_ wx => t_ = .bool false ∧ wx = w1)
 case first =>
   by_cases q0 : x0 = kAdd
   · have e0 : (x0 == [97, 100, 100]) = true := beq_iff_eq.2 q0
     by_cases q1 : n = 3
     · have e1 : (n == 3) = true := beq_iff_eq.2 q1
       have e2 : ((n : Int) == 3) = true := beq_iff_eq.2 (by omega)
       exact absurd ⟨q0, q1⟩ NA.out
     · have e1 : (n == 3) = false := beq_eq_false_iff_ne.2 q1
       have e2 : ((n : Int) == 3) = false := beq_eq_false_iff_ne.2 (by omega)
       clear q0 q1
       go_wp2
       go_meet
       exact ⟨rfl, rfl⟩
   · have e0 : (x0 == [97, 100, 100]) = false := beq_eq_false_iff_ne.2 q0
     clear q0
     go_wp2
     go_meet
     exact ⟨rfl, rfl⟩
 case rest =>
   obtain ⟨rfl, hwc⟩ := hcut
   replace hwc := hwc.symm
   subst hwc
   go_upto_region 7 with fail
   go_cut [64] from 65 to 73 (fun t_ wx => t_ = .bool false ∧ wx = w1)
   case first =>
     by_cases q0 : x0 = kTake
     · have e0 : (x0 == [116, 97, 107, 101]) = true := beq_iff_eq.2 q0
       by_cases q1 : n = 3
       · have e1 : (n == 3) = true := beq_iff_eq.2 q1
         have e2 : ((n : Int) == 3) = true := beq_iff_eq.2 (by omega)
         exact absurd ⟨q0, q1⟩ NT.out
       · have e1 : (n == 3) = false := beq_eq_false_iff_ne.2 q1
         have e2 : ((n : Int) == 3) = false := beq_eq_false_iff_ne.2 (by omega)
         clear q0 q1
         go_wp2
         go_meet
         exact ⟨rfl, rfl⟩
     · have e0 : (x0 == [116, 97, 107, 101]) = false := beq_eq_false_iff_ne.2 q0
       clear q0
       go_wp2
       go_meet
       exact ⟨rfl, rfl⟩
   case rest =>
     obtain ⟨rfl, hwc⟩ := hcut
     replace hwc := hwc.symm
     subst hwc
     go_upto_region 12 with fail
     go_cut [101] from 102 to 110 (fun t_ wx => t_ = .bool false ∧ wx = w1)
     case first =>
       by_cases q0 : x0 = kRule
       · have e0 : (x0 == [114, 117, 108, 101]) = true := beq_iff_eq.2 q0
         by_cases q1 : 5 < T.length
         · have e1 : decide (5 < T.length) = true := by simp [q1]
           have e2 : decide (5 < (T.length : Int)) = true := by simp; omega
           exact absurd ⟨q0, q1⟩ NR.out
         · have e1 : decide (5 < T.length) = false := by simp [q1]
           have e2 : decide (5 < (T.length : Int)) = false := by simp; omega
           clear q0 q1
           go_wp2
           go_meet
           exact ⟨rfl, rfl⟩
       · have e0 : (x0 == [114, 117, 108, 101]) = false := beq_eq_false_iff_ne.2 q0
         clear q0
         go_wp2
         go_meet
         exact ⟨rfl, rfl⟩
     case rest =>
       obtain ⟨rfl, hwc⟩ := hcut
       replace hwc := hwc.symm
       subst hwc
       go_upto_region 19 with fail
       go_cut [138] from 139 to 147 (fun t_ wx => t_ = .bool false ∧ wx = w1)
       case first =>
         by_cases q0 : x0 = kCoupon
         · have e0 : (x0 == [99, 111, 117, 112, 111, 110]) = true := beq_iff_eq.2 q0
           by_cases q1 : n = 2
           · have e1 : (n == 2) = true := beq_iff_eq.2 q1
             have e2 : ((n : Int) == 2) = true := beq_iff_eq.2 (by omega)
             exact absurd ⟨q0, q1⟩ NC.out
           · have e1 : (n == 2) = false := beq_eq_false_iff_ne.2 q1
             have e2 : ((n : Int) == 2) = false := beq_eq_false_iff_ne.2 (by omega)
             clear q0 q1
             go_wp2
             go_meet
             exact ⟨rfl, rfl⟩
         · have e0 : (x0 == [99, 111, 117, 112, 111, 110]) = false := beq_eq_false_iff_ne.2 q0
           clear q0
           go_wp2
           go_meet
           exact ⟨rfl, rfl⟩
       case rest =>
         obtain ⟨rfl, hwc⟩ := hcut
         replace hwc := hwc.symm
         subst hwc
         have l_total : (T == [116, 111, 116, 97, 108]) = false := beq_eq_false_iff_ne.2 h_total
         have l_pay : (T == [112, 97, 121]) = false := beq_eq_false_iff_ne.2 h_pay
         have l_notes : (T == [110, 111, 116, 101, 115]) = false := beq_eq_false_iff_ne.2 h_notes
         have l_conf : (T == [99, 111, 110, 102, 108, 105, 99, 116, 115]) = false := beq_eq_false_iff_ne.2 h_conf
         rw [stepC_what] at fin
         go_wp2
         go_ret
         exact ⟨by rw [fin.out]; rfl, by rw [fin.out]; exact HS1.out, grownBy_of_below X1.out⟩
set_option maxHeartbeats 8000000 in
set_option maxRecDepth 100000 in
theorem runLine_total (b B : Nat) (S : Se) (T : List UInt8) (w : World) (h0 : SesI w b S) (hE : EnvB B w) (hB : B ≤ b) (hl : T.length ≤ 2000000) (hw : NoW T) (h : T = kTotal) :
   Calls Tryz.prog 22 #[.pointer (some ⟨b, 0, none⟩), .string ⟨T.toArray⟩] w (LineI b S T w) := by
 have fin : Hid (stepS S T = stepC S (.total)) := by rw [Hid, stepS, cmdT_total hw h]
 have HS := Lib.hid h0
 have hb0 : b < w.heap.size := by obtain ⟨_, _, _, _, _, sv⟩ := h0; exact sv.lt
 have HE := Lib.hid (hE.upTo (C := w.heap.size) (by omega))
 have hsz : (⟨T.toArray⟩ : ByteArray).size = T.length := by simp [ByteArray.size]
 have hn1 := List.length_pos_iff.2 (spl_ne 32 T)
 have sp := split_any T w hE.p (by omega)
 rw [words_spl _ T (Nat.le_refl _)] at sp
 obtain ⟨gw, hgwe⟩ : ∃ gw, gw = w.heap.size := ⟨_, rfl⟩
 rw [← hgwe] at sp
 have SP := Lib.hid sp
 have hgb : gw ≠ b := by omega
 have HGW := Lib.hid hgwe
 have HT := Lib.hid h
 clear h
 clear h0 hE hB sp hgwe
 unfold LineI
 go_enter Tryz.func22, Tryz.ntmps22
 go_upto_region 2 with (go_at_call 28; refine SP.out.mono ?_; rintro e w1 ⟨rfl, hc, hgw, x1⟩; rw [HGW.out] at x1; have X1 := Lib.hid x1; have HC := Lib.hid hc; clear hc x1)
 have hcw : ∀ k, k < (spl 32 T).length → w1.cell? ⟨gw, k, none⟩ = some (.string ⟨(lnW T k).toArray⟩) := fun k hk => HC.out k _ (by unfold lnW; rw [List.getD_eq_getElem?_getD, List.getElem?_eq_getElem hk]; rfl)
 have HS1 := Lib.hid (HS.out.below X1.out (Nat.le_refl _))
 have HE1 := Lib.hid ((HE.out.below X1.out).upTo X1.out.size)
 have HCW := Lib.hid hcw
 have c0 := hcw 0 hn1
 obtain ⟨x0, hx0⟩ : ∃ x0, x0 = lnW T 0 := ⟨_, rfl⟩
 obtain ⟨n, hn⟩ : ∃ n, n = (spl 32 T).length := ⟨_, rfl⟩
 rw [← hx0] at c0
 have HX0 := Lib.hid hx0
 have HN := Lib.hid hn
 rw [← hn] at hn1 hcw HCW ⊢
 have hn0 : (0 : Int) < (n : Int) := by omega
 have NR : Hid (¬ (x0 = kRule ∧ 5 < T.length)) := by rw [HX0.out]; exact hw.r
 have NA : Hid (¬ (x0 = kAdd ∧ n = 3)) := by rw [HX0.out, HN.out]; exact hw.a
 have NT : Hid (¬ (x0 = kTake ∧ n = 3)) := by rw [HX0.out, HN.out]; exact hw.t
 have NC : Hid (¬ (x0 = kCoupon ∧ n = 2)) := by rw [HX0.out, HN.out]; exact hw.c
 clear hx0 hn hw
 clear hcw
 go_upto_region 2 with fail
 go_cut [27] from 28 to 36 (fun t_ wx => t_ = .bool false ∧ wx = w1)
 case first =>
   by_cases q0 : x0 = kAdd
   · have e0 : (x0 == [97, 100, 100]) = true := beq_iff_eq.2 q0
     by_cases q1 : n = 3
     · have e1 : (n == 3) = true := beq_iff_eq.2 q1
       have e2 : ((n : Int) == 3) = true := beq_iff_eq.2 (by omega)
       exact absurd ⟨q0, q1⟩ NA.out
     · have e1 : (n == 3) = false := beq_eq_false_iff_ne.2 q1
       have e2 : ((n : Int) == 3) = false := beq_eq_false_iff_ne.2 (by omega)
       clear q0 q1
       go_wp2
       go_meet
       exact ⟨rfl, rfl⟩
   · have e0 : (x0 == [97, 100, 100]) = false := beq_eq_false_iff_ne.2 q0
     clear q0
     go_wp2
     go_meet
     exact ⟨rfl, rfl⟩
 case rest =>
   obtain ⟨rfl, hwc⟩ := hcut
   replace hwc := hwc.symm
   subst hwc
   go_upto_region 7 with fail
   go_cut [64] from 65 to 73 (fun t_ wx => t_ = .bool false ∧ wx = w1)
   case first =>
     by_cases q0 : x0 = kTake
     · have e0 : (x0 == [116, 97, 107, 101]) = true := beq_iff_eq.2 q0
       by_cases q1 : n = 3
       · have e1 : (n == 3) = true := beq_iff_eq.2 q1
         have e2 : ((n : Int) == 3) = true := beq_iff_eq.2 (by omega)
         exact absurd ⟨q0, q1⟩ NT.out
       · have e1 : (n == 3) = false := beq_eq_false_iff_ne.2 q1
         have e2 : ((n : Int) == 3) = false := beq_eq_false_iff_ne.2 (by omega)
         clear q0 q1
         go_wp2
         go_meet
         exact ⟨rfl, rfl⟩
     · have e0 : (x0 == [116, 97, 107, 101]) = false := beq_eq_false_iff_ne.2 q0
       clear q0
       go_wp2
       go_meet
       exact ⟨rfl, rfl⟩
   case rest =>
     obtain ⟨rfl, hwc⟩ := hcut
     replace hwc := hwc.symm
     subst hwc
     go_upto_region 12 with fail
     go_cut [101] from 102 to 110 (fun t_ wx => t_ = .bool false ∧ wx = w1)
     case first =>
       by_cases q0 : x0 = kRule
       · have e0 : (x0 == [114, 117, 108, 101]) = true := beq_iff_eq.2 q0
         by_cases q1 : 5 < T.length
         · have e1 : decide (5 < T.length) = true := by simp [q1]
           have e2 : decide (5 < (T.length : Int)) = true := by simp; omega
           exact absurd ⟨q0, q1⟩ NR.out
         · have e1 : decide (5 < T.length) = false := by simp [q1]
           have e2 : decide (5 < (T.length : Int)) = false := by simp; omega
           clear q0 q1
           go_wp2
           go_meet
           exact ⟨rfl, rfl⟩
       · have e0 : (x0 == [114, 117, 108, 101]) = false := beq_eq_false_iff_ne.2 q0
         clear q0
         go_wp2
         go_meet
         exact ⟨rfl, rfl⟩
     case rest =>
       obtain ⟨rfl, hwc⟩ := hcut
       replace hwc := hwc.symm
       subst hwc
       go_upto_region 19 with fail
       go_cut [138] from 139 to 147 (fun t_ wx => t_ = .bool false ∧ wx = w1)
       case first =>
         by_cases q0 : x0 = kCoupon
         · have e0 : (x0 == [99, 111, 117, 112, 111, 110]) = true := beq_iff_eq.2 q0
           by_cases q1 : n = 2
           · have e1 : (n == 2) = true := beq_iff_eq.2 q1
             have e2 : ((n : Int) == 2) = true := beq_iff_eq.2 (by omega)
             exact absurd ⟨q0, q1⟩ NC.out
           · have e1 : (n == 2) = false := beq_eq_false_iff_ne.2 q1
             have e2 : ((n : Int) == 2) = false := beq_eq_false_iff_ne.2 (by omega)
             clear q0 q1
             go_wp2
             go_meet
             exact ⟨rfl, rfl⟩
         · have e0 : (x0 == [99, 111, 117, 112, 111, 110]) = false := beq_eq_false_iff_ne.2 q0
           clear q0
           go_wp2
           go_meet
           exact ⟨rfl, rfl⟩
       case rest =>
         obtain ⟨rfl, hwc⟩ := hcut
         replace hwc := hwc.symm
         subst hwc
         have l_total : (T == [116, 111, 116, 97, 108]) = true := beq_iff_eq.2 HT.out
         obtain ⟨u, v, z, y, hb, sv⟩ := HS1.out
         have hb1 := sv.lt
         obtain ⟨l, hrl, hry, _, _⟩ := sv.r
         have hok := sv.ok.rs
         rw [← hrl] at hok
         have hcv := sv.ok.c
         have hcp := sv.ok.cp
         have hsS := sv.s
         have hsC := sv.c
         have hsQ := sv.q
         obtain ⟨yo, ycap, rfl, _⟩ := hry.open
         obtain ⟨so, scap, rfl, _⟩ := sv.s.arts (l := shopS)
         obtain ⟨co, ccap, rfl, _⟩ := sv.c.pairs
         obtain ⟨zo, zcap, rfl, _⟩ := sv.q.ints
         obtain ⟨⟨d00, d1, d2, d3⟩, _⟩ := row4 hb
         have d0 : w1.cell? ⟨b, 0, none⟩ = some (.slice so 4 scap) := d00
         clear d00
         have htb := totS_bd hcv
         have H1 : Hid (∀ x : Later w1, Calls Tryz.prog 38 #[.slice so 4 scap, .slice co S.c.length ccap] x.wld fun e w' => e = .returned (.int .i64 (totK shopS S.c S.c.length)) ∧ ∃ z : Later w1, w' = z.wld) := fun x => by
           rw [← fTot_yes hcv]
           exact Calls.later_of (implTot_any shopS _ S.c _ x.wld (hsS.below x.below (Nat.le_refl _)) (hsC.below x.below (Nat.le_refl _)))
         have H2 := Lib.hid (fun x : Later w1 => Calls.later_of (itoa_run (totK shopS S.c S.c.length) x.wld (HE1.out.below x.below).env (by omega) (by omega)))
         rw [stepC_total] at fin
         obtain ⟨tt, htt⟩ : ∃ tt, tt = totK shopS S.c S.c.length := ⟨_, rfl⟩
         rw [← htt] at H1 H2 fin
         clear htb hcv hcp hsS hsC hsQ hry hrl hok sv hb htt
         go_upto_region 33 with fail
         refine wp_region_later (by kernel_rfl) (by kernel_rfl) ?_
         repeat (go_big_quiet_step (first | (go_at_call 38; (with_reducible exact H1.out _)) | (go_at_call 37; (with_reducible exact H2.out _))))
         refine wpQuiet_nil ?_
         rintro _ ⟨x, rfl⟩
         go_wp2
         go_ret
         exact ⟨by rw [fin.out] <;> rfl, by rw [fin.out]; exact HS1.out.below x.below (Nat.le_refl _), grownBy_of_below (X1.out.trans (x.below.mono X1.out.size))⟩
set_option maxHeartbeats 8000000 in
set_option maxRecDepth 100000 in
theorem runLine_pay (b B : Nat) (S : Se) (T : List UInt8) (w : World) (h0 : SesI w b S) (hE : EnvB B w) (hB : B ≤ b) (hl : T.length ≤ 2000000) (hw : NoW T) (h : T = kPay) :
   Calls Tryz.prog 22 #[.pointer (some ⟨b, 0, none⟩), .string ⟨T.toArray⟩] w (LineI b S T w) := by
 have fin : Hid (stepS S T = stepC S (.pay)) := by rw [Hid, stepS, cmdT_pay hw h]
 have HS := Lib.hid h0
 have hb0 : b < w.heap.size := by obtain ⟨_, _, _, _, _, sv⟩ := h0; exact sv.lt
 have HE := Lib.hid (hE.upTo (C := w.heap.size) (by omega))
 have hsz : (⟨T.toArray⟩ : ByteArray).size = T.length := by simp [ByteArray.size]
 have hn1 := List.length_pos_iff.2 (spl_ne 32 T)
 have sp := split_any T w hE.p (by omega)
 rw [words_spl _ T (Nat.le_refl _)] at sp
 obtain ⟨gw, hgwe⟩ : ∃ gw, gw = w.heap.size := ⟨_, rfl⟩
 rw [← hgwe] at sp
 have SP := Lib.hid sp
 have hgb : gw ≠ b := by omega
 have HGW := Lib.hid hgwe
 have HT := Lib.hid h
 clear h
 clear h0 hE hB sp hgwe
 unfold LineI
 go_enter Tryz.func22, Tryz.ntmps22
 go_upto_region 2 with (go_at_call 28; refine SP.out.mono ?_; rintro e w1 ⟨rfl, hc, hgw, x1⟩; rw [HGW.out] at x1; have X1 := Lib.hid x1; have HC := Lib.hid hc; clear hc x1)
 have hcw : ∀ k, k < (spl 32 T).length → w1.cell? ⟨gw, k, none⟩ = some (.string ⟨(lnW T k).toArray⟩) := fun k hk => HC.out k _ (by unfold lnW; rw [List.getD_eq_getElem?_getD, List.getElem?_eq_getElem hk]; rfl)
 have HS1 := Lib.hid (HS.out.below X1.out (Nat.le_refl _))
 have HE1 := Lib.hid ((HE.out.below X1.out).upTo X1.out.size)
 have HCW := Lib.hid hcw
 have c0 := hcw 0 hn1
 obtain ⟨x0, hx0⟩ : ∃ x0, x0 = lnW T 0 := ⟨_, rfl⟩
 obtain ⟨n, hn⟩ : ∃ n, n = (spl 32 T).length := ⟨_, rfl⟩
 rw [← hx0] at c0
 have HX0 := Lib.hid hx0
 have HN := Lib.hid hn
 rw [← hn] at hn1 hcw HCW ⊢
 have hn0 : (0 : Int) < (n : Int) := by omega
 have NR : Hid (¬ (x0 = kRule ∧ 5 < T.length)) := by rw [HX0.out]; exact hw.r
 have NA : Hid (¬ (x0 = kAdd ∧ n = 3)) := by rw [HX0.out, HN.out]; exact hw.a
 have NT : Hid (¬ (x0 = kTake ∧ n = 3)) := by rw [HX0.out, HN.out]; exact hw.t
 have NC : Hid (¬ (x0 = kCoupon ∧ n = 2)) := by rw [HX0.out, HN.out]; exact hw.c
 clear hx0 hn hw
 clear hcw
 go_upto_region 2 with fail
 go_cut [27] from 28 to 36 (fun t_ wx => t_ = .bool false ∧ wx = w1)
 case first =>
   by_cases q0 : x0 = kAdd
   · have e0 : (x0 == [97, 100, 100]) = true := beq_iff_eq.2 q0
     by_cases q1 : n = 3
     · have e1 : (n == 3) = true := beq_iff_eq.2 q1
       have e2 : ((n : Int) == 3) = true := beq_iff_eq.2 (by omega)
       exact absurd ⟨q0, q1⟩ NA.out
     · have e1 : (n == 3) = false := beq_eq_false_iff_ne.2 q1
       have e2 : ((n : Int) == 3) = false := beq_eq_false_iff_ne.2 (by omega)
       clear q0 q1
       go_wp2
       go_meet
       exact ⟨rfl, rfl⟩
   · have e0 : (x0 == [97, 100, 100]) = false := beq_eq_false_iff_ne.2 q0
     clear q0
     go_wp2
     go_meet
     exact ⟨rfl, rfl⟩
 case rest =>
   obtain ⟨rfl, hwc⟩ := hcut
   replace hwc := hwc.symm
   subst hwc
   go_upto_region 7 with fail
   go_cut [64] from 65 to 73 (fun t_ wx => t_ = .bool false ∧ wx = w1)
   case first =>
     by_cases q0 : x0 = kTake
     · have e0 : (x0 == [116, 97, 107, 101]) = true := beq_iff_eq.2 q0
       by_cases q1 : n = 3
       · have e1 : (n == 3) = true := beq_iff_eq.2 q1
         have e2 : ((n : Int) == 3) = true := beq_iff_eq.2 (by omega)
         exact absurd ⟨q0, q1⟩ NT.out
       · have e1 : (n == 3) = false := beq_eq_false_iff_ne.2 q1
         have e2 : ((n : Int) == 3) = false := beq_eq_false_iff_ne.2 (by omega)
         clear q0 q1
         go_wp2
         go_meet
         exact ⟨rfl, rfl⟩
     · have e0 : (x0 == [116, 97, 107, 101]) = false := beq_eq_false_iff_ne.2 q0
       clear q0
       go_wp2
       go_meet
       exact ⟨rfl, rfl⟩
   case rest =>
     obtain ⟨rfl, hwc⟩ := hcut
     replace hwc := hwc.symm
     subst hwc
     go_upto_region 12 with fail
     go_cut [101] from 102 to 110 (fun t_ wx => t_ = .bool false ∧ wx = w1)
     case first =>
       by_cases q0 : x0 = kRule
       · have e0 : (x0 == [114, 117, 108, 101]) = true := beq_iff_eq.2 q0
         by_cases q1 : 5 < T.length
         · have e1 : decide (5 < T.length) = true := by simp [q1]
           have e2 : decide (5 < (T.length : Int)) = true := by simp; omega
           exact absurd ⟨q0, q1⟩ NR.out
         · have e1 : decide (5 < T.length) = false := by simp [q1]
           have e2 : decide (5 < (T.length : Int)) = false := by simp; omega
           clear q0 q1
           go_wp2
           go_meet
           exact ⟨rfl, rfl⟩
       · have e0 : (x0 == [114, 117, 108, 101]) = false := beq_eq_false_iff_ne.2 q0
         clear q0
         go_wp2
         go_meet
         exact ⟨rfl, rfl⟩
     case rest =>
       obtain ⟨rfl, hwc⟩ := hcut
       replace hwc := hwc.symm
       subst hwc
       go_upto_region 19 with fail
       go_cut [138] from 139 to 147 (fun t_ wx => t_ = .bool false ∧ wx = w1)
       case first =>
         by_cases q0 : x0 = kCoupon
         · have e0 : (x0 == [99, 111, 117, 112, 111, 110]) = true := beq_iff_eq.2 q0
           by_cases q1 : n = 2
           · have e1 : (n == 2) = true := beq_iff_eq.2 q1
             have e2 : ((n : Int) == 2) = true := beq_iff_eq.2 (by omega)
             exact absurd ⟨q0, q1⟩ NC.out
           · have e1 : (n == 2) = false := beq_eq_false_iff_ne.2 q1
             have e2 : ((n : Int) == 2) = false := beq_eq_false_iff_ne.2 (by omega)
             clear q0 q1
             go_wp2
             go_meet
             exact ⟨rfl, rfl⟩
         · have e0 : (x0 == [99, 111, 117, 112, 111, 110]) = false := beq_eq_false_iff_ne.2 q0
           clear q0
           go_wp2
           go_meet
           exact ⟨rfl, rfl⟩
       case rest =>
         obtain ⟨rfl, hwc⟩ := hcut
         replace hwc := hwc.symm
         subst hwc
         have l_total : (T == [116, 111, 116, 97, 108]) = false := beq_eq_false_iff_ne.2 (by rw [HT.out]; decide)
         have l_pay : (T == [112, 97, 121]) = true := beq_iff_eq.2 HT.out
         obtain ⟨u, v, z, y, hb, sv⟩ := HS1.out
         have hb1 := sv.lt
         obtain ⟨l, hrl, hry, _, _⟩ := sv.r
         have hok := sv.ok.rs
         rw [← hrl] at hok
         have hcv := sv.ok.c
         have hcp := sv.ok.cp
         have hsS := sv.s
         have hsC := sv.c
         have hsQ := sv.q
         obtain ⟨yo, ycap, rfl, _⟩ := hry.open
         obtain ⟨so, scap, rfl, _⟩ := sv.s.arts (l := shopS)
         obtain ⟨co, ccap, rfl, _⟩ := sv.c.pairs
         obtain ⟨zo, zcap, rfl, _⟩ := sv.q.ints
         obtain ⟨⟨d00, d1, d2, d3⟩, _⟩ := row4 hb
         have d0 : w1.cell? ⟨b, 0, none⟩ = some (.slice so 4 scap) := d00
         clear d00
         have H1 : Hid (∀ x : Later w1, Calls Tryz.prog 39 #[.slice so 4 scap, .slice co S.c.length ccap, .slice zo S.cp.length zcap, .slice yo l.length ycap] x.wld fun e w' => e = .returned (.int .i64 (payV shopS S.c S.cp (rls l))) ∧ ∃ z : Later w1, w' = z.wld) := fun x => Calls.later_of (implPay_any shopS _ S.c _ S.cp _ l _ x.wld (hsS.below x.below (Nat.le_refl _)) (hsC.below x.below (Nat.le_refl _)) (hsQ.below x.below (Nat.le_refl _)) (hry.below x.below (Nat.le_refl _)) hcv hcp hok)
         rw [stepC_pay, ← hrl] at fin
         have hpb := fun hq => payV_bd (cp := S.cp) hcv hok hq
         obtain ⟨pv, hpv⟩ : ∃ pv, pv = payV shopS S.c S.cp (rls l) := ⟨_, rfl⟩
         rw [← hpv] at H1 fin hpb
         cases hcl : clrQ (rls l)
         · have hpn : pv = -1 := by rw [hpv]; exact if_neg (by rw [hcl]; simp)
           have hd : decide (pv < 0) = true := by simp; omega
           rw [hcl] at fin
           clear hcv hcp hsS hsC hsQ hry hrl hok sv hb hpv hpb hcl hpn
           go_upto_region 35 with fail
           refine wp_region_later (by kernel_rfl) (by kernel_rfl) ?_
           repeat (go_big_quiet_step ((go_at_call 39; (with_reducible exact H1.out _))))
           refine wpQuiet_nil ?_
           rintro _ ⟨x, rfl⟩
           go_wp2
           go_ret
           exact ⟨by rw [fin.out]; rfl, by rw [fin.out]; exact HS1.out.below x.below (Nat.le_refl _), grownBy_of_below (X1.out.trans (x.below.mono X1.out.size))⟩
         · have hpn := hpb hcl
           have hd : decide (pv < 0) = false := by simp; omega
           have HD := Lib.hid (fun (x : Later w1) => itoa_run pv x.wld (HE1.out.below x.below).env (by omega) (by omega))
           rw [hcl] at fin
           clear hcv hcp hsS hsC hsQ hry hrl hok sv hb hpv hpb hcl hpn
           go_upto_region 35 with fail
           refine wp_region_later (by kernel_rfl) (by kernel_rfl) ?_
           repeat (go_big_quiet_step ((go_at_call 39; (with_reducible exact H1.out _))))
           refine wpQuiet_nil ?_
           rintro _ ⟨x, rfl⟩
           go_wp2_with (go_at_call 37; refine (HD.out x).mono ?_; rintro e w5 ⟨rfl, x5⟩; have X5 := Lib.hid (x.below.trans (x5.mono x.below.size)); clear x5)
           go_ret
           exact ⟨by rw [fin.out] <;> rfl, by rw [fin.out]; exact HS1.out.below X5.out (Nat.le_refl _), grownBy_of_below (X1.out.trans (X5.out.mono X1.out.size))⟩
end Go.Proofs.YtijofgaekmahkaaGreatDoor
