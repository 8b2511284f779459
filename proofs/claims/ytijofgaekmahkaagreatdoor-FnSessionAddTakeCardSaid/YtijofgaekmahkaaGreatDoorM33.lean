/- Joined texts: Walks: a line at the reference's desk, case by case. Walks: a line at the desk: total, pay. Conditions: none. -/
import Derived.Test.YtijofgaekmahkaaGreatDoorM32
import Derived.Deep.CutRange
import Derived.Deep.RegionHeld3
namespace Go.Proofs.YtijofgaekmahkaaGreatDoor
open Go.RowKit
theorem stepC_what (S : Se) : stepC S .what = (S, tWhat) := by simp only [stepC]
theorem stepC_total (S : Se) : stepC S .total = (S, dec (totK shopS S.c S.c.length)) := by simp only [stepC]
theorem stepC_pay (S : Se) : stepC S .pay = (S, if clrQ S.rs then dec (payV shopS S.c S.cp S.rs) else tNo) := by simp only [stepC]
def LineD (b : Nat) (S : Se) (T : List UInt8) (w : World) (e : Ending) (w' : World) : Prop := e = .returned (.string ⟨(stepS S T).2.toArray⟩) ∧ SesD w' b (stepS S T).1 ∧ w.grownBy w' (some b)
set_option maxHeartbeats 8000000 in
set_option maxRecDepth 100000 in
theorem deskLine_what (b : Nat) (S : Se) (T : List UInt8) (w : World) (h0 : SesD w b S) (hl : T.length ≤ 2000000) (hw : NoW T) (h_total : T ≠ kTotal) (h_pay : T ≠ kPay) (h_notes : T ≠ kNotes) (h_conf : T ≠ kConf) :
   Calls Tryz.prog 24 #[.pointer (some ⟨b, 0, none⟩), .string ⟨T.toArray⟩] w (LineD b S T w) := by
 have fin : Hid (stepS S T = stepC S (.what)) := by rw [Hid, stepS, cmdT_what hw h_total h_pay h_notes h_conf]
 have HS := Lib.hid h0
 have hb0 : b < w.heap.size := by obtain ⟨_, _, _, _, _, sv⟩ := h0; exact sv.lt
 have hsz : (⟨T.toArray⟩ : ByteArray).size = T.length := by simp [ByteArray.size]
 have hn1 := List.length_pos_iff.2 (spl_ne 32 T)
 have SP := Lib.hid (splitAt_any T 32 w (by omega))

 clear h0
 unfold LineD
 go_enter Tryz.func24, Tryz.ntmps24
 go_upto_region 2 with (go_at_call 43; refine SP.out.mono ?_; rintro e w1 ⟨vw, rfl, ho, x1⟩; obtain ⟨wo, wcap, hvw, hg⟩ := owns_shape ho; subst hvw; obtain ⟨gw, rfl, _⟩ := hg hn1; have X1 := Lib.hid x1; have OW := Lib.hid ho; clear ho hg x1)
 have hcw : ∀ k, k < (spl 32 T).length → w1.cell? ⟨gw, k, none⟩ = some (.string ⟨(lnW T k).toArray⟩) := fun k hk => sw_cell OW.out k _ (by unfold lnW; rw [List.getD_eq_getElem?_getD, List.getElem?_eq_getElem hk]; rfl)
 have hgw := (OW.out.lt gw rfl).2
 have HS1 := Lib.hid (HS.out.below X1.out (Nat.le_refl _))
 have HCW := Lib.hid hcw
 have c0 := hcw 0 hn1
 obtain ⟨x0, hx0⟩ : ∃ x0, x0 = lnW T 0 := ⟨_, rfl⟩
 obtain ⟨n, hn⟩ : ∃ n, n = (spl 32 T).length := ⟨_, rfl⟩
 rw [← hx0] at c0
 have HX0 := Lib.hid hx0
 have HN := Lib.hid hn
 rw [← hn] at hn1 hcw HCW OW ⊢
 have hn0 : (0 : Int) < (n : Int) := by omega
 have NR := Lib.hid hw.r
 have NA : Hid (¬ (x0 = kAdd ∧ n = 3)) := by rw [HX0.out, HN.out]; exact hw.a
 have NT : Hid (¬ (x0 = kTake ∧ n = 3)) := by rw [HX0.out, HN.out]; exact hw.t
 have NC : Hid (¬ (x0 = kCoupon ∧ n = 2)) := by rw [HX0.out, HN.out]; exact hw.c
 clear hx0 hn hw
 clear hcw
 go_cut [9] from 10 to 17 (fun t_ wx => t_ = .bool false ∧ wx = w1)
 case first =>
   have ex : ((⟨T.toArray⟩ : ByteArray).extract 0 5) = ⟨(T.take 5).toArray⟩ := by rw [ext_take, List.drop_zero]
   by_cases q1 : 5 < T.length
   · have e1 : decide (5 < T.length) = true := by simp [q1]
     have e2 : decide (5 < (T.length : Int)) = true := by simp; omega
     have e3 : (0 : Int) ≤ 5 := by omega
     have e4 : (5 : Int) ≤ (T.length : Int) := by omega
     by_cases q0 : T.take 5 = [114, 117, 108, 101, 32]
     · have e0 : (T.take 5 == [114, 117, 108, 101, 32]) = true := beq_iff_eq.2 q0
       exact absurd ⟨(rule_word q1).1 q0, q1⟩ NR.out
     · have e0 : (T.take 5 == [114, 117, 108, 101, 32]) = false := beq_eq_false_iff_ne.2 q0
       clear q0 q1
       go_wp2
       go_meet
       exact ⟨rfl, rfl⟩
   · have e1 : decide (5 < T.length) = false := by simp [q1]
     have e2 : decide (5 < (T.length : Int)) = false := by simp; omega
     clear q1
     go_wp2
     go_meet
     exact ⟨rfl, rfl⟩
 case rest =>
   obtain ⟨rfl, hwc⟩ := hcut
   replace hwc := hwc.symm
   subst hwc
   go_upto_region 4 with fail
   go_cut [22] from 23 to 31 (fun t_ wx => t_ = .bool false ∧ wx = w1)
   case first =>
     by_cases q0 : x0 = kAdd
     · have e0 : (x0 == [97, 100, 100]) = true := beq_iff_eq.2 q0
       by_cases q1 : n = 3
       · have e1 : (n == 3) = true := beq_iff_eq.2 q1
         have e2 : ((n : Int) == 3) = true := beq_iff_eq.2 (by omega)
         exact absurd ⟨q0, q1⟩ NA.out
       · have e1 : (n == 3) = false := beq_eq_false_iff_ne.2 q1
         have e2 : ((n : Int) == 3) = false := beq_eq_false_iff_ne.2 (by omega)
         clear q0 q1
         go_wp2
         go_meet
         exact ⟨rfl, rfl⟩
     · have e0 : (x0 == [97, 100, 100]) = false := beq_eq_false_iff_ne.2 q0
       clear q0
       go_wp2
       go_meet
       exact ⟨rfl, rfl⟩
   case rest =>
     obtain ⟨rfl, hwc⟩ := hcut
     replace hwc := hwc.symm
     subst hwc
     go_upto_region 6 with fail
     go_cut [42] from 43 to 51 (fun t_ wx => t_ = .bool false ∧ wx = w1)
     case first =>
       by_cases q0 : x0 = kTake
       · have e0 : (x0 == [116, 97, 107, 101]) = true := beq_iff_eq.2 q0
         by_cases q1 : n = 3
         · have e1 : (n == 3) = true := beq_iff_eq.2 q1
           have e2 : ((n : Int) == 3) = true := beq_iff_eq.2 (by omega)
           exact absurd ⟨q0, q1⟩ NT.out
         · have e1 : (n == 3) = false := beq_eq_false_iff_ne.2 q1
           have e2 : ((n : Int) == 3) = false := beq_eq_false_iff_ne.2 (by omega)
           clear q0 q1
           go_wp2
           go_meet
           exact ⟨rfl, rfl⟩
       · have e0 : (x0 == [116, 97, 107, 101]) = false := beq_eq_false_iff_ne.2 q0
         clear q0
         go_wp2
         go_meet
         exact ⟨rfl, rfl⟩
     case rest =>
       obtain ⟨rfl, hwc⟩ := hcut
       replace hwc := hwc.symm
       subst hwc
       go_upto_region 8 with fail
       go_cut [62] from 63 to 71 (fun t_ wx => t_ = .bool false ∧ wx = w1)
       case first =>
         by_cases q0 : x0 = kCoupon
         · have e0 : (x0 == [99, 111, 117, 112, 111, 110]) = true := beq_iff_eq.2 q0
           by_cases q1 : n = 2
           · have e1 : (n == 2) = true := beq_iff_eq.2 q1
             have e2 : ((n : Int) == 2) = true := beq_iff_eq.2 (by omega)
             exact absurd ⟨q0, q1⟩ NC.out
           · have e1 : (n == 2) = false := beq_eq_false_iff_ne.2 q1
             have e2 : ((n : Int) == 2) = false := beq_eq_false_iff_ne.2 (by omega)
             clear q0 q1
             go_wp2
             go_meet
             exact ⟨rfl, rfl⟩
         · have e0 : (x0 == [99, 111, 117, 112, 111, 110]) = false := beq_eq_false_iff_ne.2 q0
           clear q0
           go_wp2
           go_meet
           exact ⟨rfl, rfl⟩
       case rest =>
         obtain ⟨rfl, hwc⟩ := hcut
         replace hwc := hwc.symm
         subst hwc
         have l_total : (T == [116, 111, 116, 97, 108]) = false := beq_eq_false_iff_ne.2 h_total
         have l_pay : (T == [112, 97, 121]) = false := beq_eq_false_iff_ne.2 h_pay
         have l_notes : (T == [110, 111, 116, 101, 115]) = false := beq_eq_false_iff_ne.2 h_notes
         have l_conf : (T == [99, 111, 110, 102, 108, 105, 99, 116, 115]) = false := beq_eq_false_iff_ne.2 h_conf
         rw [stepC_what] at fin
         go_wp2
         go_ret
         exact ⟨by rw [fin.out]; rfl, by rw [fin.out]; exact HS1.out, grownBy_of_below X1.out⟩
set_option maxHeartbeats 8000000 in
set_option maxRecDepth 100000 in
theorem deskLine_notes (b : Nat) (S : Se) (T : List UInt8) (w : World) (h0 : SesD w b S) (hl : T.length ≤ 2000000) (hw : NoW T) (h : T = kNotes) :
   Calls Tryz.prog 24 #[.pointer (some ⟨b, 0, none⟩), .string ⟨T.toArray⟩] w (LineD b S T w) := by
 have fin : Hid (stepS S T = stepC S (.notes)) := by rw [Hid, stepS, cmdT_notes hw h]
 have HS := Lib.hid h0
 have hb0 : b < w.heap.size := by obtain ⟨_, _, _, _, _, sv⟩ := h0; exact sv.lt
 have hsz : (⟨T.toArray⟩ : ByteArray).size = T.length := by simp [ByteArray.size]
 have hn1 := List.length_pos_iff.2 (spl_ne 32 T)
 have SP := Lib.hid (splitAt_any T 32 w (by omega))
 have HT := Lib.hid h
 clear h
 clear h0
 unfold LineD
 go_enter Tryz.func24, Tryz.ntmps24
 go_upto_region 2 with (go_at_call 43; refine SP.out.mono ?_; rintro e w1 ⟨vw, rfl, ho, x1⟩; obtain ⟨wo, wcap, hvw, hg⟩ := owns_shape ho; subst hvw; obtain ⟨gw, rfl, _⟩ := hg hn1; have X1 := Lib.hid x1; have OW := Lib.hid ho; clear ho hg x1)
 have hcw : ∀ k, k < (spl 32 T).length → w1.cell? ⟨gw, k, none⟩ = some (.string ⟨(lnW T k).toArray⟩) := fun k hk => sw_cell OW.out k _ (by unfold lnW; rw [List.getD_eq_getElem?_getD, List.getElem?_eq_getElem hk]; rfl)
 have hgw := (OW.out.lt gw rfl).2
 have HS1 := Lib.hid (HS.out.below X1.out (Nat.le_refl _))
 have HCW := Lib.hid hcw
 have c0 := hcw 0 hn1
 obtain ⟨x0, hx0⟩ : ∃ x0, x0 = lnW T 0 := ⟨_, rfl⟩
 obtain ⟨n, hn⟩ : ∃ n, n = (spl 32 T).length := ⟨_, rfl⟩
 rw [← hx0] at c0
 have HX0 := Lib.hid hx0
 have HN := Lib.hid hn
 rw [← hn] at hn1 hcw HCW OW ⊢
 have hn0 : (0 : Int) < (n : Int) := by omega
 have NR := Lib.hid hw.r
 have NA : Hid (¬ (x0 = kAdd ∧ n = 3)) := by rw [HX0.out, HN.out]; exact hw.a
 have NT : Hid (¬ (x0 = kTake ∧ n = 3)) := by rw [HX0.out, HN.out]; exact hw.t
 have NC : Hid (¬ (x0 = kCoupon ∧ n = 2)) := by rw [HX0.out, HN.out]; exact hw.c
 clear hx0 hn hw
 clear hcw
 go_cut [9] from 10 to 17 (fun t_ wx => t_ = .bool false ∧ wx = w1)
 case first =>
   have ex : ((⟨T.toArray⟩ : ByteArray).extract 0 5) = ⟨(T.take 5).toArray⟩ := by rw [ext_take, List.drop_zero]
   by_cases q1 : 5 < T.length
   · have e1 : decide (5 < T.length) = true := by simp [q1]
     have e2 : decide (5 < (T.length : Int)) = true := by simp; omega
     have e3 : (0 : Int) ≤ 5 := by omega
     have e4 : (5 : Int) ≤ (T.length : Int) := by omega
     by_cases q0 : T.take 5 = [114, 117, 108, 101, 32]
     · have e0 : (T.take 5 == [114, 117, 108, 101, 32]) = true := beq_iff_eq.2 q0
       exact absurd ⟨(rule_word q1).1 q0, q1⟩ NR.out
     · have e0 : (T.take 5 == [114, 117, 108, 101, 32]) = false := beq_eq_false_iff_ne.2 q0
       clear q0 q1
       go_wp2
       go_meet
       exact ⟨rfl, rfl⟩
   · have e1 : decide (5 < T.length) = false := by simp [q1]
     have e2 : decide (5 < (T.length : Int)) = false := by simp; omega
     clear q1
     go_wp2
     go_meet
     exact ⟨rfl, rfl⟩
 case rest =>
   obtain ⟨rfl, hwc⟩ := hcut
   replace hwc := hwc.symm
   subst hwc
   go_upto_region 4 with fail
   go_cut [22] from 23 to 31 (fun t_ wx => t_ = .bool false ∧ wx = w1)
   case first =>
     by_cases q0 : x0 = kAdd
     · have e0 : (x0 == [97, 100, 100]) = true := beq_iff_eq.2 q0
       by_cases q1 : n = 3
       · have e1 : (n == 3) = true := beq_iff_eq.2 q1
         have e2 : ((n : Int) == 3) = true := beq_iff_eq.2 (by omega)
         exact absurd ⟨q0, q1⟩ NA.out
       · have e1 : (n == 3) = false := beq_eq_false_iff_ne.2 q1
         have e2 : ((n : Int) == 3) = false := beq_eq_false_iff_ne.2 (by omega)
         clear q0 q1
         go_wp2
         go_meet
         exact ⟨rfl, rfl⟩
     · have e0 : (x0 == [97, 100, 100]) = false := beq_eq_false_iff_ne.2 q0
       clear q0
       go_wp2
       go_meet
       exact ⟨rfl, rfl⟩
   case rest =>
     obtain ⟨rfl, hwc⟩ := hcut
     replace hwc := hwc.symm
     subst hwc
     go_upto_region 6 with fail
     go_cut [42] from 43 to 51 (fun t_ wx => t_ = .bool false ∧ wx = w1)
     case first =>
       by_cases q0 : x0 = kTake
       · have e0 : (x0 == [116, 97, 107, 101]) = true := beq_iff_eq.2 q0
         by_cases q1 : n = 3
         · have e1 : (n == 3) = true := beq_iff_eq.2 q1
           have e2 : ((n : Int) == 3) = true := beq_iff_eq.2 (by omega)
           exact absurd ⟨q0, q1⟩ NT.out
         · have e1 : (n == 3) = false := beq_eq_false_iff_ne.2 q1
           have e2 : ((n : Int) == 3) = false := beq_eq_false_iff_ne.2 (by omega)
           clear q0 q1
           go_wp2
           go_meet
           exact ⟨rfl, rfl⟩
       · have e0 : (x0 == [116, 97, 107, 101]) = false := beq_eq_false_iff_ne.2 q0
         clear q0
         go_wp2
         go_meet
         exact ⟨rfl, rfl⟩
     case rest =>
       obtain ⟨rfl, hwc⟩ := hcut
       replace hwc := hwc.symm
       subst hwc
       go_upto_region 8 with fail
       go_cut [62] from 63 to 71 (fun t_ wx => t_ = .bool false ∧ wx = w1)
       case first =>
         by_cases q0 : x0 = kCoupon
         · have e0 : (x0 == [99, 111, 117, 112, 111, 110]) = true := beq_iff_eq.2 q0
           by_cases q1 : n = 2
           · have e1 : (n == 2) = true := beq_iff_eq.2 q1
             have e2 : ((n : Int) == 2) = true := beq_iff_eq.2 (by omega)
             exact absurd ⟨q0, q1⟩ NC.out
           · have e1 : (n == 2) = false := beq_eq_false_iff_ne.2 q1
             have e2 : ((n : Int) == 2) = false := beq_eq_false_iff_ne.2 (by omega)
             clear q0 q1
             go_wp2
             go_meet
             exact ⟨rfl, rfl⟩
         · have e0 : (x0 == [99, 111, 117, 112, 111, 110]) = false := beq_eq_false_iff_ne.2 q0
           clear q0
           go_wp2
           go_meet
           exact ⟨rfl, rfl⟩
       case rest =>
         obtain ⟨rfl, hwc⟩ := hcut
         replace hwc := hwc.symm
         subst hwc
         have l_total : (T == [116, 111, 116, 97, 108]) = false := beq_eq_false_iff_ne.2 (by rw [HT.out]; decide)
         have l_pay : (T == [112, 97, 121]) = false := beq_eq_false_iff_ne.2 (by rw [HT.out]; decide)
         have l_notes : (T == [110, 111, 116, 101, 115]) = true := beq_iff_eq.2 HT.out
         have KD := deskNotes_any b S _ HS1.out
         obtain ⟨st, hst⟩ : ∃ st, st = stepC S (.notes) := ⟨_, rfl⟩
         rw [← hst] at KD fin
         clear hst
         go_wp2_with (go_at_call 52; refine KD.mono ?_; rintro e w2 ⟨rfl, s2, g2⟩; have S2 := Lib.hid s2; have G2 := Lib.hid (grownBy_trans (grownBy_of_below X1.out) g2); clear s2 g2)
         go_ret
         exact ⟨by rw [fin.out] <;> rfl, by rw [fin.out]; exact S2.out, G2.out⟩
set_option maxHeartbeats 8000000 in
set_option maxRecDepth 100000 in
theorem deskLine_conf (b : Nat) (S : Se) (T : List UInt8) (w : World) (h0 : SesD w b S) (hl : T.length ≤ 2000000) (hw : NoW T) (h : T = kConf) :
   Calls Tryz.prog 24 #[.pointer (some ⟨b, 0, none⟩), .string ⟨T.toArray⟩] w (LineD b S T w) := by
 have fin : Hid (stepS S T = stepC S (.conf)) := by rw [Hid, stepS, cmdT_conf hw h]
 have HS := Lib.hid h0
 have hb0 : b < w.heap.size := by obtain ⟨_, _, _, _, _, sv⟩ := h0; exact sv.lt
 have hsz : (⟨T.toArray⟩ : ByteArray).size = T.length := by simp [ByteArray.size]
 have hn1 := List.length_pos_iff.2 (spl_ne 32 T)
 have SP := Lib.hid (splitAt_any T 32 w (by omega))
 have HT := Lib.hid h
 clear h
 clear h0
 unfold LineD
 go_enter Tryz.func24, Tryz.ntmps24
 go_upto_region 2 with (go_at_call 43; refine SP.out.mono ?_; rintro e w1 ⟨vw, rfl, ho, x1⟩; obtain ⟨wo, wcap, hvw, hg⟩ := owns_shape ho; subst hvw; obtain ⟨gw, rfl, _⟩ := hg hn1; have X1 := Lib.hid x1; have OW := Lib.hid ho; clear ho hg x1)
 have hcw : ∀ k, k < (spl 32 T).length → w1.cell? ⟨gw, k, none⟩ = some (.string ⟨(lnW T k).toArray⟩) := fun k hk => sw_cell OW.out k _ (by unfold lnW; rw [List.getD_eq_getElem?_getD, List.getElem?_eq_getElem hk]; rfl)
 have hgw := (OW.out.lt gw rfl).2
 have HS1 := Lib.hid (HS.out.below X1.out (Nat.le_refl _))
 have HCW := Lib.hid hcw
 have c0 := hcw 0 hn1
 obtain ⟨x0, hx0⟩ : ∃ x0, x0 = lnW T 0 := ⟨_, rfl⟩
 obtain ⟨n, hn⟩ : ∃ n, n = (spl 32 T).length := ⟨_, rfl⟩
 rw [← hx0] at c0
 have HX0 := Lib.hid hx0
 have HN := Lib.hid hn
 rw [← hn] at hn1 hcw HCW OW ⊢
 have hn0 : (0 : Int) < (n : Int) := by omega
 have NR := Lib.hid hw.r
 have NA : Hid (¬ (x0 = kAdd ∧ n = 3)) := by rw [HX0.out, HN.out]; exact hw.a
 have NT : Hid (¬ (x0 = kTake ∧ n = 3)) := by rw [HX0.out, HN.out]; exact hw.t
 have NC : Hid (¬ (x0 = kCoupon ∧ n = 2)) := by rw [HX0.out, HN.out]; exact hw.c
 clear hx0 hn hw
 clear hcw
 go_cut [9] from 10 to 17 (fun t_ wx => t_ = .bool false ∧ wx = w1)
 case first =>
   have ex : ((⟨T.toArray⟩ : ByteArray).extract 0 5) = ⟨(T.take 5).toArray⟩ := by rw [ext_take, List.drop_zero]
   by_cases q1 : 5 < T.length
   · have e1 : decide (5 < T.length) = true := by simp [q1]
     have e2 : decide (5 < (T.length : Int)) = true := by simp; omega
     have e3 : (0 : Int) ≤ 5 := by omega
     have e4 : (5 : Int) ≤ (T.length : Int) := by omega
     by_cases q0 : T.take 5 = [114, 117, 108, 101, 32]
     · have e0 : (T.take 5 == [114, 117, 108, 101, 32]) = true := beq_iff_eq.2 q0
       exact absurd ⟨(rule_word q1).1 q0, q1⟩ NR.out
     · have e0 : (T.take 5 == [114, 117, 108, 101, 32]) = false := beq_eq_false_iff_ne.2 q0
       clear q0 q1
       go_wp2
       go_meet
       exact ⟨rfl, rfl⟩
   · have e1 : decide (5 < T.length) = false := by simp [q1]
     have e2 : decide (5 < (T.length : Int)) = false := by simp; omega
     clear q1
     go_wp2
     go_meet
     exact ⟨rfl, rfl⟩
 case rest =>
   obtain ⟨rfl, hwc⟩ := hcut
   replace hwc := hwc.symm
   subst hwc
   go_upto_region 4 with fail
   go_cut [22] from 23 to 31 (fun t_ wx => t_ = .bool false ∧ wx = w1)
   case first =>
     by_cases q0 : x0 = kAdd
     · have e0 : (x0 == [97, 100, 100]) = true := beq_iff_eq.2 q0
       by_cases q1 : n = 3
       · have e1 : (n == 3) = true := beq_iff_eq.2 q1
         have e2 : ((n : Int) == 3) = true := beq_iff_eq.2 (by omega)
         exact absurd ⟨q0, q1⟩ NA.out
       · have e1 : (n == 3) = false := beq_eq_false_iff_ne.2 q1
         have e2 : ((n : Int) == 3) = false := beq_eq_false_iff_ne.2 (by omega)
         clear q0 q1
         go_wp2
         go_meet
         exact ⟨rfl, rfl⟩
     · have e0 : (x0 == [97, 100, 100]) = false := beq_eq_false_iff_ne.2 q0
       clear q0
       go_wp2
       go_meet
       exact ⟨rfl, rfl⟩
   case rest =>
     obtain ⟨rfl, hwc⟩ := hcut
     replace hwc := hwc.symm
     subst hwc
     go_upto_region 6 with fail
     go_cut [42] from 43 to 51 (fun t_ wx => t_ = .bool false ∧ wx = w1)
     case first =>
       by_cases q0 : x0 = kTake
       · have e0 : (x0 == [116, 97, 107, 101]) = true := beq_iff_eq.2 q0
         by_cases q1 : n = 3
         · have e1 : (n == 3) = true := beq_iff_eq.2 q1
           have e2 : ((n : Int) == 3) = true := beq_iff_eq.2 (by omega)
           exact absurd ⟨q0, q1⟩ NT.out
         · have e1 : (n == 3) = false := beq_eq_false_iff_ne.2 q1
           have e2 : ((n : Int) == 3) = false := beq_eq_false_iff_ne.2 (by omega)
           clear q0 q1
           go_wp2
           go_meet
           exact ⟨rfl, rfl⟩
       · have e0 : (x0 == [116, 97, 107, 101]) = false := beq_eq_false_iff_ne.2 q0
         clear q0
         go_wp2
         go_meet
         exact ⟨rfl, rfl⟩
     case rest =>
       obtain ⟨rfl, hwc⟩ := hcut
       replace hwc := hwc.symm
       subst hwc
       go_upto_region 8 with fail
       go_cut [62] from 63 to 71 (fun t_ wx => t_ = .bool false ∧ wx = w1)
       case first =>
         by_cases q0 : x0 = kCoupon
         · have e0 : (x0 == [99, 111, 117, 112, 111, 110]) = true := beq_iff_eq.2 q0
           by_cases q1 : n = 2
           · have e1 : (n == 2) = true := beq_iff_eq.2 q1
             have e2 : ((n : Int) == 2) = true := beq_iff_eq.2 (by omega)
             exact absurd ⟨q0, q1⟩ NC.out
           · have e1 : (n == 2) = false := beq_eq_false_iff_ne.2 q1
             have e2 : ((n : Int) == 2) = false := beq_eq_false_iff_ne.2 (by omega)
             clear q0 q1
             go_wp2
             go_meet
             exact ⟨rfl, rfl⟩
         · have e0 : (x0 == [99, 111, 117, 112, 111, 110]) = false := beq_eq_false_iff_ne.2 q0
           clear q0
           go_wp2
           go_meet
           exact ⟨rfl, rfl⟩
       case rest =>
         obtain ⟨rfl, hwc⟩ := hcut
         replace hwc := hwc.symm
         subst hwc
         have l_total : (T == [116, 111, 116, 97, 108]) = false := beq_eq_false_iff_ne.2 (by rw [HT.out]; decide)
         have l_pay : (T == [112, 97, 121]) = false := beq_eq_false_iff_ne.2 (by rw [HT.out]; decide)
         have l_notes : (T == [110, 111, 116, 101, 115]) = false := beq_eq_false_iff_ne.2 (by rw [HT.out]; decide)
         have l_conf : (T == [99, 111, 110, 102, 108, 105, 99, 116, 115]) = true := beq_iff_eq.2 HT.out
         have KD := deskConf_any b S _ HS1.out
         obtain ⟨st, hst⟩ : ∃ st, st = stepC S (.conf) := ⟨_, rfl⟩
         rw [← hst] at KD fin
         clear hst
         go_wp2_with (go_at_call 53; refine KD.mono ?_; rintro e w2 ⟨rfl, s2, g2⟩; have S2 := Lib.hid s2; have G2 := Lib.hid (grownBy_trans (grownBy_of_below X1.out) g2); clear s2 g2)
         go_ret
         exact ⟨by rw [fin.out] <;> rfl, by rw [fin.out]; exact S2.out, G2.out⟩
end Go.Proofs.YtijofgaekmahkaaGreatDoor

namespace Go.Proofs.YtijofgaekmahkaaGreatDoor
open Go.RowKit
set_option maxHeartbeats 8000000 in
set_option maxRecDepth 100000 in
theorem deskLine_total (b : Nat) (S : Se) (T : List UInt8) (w : World) (h0 : SesD w b S) (hl : T.length ≤ 2000000) (hw : NoW T) (h : T = kTotal) :
   Calls Tryz.prog 24 #[.pointer (some ⟨b, 0, none⟩), .string ⟨T.toArray⟩] w (LineD b S T w) := by
 have fin : Hid (stepS S T = stepC S (.total)) := by rw [Hid, stepS, cmdT_total hw h]
 have HS := Lib.hid h0
 have hb0 : b < w.heap.size := by obtain ⟨_, _, _, _, _, sv⟩ := h0; exact sv.lt
 have hsz : (⟨T.toArray⟩ : ByteArray).size = T.length := by simp [ByteArray.size]
 have hn1 := List.length_pos_iff.2 (spl_ne 32 T)
 have SP := Lib.hid (splitAt_any T 32 w (by omega))
 have HT := Lib.hid h
 clear h
 clear h0
 unfold LineD
 go_enter Tryz.func24, Tryz.ntmps24
 go_upto_region 2 with (go_at_call 43; refine SP.out.mono ?_; rintro e w1 ⟨vw, rfl, ho, x1⟩; obtain ⟨wo, wcap, hvw, hg⟩ := owns_shape ho; subst hvw; obtain ⟨gw, rfl, _⟩ := hg hn1; have X1 := Lib.hid x1; have OW := Lib.hid ho; clear ho hg x1)
 have hcw : ∀ k, k < (spl 32 T).length → w1.cell? ⟨gw, k, none⟩ = some (.string ⟨(lnW T k).toArray⟩) := fun k hk => sw_cell OW.out k _ (by unfold lnW; rw [List.getD_eq_getElem?_getD, List.getElem?_eq_getElem hk]; rfl)
 have hgw := (OW.out.lt gw rfl).2
 have HS1 := Lib.hid (HS.out.below X1.out (Nat.le_refl _))
 have HCW := Lib.hid hcw
 have c0 := hcw 0 hn1
 obtain ⟨x0, hx0⟩ : ∃ x0, x0 = lnW T 0 := ⟨_, rfl⟩
 obtain ⟨n, hn⟩ : ∃ n, n = (spl 32 T).length := ⟨_, rfl⟩
 rw [← hx0] at c0
 have HX0 := Lib.hid hx0
 have HN := Lib.hid hn
 rw [← hn] at hn1 hcw HCW OW ⊢
 have hn0 : (0 : Int) < (n : Int) := by omega
 have NR := Lib.hid hw.r
 have NA : Hid (¬ (x0 = kAdd ∧ n = 3)) := by rw [HX0.out, HN.out]; exact hw.a
 have NT : Hid (¬ (x0 = kTake ∧ n = 3)) := by rw [HX0.out, HN.out]; exact hw.t
 have NC : Hid (¬ (x0 = kCoupon ∧ n = 2)) := by rw [HX0.out, HN.out]; exact hw.c
 clear hx0 hn hw
 clear hcw
 go_cut [9] from 10 to 17 (fun t_ wx => t_ = .bool false ∧ wx = w1)
 case first =>
   have ex : ((⟨T.toArray⟩ : ByteArray).extract 0 5) = ⟨(T.take 5).toArray⟩ := by rw [ext_take, List.drop_zero]
   by_cases q1 : 5 < T.length
   · have e1 : decide (5 < T.length) = true := by simp [q1]
     have e2 : decide (5 < (T.length : Int)) = true := by simp; omega
     have e3 : (0 : Int) ≤ 5 := by omega
     have e4 : (5 : Int) ≤ (T.length : Int) := by omega
     by_cases q0 : T.take 5 = [114, 117, 108, 101, 32]
     · have e0 : (T.take 5 == [114, 117, 108, 101, 32]) = true := beq_iff_eq.2 q0
       exact absurd ⟨(rule_word q1).1 q0, q1⟩ NR.out
     · have e0 : (T.take 5 == [114, 117, 108, 101, 32]) = false := beq_eq_false_iff_ne.2 q0
       clear q0 q1
       go_wp2
       go_meet
       exact ⟨rfl, rfl⟩
   · have e1 : decide (5 < T.length) = false := by simp [q1]
     have e2 : decide (5 < (T.length : Int)) = false := by simp; omega
     clear q1
     go_wp2
     go_meet
     exact ⟨rfl, rfl⟩
 case rest =>
   obtain ⟨rfl, hwc⟩ := hcut
   replace hwc := hwc.symm
   subst hwc
   go_upto_region 4 with fail
   go_cut [22] from 23 to 31 (fun t_ wx => t_ = .bool false ∧ wx = w1)
   case first =>
     by_cases q0 : x0 = kAdd
     · have e0 : (x0 == [97, 100, 100]) = true := beq_iff_eq.2 q0
       by_cases q1 : n = 3
       · have e1 : (n == 3) = true := beq_iff_eq.2 q1
         have e2 : ((n : Int) == 3) = true := beq_iff_eq.2 (by omega)
         exact absurd ⟨q0, q1⟩ NA.out
       · have e1 : (n == 3) = false := beq_eq_false_iff_ne.2 q1
         have e2 : ((n : Int) == 3) = false := beq_eq_false_iff_ne.2 (by omega)
         clear q0 q1
         go_wp2
         go_meet
         exact ⟨rfl, rfl⟩
     · have e0 : (x0 == [97, 100, 100]) = false := beq_eq_false_iff_ne.2 q0
       clear q0
       go_wp2
       go_meet
       exact ⟨rfl, rfl⟩
   case rest =>
     obtain ⟨rfl, hwc⟩ := hcut
     replace hwc := hwc.symm
     subst hwc
     go_upto_region 6 with fail
     go_cut [42] from 43 to 51 (fun t_ wx => t_ = .bool false ∧ wx = w1)
     case first =>
       by_cases q0 : x0 = kTake
       · have e0 : (x0 == [116, 97, 107, 101]) = true := beq_iff_eq.2 q0
         by_cases q1 : n = 3
         · have e1 : (n == 3) = true := beq_iff_eq.2 q1
           have e2 : ((n : Int) == 3) = true := beq_iff_eq.2 (by omega)
           exact absurd ⟨q0, q1⟩ NT.out
         · have e1 : (n == 3) = false := beq_eq_false_iff_ne.2 q1
           have e2 : ((n : Int) == 3) = false := beq_eq_false_iff_ne.2 (by omega)
           clear q0 q1
           go_wp2
           go_meet
           exact ⟨rfl, rfl⟩
       · have e0 : (x0 == [116, 97, 107, 101]) = false := beq_eq_false_iff_ne.2 q0
         clear q0
         go_wp2
         go_meet
         exact ⟨rfl, rfl⟩
     case rest =>
       obtain ⟨rfl, hwc⟩ := hcut
       replace hwc := hwc.symm
       subst hwc
       go_upto_region 8 with fail
       go_cut [62] from 63 to 71 (fun t_ wx => t_ = .bool false ∧ wx = w1)
       case first =>
         by_cases q0 : x0 = kCoupon
         · have e0 : (x0 == [99, 111, 117, 112, 111, 110]) = true := beq_iff_eq.2 q0
           by_cases q1 : n = 2
           · have e1 : (n == 2) = true := beq_iff_eq.2 q1
             have e2 : ((n : Int) == 2) = true := beq_iff_eq.2 (by omega)
             exact absurd ⟨q0, q1⟩ NC.out
           · have e1 : (n == 2) = false := beq_eq_false_iff_ne.2 q1
             have e2 : ((n : Int) == 2) = false := beq_eq_false_iff_ne.2 (by omega)
             clear q0 q1
             go_wp2
             go_meet
             exact ⟨rfl, rfl⟩
         · have e0 : (x0 == [99, 111, 117, 112, 111, 110]) = false := beq_eq_false_iff_ne.2 q0
           clear q0
           go_wp2
           go_meet
           exact ⟨rfl, rfl⟩
       case rest =>
         obtain ⟨rfl, hwc⟩ := hcut
         replace hwc := hwc.symm
         subst hwc
         have l_total : (T == [116, 111, 116, 97, 108]) = true := beq_iff_eq.2 HT.out
         obtain ⟨u, v, z, y, hb, sv⟩ := HS1.out
         have hb1 := sv.lt
         obtain ⟨l, hrl, hry, _, _⟩ := sv.r
         have hok := sv.ok.rs
         rw [← hrl] at hok
         have hcv := sv.ok.c
         have hcp := sv.ok.cp
         have hsS := sv.s
         have hsC := sv.c
         have hsQ := sv.q
         obtain ⟨yo, ycap, rfl, _⟩ := hry.open
         obtain ⟨so, scap, rfl, _⟩ := sv.s.arts (l := shopS)
         obtain ⟨co, ccap, rfl, _⟩ := sv.c.pairs
         obtain ⟨zo, zcap, rfl, _⟩ := sv.q.ints
         obtain ⟨⟨d00, d1, d2, d3⟩, _⟩ := row4 hb
         have d0 : w1.cell? ⟨b, 0, none⟩ = some (.slice so 4 scap) := d00
         clear d00
         have htb := totS_bd hcv
         have H1 : Hid (∀ x : Later w1, Calls Tryz.prog 50 #[.slice so 4 scap, .slice co S.c.length ccap] x.wld fun e w' => e = .returned (.int .i64 (totK shopS S.c S.c.length)) ∧ ∃ z : Later w1, w' = z.wld) := fun x => by
           rw [← fTot_yes hcv]
           exact Calls.later_of (specTot_any shopS _ S.c _ x.wld (hsS.below x.below (Nat.le_refl _)) (hsC.below x.below (Nat.le_refl _)) hcv)
         have H2 := Lib.hid (fun x : Later w1 => Calls.later_of (decimal_run (totK shopS S.c S.c.length) x.wld (by omega) (by omega)))
         rw [stepC_total] at fin
         obtain ⟨tt, htt⟩ : ∃ tt, tt = totK shopS S.c S.c.length := ⟨_, rfl⟩
         rw [← htt] at H1 H2 fin
         clear htb hcv hcp hsS hsC hsQ hry hrl hok sv hb htt
         go_upto_region 11 with fail
         refine wp_region_later (by kernel_rfl) (by kernel_rfl) ?_
         repeat (go_big_quiet_step (first | (go_at_call 50; (with_reducible exact H1.out _)) | (go_at_call 49; (with_reducible exact H2.out _))))
         refine wpQuiet_nil ?_
         rintro _ ⟨x, rfl⟩
         go_wp2
         go_ret
         exact ⟨by rw [fin.out] <;> rfl, by rw [fin.out]; exact HS1.out.below x.below (Nat.le_refl _), grownBy_of_below (X1.out.trans (x.below.mono X1.out.size))⟩
set_option maxHeartbeats 8000000 in
set_option maxRecDepth 100000 in
theorem deskLine_pay (b : Nat) (S : Se) (T : List UInt8) (w : World) (h0 : SesD w b S) (hl : T.length ≤ 2000000) (hw : NoW T) (h : T = kPay) :
   Calls Tryz.prog 24 #[.pointer (some ⟨b, 0, none⟩), .string ⟨T.toArray⟩] w (LineD b S T w) := by
 have fin : Hid (stepS S T = stepC S (.pay)) := by rw [Hid, stepS, cmdT_pay hw h]
 have HS := Lib.hid h0
 have hb0 : b < w.heap.size := by obtain ⟨_, _, _, _, _, sv⟩ := h0; exact sv.lt
 have hsz : (⟨T.toArray⟩ : ByteArray).size = T.length := by simp [ByteArray.size]
 have hn1 := List.length_pos_iff.2 (spl_ne 32 T)
 have SP := Lib.hid (splitAt_any T 32 w (by omega))
 have HT := Lib.hid h
 clear h
 clear h0
 unfold LineD
 go_enter Tryz.func24, Tryz.ntmps24
 go_upto_region 2 with (go_at_call 43; refine SP.out.mono ?_; rintro e w1 ⟨vw, rfl, ho, x1⟩; obtain ⟨wo, wcap, hvw, hg⟩ := owns_shape ho; subst hvw; obtain ⟨gw, rfl, _⟩ := hg hn1; have X1 := Lib.hid x1; have OW := Lib.hid ho; clear ho hg x1)
 have hcw : ∀ k, k < (spl 32 T).length → w1.cell? ⟨gw, k, none⟩ = some (.string ⟨(lnW T k).toArray⟩) := fun k hk => sw_cell OW.out k _ (by unfold lnW; rw [List.getD_eq_getElem?_getD, List.getElem?_eq_getElem hk]; rfl)
 have hgw := (OW.out.lt gw rfl).2
 have HS1 := Lib.hid (HS.out.below X1.out (Nat.le_refl _))
 have HCW := Lib.hid hcw
 have c0 := hcw 0 hn1
 obtain ⟨x0, hx0⟩ : ∃ x0, x0 = lnW T 0 := ⟨_, rfl⟩
 obtain ⟨n, hn⟩ : ∃ n, n = (spl 32 T).length := ⟨_, rfl⟩
 rw [← hx0] at c0
 have HX0 := Lib.hid hx0
 have HN := Lib.hid hn
 rw [← hn] at hn1 hcw HCW OW ⊢
 have hn0 : (0 : Int) < (n : Int) := by omega
 have NR := Lib.hid hw.r
 have NA : Hid (¬ (x0 = kAdd ∧ n = 3)) := by rw [HX0.out, HN.out]; exact hw.a
 have NT : Hid (¬ (x0 = kTake ∧ n = 3)) := by rw [HX0.out, HN.out]; exact hw.t
 have NC : Hid (¬ (x0 = kCoupon ∧ n = 2)) := by rw [HX0.out, HN.out]; exact hw.c
 clear hx0 hn hw
 clear hcw
 go_cut [9] from 10 to 17 (fun t_ wx => t_ = .bool false ∧ wx = w1)
 case first =>
   have ex : ((⟨T.toArray⟩ : ByteArray).extract 0 5) = ⟨(T.take 5).toArray⟩ := by rw [ext_take, List.drop_zero]
   by_cases q1 : 5 < T.length
   · have e1 : decide (5 < T.length) = true := by simp [q1]
     have e2 : decide (5 < (T.length : Int)) = true := by simp; omega
     have e3 : (0 : Int) ≤ 5 := by omega
     have e4 : (5 : Int) ≤ (T.length : Int) := by omega
     by_cases q0 : T.take 5 = [114, 117, 108, 101, 32]
     · have e0 : (T.take 5 == [114, 117, 108, 101, 32]) = true := beq_iff_eq.2 q0
       exact absurd ⟨(rule_word q1).1 q0, q1⟩ NR.out
     · have e0 : (T.take 5 == [114, 117, 108, 101, 32]) = false := beq_eq_false_iff_ne.2 q0
       clear q0 q1
       go_wp2
       go_meet
       exact ⟨rfl, rfl⟩
   · have e1 : decide (5 < T.length) = false := by simp [q1]
     have e2 : decide (5 < (T.length : Int)) = false := by simp; omega
     clear q1
     go_wp2
     go_meet
     exact ⟨rfl, rfl⟩
 case rest =>
   obtain ⟨rfl, hwc⟩ := hcut
   replace hwc := hwc.symm
   subst hwc
   go_upto_region 4 with fail
   go_cut [22] from 23 to 31 (fun t_ wx => t_ = .bool false ∧ wx = w1)
   case first =>
     by_cases q0 : x0 = kAdd
     · have e0 : (x0 == [97, 100, 100]) = true := beq_iff_eq.2 q0
       by_cases q1 : n = 3
       · have e1 : (n == 3) = true := beq_iff_eq.2 q1
         have e2 : ((n : Int) == 3) = true := beq_iff_eq.2 (by omega)
         exact absurd ⟨q0, q1⟩ NA.out
       · have e1 : (n == 3) = false := beq_eq_false_iff_ne.2 q1
         have e2 : ((n : Int) == 3) = false := beq_eq_false_iff_ne.2 (by omega)
         clear q0 q1
         go_wp2
         go_meet
         exact ⟨rfl, rfl⟩
     · have e0 : (x0 == [97, 100, 100]) = false := beq_eq_false_iff_ne.2 q0
       clear q0
       go_wp2
       go_meet
       exact ⟨rfl, rfl⟩
   case rest =>
     obtain ⟨rfl, hwc⟩ := hcut
     replace hwc := hwc.symm
     subst hwc
     go_upto_region 6 with fail
     go_cut [42] from 43 to 51 (fun t_ wx => t_ = .bool false ∧ wx = w1)
     case first =>
       by_cases q0 : x0 = kTake
       · have e0 : (x0 == [116, 97, 107, 101]) = true := beq_iff_eq.2 q0
         by_cases q1 : n = 3
         · have e1 : (n == 3) = true := beq_iff_eq.2 q1
           have e2 : ((n : Int) == 3) = true := beq_iff_eq.2 (by omega)
           exact absurd ⟨q0, q1⟩ NT.out
         · have e1 : (n == 3) = false := beq_eq_false_iff_ne.2 q1
           have e2 : ((n : Int) == 3) = false := beq_eq_false_iff_ne.2 (by omega)
           clear q0 q1
           go_wp2
           go_meet
           exact ⟨rfl, rfl⟩
       · have e0 : (x0 == [116, 97, 107, 101]) = false := beq_eq_false_iff_ne.2 q0
         clear q0
         go_wp2
         go_meet
         exact ⟨rfl, rfl⟩
     case rest =>
       obtain ⟨rfl, hwc⟩ := hcut
       replace hwc := hwc.symm
       subst hwc
       go_upto_region 8 with fail
       go_cut [62] from 63 to 71 (fun t_ wx => t_ = .bool false ∧ wx = w1)
       case first =>
         by_cases q0 : x0 = kCoupon
         · have e0 : (x0 == [99, 111, 117, 112, 111, 110]) = true := beq_iff_eq.2 q0
           by_cases q1 : n = 2
           · have e1 : (n == 2) = true := beq_iff_eq.2 q1
             have e2 : ((n : Int) == 2) = true := beq_iff_eq.2 (by omega)
             exact absurd ⟨q0, q1⟩ NC.out
           · have e1 : (n == 2) = false := beq_eq_false_iff_ne.2 q1
             have e2 : ((n : Int) == 2) = false := beq_eq_false_iff_ne.2 (by omega)
             clear q0 q1
             go_wp2
             go_meet
             exact ⟨rfl, rfl⟩
         · have e0 : (x0 == [99, 111, 117, 112, 111, 110]) = false := beq_eq_false_iff_ne.2 q0
           clear q0
           go_wp2
           go_meet
           exact ⟨rfl, rfl⟩
       case rest =>
         obtain ⟨rfl, hwc⟩ := hcut
         replace hwc := hwc.symm
         subst hwc
         have l_total : (T == [116, 111, 116, 97, 108]) = false := beq_eq_false_iff_ne.2 (by rw [HT.out]; decide)
         have l_pay : (T == [112, 97, 121]) = true := beq_iff_eq.2 HT.out
         obtain ⟨u, v, z, y, hb, sv⟩ := HS1.out
         have hb1 := sv.lt
         obtain ⟨l, hrl, hry, _, _⟩ := sv.r
         have hok := sv.ok.rs
         rw [← hrl] at hok
         have hcv := sv.ok.c
         have hcp := sv.ok.cp
         have hsS := sv.s
         have hsC := sv.c
         have hsQ := sv.q
         obtain ⟨yo, ycap, rfl, _⟩ := hry.open
         obtain ⟨so, scap, rfl, _⟩ := sv.s.arts (l := shopS)
         obtain ⟨co, ccap, rfl, _⟩ := sv.c.pairs
         obtain ⟨zo, zcap, rfl, _⟩ := sv.q.ints
         obtain ⟨⟨d00, d1, d2, d3⟩, _⟩ := row4 hb
         have d0 : w1.cell? ⟨b, 0, none⟩ = some (.slice so 4 scap) := d00
         clear d00
         have H1 : Hid (∀ x : Later w1, Calls Tryz.prog 51 #[.slice so 4 scap, .slice co S.c.length ccap, .slice zo S.cp.length zcap, .slice yo l.length ycap] x.wld fun e w' => e = .returned (.int .i64 (payV shopS S.c S.cp (rls l))) ∧ ∃ z : Later w1, w' = z.wld) := fun x => Calls.later_of (specPay_any shopS _ S.c _ S.cp _ l _ x.wld (hsS.below x.below (Nat.le_refl _)) (hsC.below x.below (Nat.le_refl _)) (hsQ.below x.below (Nat.le_refl _)) (hry.below x.below (Nat.le_refl _)) hcv hcp hok)
         rw [stepC_pay, ← hrl] at fin
         have hpb := fun hq => payV_bd (cp := S.cp) hcv hok hq
         obtain ⟨pv, hpv⟩ : ∃ pv, pv = payV shopS S.c S.cp (rls l) := ⟨_, rfl⟩
         rw [← hpv] at H1 fin hpb
         cases hcl : clrQ (rls l)
         · have hpn : pv = -1 := by rw [hpv]; exact if_neg (by rw [hcl]; simp)
           have hd : decide (pv < 0) = true := by simp; omega
           rw [hcl] at fin
           clear hcv hcp hsS hsC hsQ hry hrl hok sv hb hpv hpb hcl hpn
           go_upto_region 13 with fail
           refine wp_region_later (by kernel_rfl) (by kernel_rfl) ?_
           repeat (go_big_quiet_step ((go_at_call 51; (with_reducible exact H1.out _))))
           refine wpQuiet_nil ?_
           rintro _ ⟨x, rfl⟩
           go_wp2
           go_ret
           exact ⟨by rw [fin.out]; rfl, by rw [fin.out]; exact HS1.out.below x.below (Nat.le_refl _), grownBy_of_below (X1.out.trans (x.below.mono X1.out.size))⟩
         · have hpn := hpb hcl
           have hd : decide (pv < 0) = false := by simp; omega
           have HD := Lib.hid (fun W => decimal_run pv W (by omega) (by omega))
           rw [hcl] at fin
           clear hcv hcp hsS hsC hsQ hry hrl hok sv hb hpv hpb hcl hpn
           go_upto_region 13 with fail
           refine wp_region_later (by kernel_rfl) (by kernel_rfl) ?_
           repeat (go_big_quiet_step ((go_at_call 51; (with_reducible exact H1.out _))))
           refine wpQuiet_nil ?_
           rintro _ ⟨x, rfl⟩
           go_wp2_with (go_at_call 49; refine (HD.out _).mono ?_; rintro e w5 ⟨rfl, x5⟩; have X5 := Lib.hid (x.below.trans (x5.mono x.below.size)); clear x5)
           go_ret
           exact ⟨by rw [fin.out] <;> rfl, by rw [fin.out]; exact HS1.out.below X5.out (Nat.le_refl _), grownBy_of_below (X1.out.trans (X5.out.mono X1.out.size))⟩
end Go.Proofs.YtijofgaekmahkaaGreatDoor
