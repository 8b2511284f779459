/- Joined texts: Walks: a line at the desk: add, take. Walk: a line at the reference's desk, whatever it is. Walk: a session in the reference. Walks: a line of a session in the program, whatever it is; a session in the program. How arguments are opened: a slice of structs of numbers as a list of cells. Conditions: none. -/
import Derived.Test.YtijofgaekmahkaaGreatDoorM35
import Derived.Test.YtijofgaekmahkaaGreatDoorM38
import Derived.Deep.RegionHeld3
import Derived.ProofKit
import Derived.OpenShut
import Derived.Deep.Slices
namespace Go.Proofs.YtijofgaekmahkaaGreatDoor
open Go.RowKit
set_option maxHeartbeats 8000000 in
set_option maxRecDepth 100000 in
theorem deskLine_add (b : Nat) (S : Se) (T : List UInt8) (w : World) (h0 : SesD w b S) (hl : T.length ≤ 2000000) (hw : lnW T 0 = kAdd ∧ lnN T = 3) :
   Calls Tryz.prog 24 #[.pointer (some ⟨b, 0, none⟩), .string ⟨T.toArray⟩] w (LineD b S T w) := by
 have fin : Hid (stepS S T = stepC S (.add (pI (lnW T 1)) (pI (lnW T 2)))) := by rw [Hid, stepS, cmdT_add hw]
 have HS := Lib.hid h0
 have hb0 : b < w.heap.size := by obtain ⟨_, _, _, _, _, sv⟩ := h0; exact sv.lt
 have hsz : (⟨T.toArray⟩ : ByteArray).size = T.length := by simp [ByteArray.size]
 have hn1 := List.length_pos_iff.2 (spl_ne 32 T)
 have SP := Lib.hid (splitAt_any T 32 w (by omega))

 clear h0
 unfold LineD
 go_enter Tryz.func24, Tryz.ntmps24
 go_upto_region 2 with (go_at_call 43; refine SP.out.mono ?_; rintro e w1 ⟨vw, rfl, ho, x1⟩; obtain ⟨wo, wcap, hvw, hg⟩ := owns_shape ho; subst hvw; obtain ⟨gw, rfl, _⟩ := hg hn1; have X1 := Lib.hid x1; have OW := Lib.hid ho; clear ho hg x1)
 have hcw : ∀ k, k < (spl 32 T).length → w1.cell? ⟨gw, k, none⟩ = some (.string ⟨(lnW T k).toArray⟩) := fun k hk => sw_cell OW.out k _ (by unfold lnW; rw [List.getD_eq_getElem?_getD, List.getElem?_eq_getElem hk]; rfl)
 have hgw := (OW.out.lt gw rfl).2
 have HS1 := Lib.hid (HS.out.below X1.out (Nat.le_refl _))
 have HCW := Lib.hid hcw
 have c0 := hcw 0 hn1
 obtain ⟨x0, hx0⟩ : ∃ x0, x0 = lnW T 0 := ⟨_, rfl⟩
 obtain ⟨n, hn⟩ : ∃ n, n = (spl 32 T).length := ⟨_, rfl⟩
 rw [← hx0] at c0
 have HX0 := Lib.hid hx0
 have HN := Lib.hid hn
 rw [← hn] at hn1 hcw HCW OW ⊢
 have hn0 : (0 : Int) < (n : Int) := by omega
 have NR : Hid (¬ (lnW T 0 = kRule ∧ 5 < T.length)) := fun k => absurd (k.1.symm.trans hw.1) (by decide)
 have NX : Hid (x0 = kAdd ∧ n = 3) := by rw [HX0.out, HN.out]; exact hw
 clear hx0 hn hw
 clear hcw
 go_cut [9] from 10 to 17 (fun t_ wx => t_ = .bool false ∧ wx = w1)
 case first =>
   have ex : ((⟨T.toArray⟩ : ByteArray).extract 0 5) = ⟨(T.take 5).toArray⟩ := by rw [ext_take, List.drop_zero]
   by_cases q1 : 5 < T.length
   · have e1 : decide (5 < T.length) = true := by simp [q1]
     have e2 : decide (5 < (T.length : Int)) = true := by simp; omega
     have e3 : (0 : Int) ≤ 5 := by omega
     have e4 : (5 : Int) ≤ (T.length : Int) := by omega
     by_cases q0 : T.take 5 = [114, 117, 108, 101, 32]
     · have e0 : (T.take 5 == [114, 117, 108, 101, 32]) = true := beq_iff_eq.2 q0
       exact absurd ⟨(rule_word q1).1 q0, q1⟩ NR.out
     · have e0 : (T.take 5 == [114, 117, 108, 101, 32]) = false := beq_eq_false_iff_ne.2 q0
       clear q0 q1
       go_wp2
       go_meet
       exact ⟨rfl, rfl⟩
   · have e1 : decide (5 < T.length) = false := by simp [q1]
     have e2 : decide (5 < (T.length : Int)) = false := by simp; omega
     clear q1
     go_wp2
     go_meet
     exact ⟨rfl, rfl⟩
 case rest =>
   obtain ⟨rfl, hwc⟩ := hcut
   replace hwc := hwc.symm
   subst hwc
   go_upto_region 4 with fail
   go_cut [22] from 23 to 31 (fun t_ wx => t_ = .bool true ∧ wx = w1)
   case first =>
     by_cases q0 : x0 = kAdd
     · have e0 : (x0 == [97, 100, 100]) = true := beq_iff_eq.2 q0
       by_cases q1 : n = 3
       · have e1 : (n == 3) = true := beq_iff_eq.2 q1
         have e2 : ((n : Int) == 3) = true := beq_iff_eq.2 (by omega)
         clear q0 q1
         go_wp2
         go_meet
         exact ⟨rfl, rfl⟩
       · have e1 : (n == 3) = false := beq_eq_false_iff_ne.2 q1
         have e2 : ((n : Int) == 3) = false := beq_eq_false_iff_ne.2 (by omega)
         exact absurd NX.out.2 q1
     · have e0 : (x0 == [97, 100, 100]) = false := beq_eq_false_iff_ne.2 q0
       exact absurd NX.out.1 q0
   case rest =>
     obtain ⟨rfl, hwc⟩ := hcut
     replace hwc := hwc.symm
     subst hwc
     have hx1l := lnW_len T 1
     have hx2l := lnW_len T 2
     have g1 := HCW.out 1 (by have := NX.out.2; omega)
     have g2 := HCW.out 2 (by have := NX.out.2; omega)
     obtain ⟨x1, hx1⟩ : ∃ x1, x1 = lnW T 1 := ⟨_, rfl⟩
     obtain ⟨x2, hx2⟩ : ∃ x2, x2 = lnW T 2 := ⟨_, rfl⟩
     rw [← hx1] at g1 hx1l fin
     rw [← hx2] at g2 hx2l fin
     obtain ⟨st, hst⟩ : ∃ st, st = stepC S (.add (pI x1) (pI x2)) := ⟨_, rfl⟩
     rw [← hst] at fin
     have hgb : gw ≠ b := by have := (OW.out.lt gw rfl).1; omega
     have hn3 : (2 : Int) < (n : Int) := by have := NX.out.2; omega
     have hn4 : (1 : Int) < (n : Int) := by have := NX.out.2; omega
     have hn5 : 2 < n := by have := NX.out.2; omega
     have hn6 : 1 < n := by have := NX.out.2; omega
     have K1 : Hid (∀ W', Below w1.heap.size w1 W' → Calls Tryz.prog 46 #[.string ⟨x1.toArray⟩] W' fun e w' => e = .returned (.int .i64 (pI x1)) ∧ Below w1.heap.size w1 w') := fun W' hW => (parseInt_any x1 W' (by omega)).mono fun e w' h => ⟨h.1, hW.trans (h.2.mono hW.size)⟩
     have K2 : Hid (∀ W', Below w1.heap.size w1 W' → Calls Tryz.prog 46 #[.string ⟨x2.toArray⟩] W' fun e w' => e = .returned (.int .i64 (pI x2)) ∧ Below w1.heap.size w1 w') := fun W' hW => (parseInt_any x2 W' (by omega)).mono fun e w' h => ⟨h.1, hW.trans (h.2.mono hW.size)⟩
     have KD : Hid (∀ W', Below w1.heap.size w1 W' → Calls Tryz.prog 45 #[.pointer (some ⟨b, 0, none⟩), .int .i64 (pI x1), .int .i64 (pI x2)] W' fun e w' => e = .returned (.string ⟨st.2.toArray⟩) ∧ SesD w' b st.1 ∧ w1.grownBy w' (some b)) := fun W' hW => by
       rw [hst]
       exact (deskAdd_any b S (pI x1) (pI x2) W' (HS1.out.below hW (Nat.le_refl _))).mono fun e w' h => ⟨h.1, h.2.1, grownBy_trans (grownBy_of_below hW) h.2.2⟩
     have KP := Lib.hid (show ∀ w' : World, Below w1.heap.size w1 w' → w'.cell? ⟨gw, 1, none⟩ = some (.string ⟨x1.toArray⟩) ∧ w'.cell? ⟨gw, 2, none⟩ = some (.string ⟨x2.toArray⟩) from fun w' h => ⟨(h.cell (p := ⟨gw, 1, none⟩) hgw).trans g1, (h.cell (p := ⟨gw, 2, none⟩) hgw).trans g2⟩)
     have KQ := Lib.hid (show ∀ w' : World, w1.grownBy w' (some b) → w'.cell? ⟨gw, 1, none⟩ = some (.string ⟨x1.toArray⟩) ∧ w'.cell? ⟨gw, 2, none⟩ = some (.string ⟨x2.toArray⟩) from fun w' h => ⟨(World.cell?_of_block (a := ⟨gw, 1, none⟩) (h.block gw hgw (by simpa using hgb))).trans g1, (World.cell?_of_block (a := ⟨gw, 2, none⟩) (h.block gw hgw (by simpa using hgb))).trans g2⟩)
     have B0 : Below w1.heap.size w1 w1.drew := (Below.refl _ w1).drew
     clear hst hx1 hx2 hgb hx1l hx2l
     go_upto_region 5 with fail
     go_region_held3 (fun w' => w'.cell? ⟨gw, 1, none⟩ = some (.string ⟨x1.toArray⟩) ∧ w'.cell? ⟨gw, 2, none⟩ = some (.string ⟨x2.toArray⟩))
       (first
         | assumption
         | exact KP.out _ B0
         | exact KQ.out _ z4
         | exact KP.out _ y3
         | exact KP.out _ y2)
       ((first
         | (go_at_call 46; (with_reducible refine (K1.out _ (by assumption)).mono ?_); rintro e w2 ⟨rfl, y2⟩)
         | (go_at_call 46; (with_reducible refine (K2.out _ (by assumption)).mono ?_); rintro e w3 ⟨rfl, y3⟩)
         | (go_at_call 45; (with_reducible refine (KD.out _ (by assumption)).mono ?_); rintro e w4 ⟨rfl, s4, z4⟩)))
     all_goals go_wp2
     all_goals go_ret
     all_goals exact ⟨by rw [fin.out] <;> rfl, by rw [fin.out]; exact s4, grownBy_trans (grownBy_of_below X1.out) z4⟩
set_option maxHeartbeats 8000000 in
set_option maxRecDepth 100000 in
theorem deskLine_take (b : Nat) (S : Se) (T : List UInt8) (w : World) (h0 : SesD w b S) (hl : T.length ≤ 2000000) (hw : lnW T 0 = kTake ∧ lnN T = 3) :
   Calls Tryz.prog 24 #[.pointer (some ⟨b, 0, none⟩), .string ⟨T.toArray⟩] w (LineD b S T w) := by
 have fin : Hid (stepS S T = stepC S (.take (pI (lnW T 1)) (pI (lnW T 2)))) := by rw [Hid, stepS, cmdT_take hw]
 have HS := Lib.hid h0
 have hb0 : b < w.heap.size := by obtain ⟨_, _, _, _, _, sv⟩ := h0; exact sv.lt
 have hsz : (⟨T.toArray⟩ : ByteArray).size = T.length := by simp [ByteArray.size]
 have hn1 := List.length_pos_iff.2 (spl_ne 32 T)
 have SP := Lib.hid (splitAt_any T 32 w (by omega))

 clear h0
 unfold LineD
 go_enter Tryz.func24, Tryz.ntmps24
 go_upto_region 2 with (go_at_call 43; refine SP.out.mono ?_; rintro e w1 ⟨vw, rfl, ho, x1⟩; obtain ⟨wo, wcap, hvw, hg⟩ := owns_shape ho; subst hvw; obtain ⟨gw, rfl, _⟩ := hg hn1; have X1 := Lib.hid x1; have OW := Lib.hid ho; clear ho hg x1)
 have hcw : ∀ k, k < (spl 32 T).length → w1.cell? ⟨gw, k, none⟩ = some (.string ⟨(lnW T k).toArray⟩) := fun k hk => sw_cell OW.out k _ (by unfold lnW; rw [List.getD_eq_getElem?_getD, List.getElem?_eq_getElem hk]; rfl)
 have hgw := (OW.out.lt gw rfl).2
 have HS1 := Lib.hid (HS.out.below X1.out (Nat.le_refl _))
 have HCW := Lib.hid hcw
 have c0 := hcw 0 hn1
 obtain ⟨x0, hx0⟩ : ∃ x0, x0 = lnW T 0 := ⟨_, rfl⟩
 obtain ⟨n, hn⟩ : ∃ n, n = (spl 32 T).length := ⟨_, rfl⟩
 rw [← hx0] at c0
 have HX0 := Lib.hid hx0
 have HN := Lib.hid hn
 rw [← hn] at hn1 hcw HCW OW ⊢
 have hn0 : (0 : Int) < (n : Int) := by omega
 have NR : Hid (¬ (lnW T 0 = kRule ∧ 5 < T.length)) := fun k => absurd (k.1.symm.trans hw.1) (by decide)
 have NA : Hid (¬ (x0 = kAdd ∧ n = 3)) := by rw [HX0.out]; exact fun k => absurd (k.1.symm.trans hw.1) (by decide)
 have NX : Hid (x0 = kTake ∧ n = 3) := by rw [HX0.out, HN.out]; exact hw
 clear hx0 hn hw
 clear hcw
 go_cut [9] from 10 to 17 (fun t_ wx => t_ = .bool false ∧ wx = w1)
 case first =>
   have ex : ((⟨T.toArray⟩ : ByteArray).extract 0 5) = ⟨(T.take 5).toArray⟩ := by rw [ext_take, List.drop_zero]
   by_cases q1 : 5 < T.length
   · have e1 : decide (5 < T.length) = true := by simp [q1]
     have e2 : decide (5 < (T.length : Int)) = true := by simp; omega
     have e3 : (0 : Int) ≤ 5 := by omega
     have e4 : (5 : Int) ≤ (T.length : Int) := by omega
     by_cases q0 : T.take 5 = [114, 117, 108, 101, 32]
     · have e0 : (T.take 5 == [114, 117, 108, 101, 32]) = true := beq_iff_eq.2 q0
       exact absurd ⟨(rule_word q1).1 q0, q1⟩ NR.out
     · have e0 : (T.take 5 == [114, 117, 108, 101, 32]) = false := beq_eq_false_iff_ne.2 q0
       clear q0 q1
       go_wp2
       go_meet
       exact ⟨rfl, rfl⟩
   · have e1 : decide (5 < T.length) = false := by simp [q1]
     have e2 : decide (5 < (T.length : Int)) = false := by simp; omega
     clear q1
     go_wp2
     go_meet
     exact ⟨rfl, rfl⟩
 case rest =>
   obtain ⟨rfl, hwc⟩ := hcut
   replace hwc := hwc.symm
   subst hwc
   go_upto_region 4 with fail
   go_cut [22] from 23 to 31 (fun t_ wx => t_ = .bool false ∧ wx = w1)
   case first =>
     by_cases q0 : x0 = kAdd
     · have e0 : (x0 == [97, 100, 100]) = true := beq_iff_eq.2 q0
       by_cases q1 : n = 3
       · have e1 : (n == 3) = true := beq_iff_eq.2 q1
         have e2 : ((n : Int) == 3) = true := beq_iff_eq.2 (by omega)
         exact absurd ⟨q0, q1⟩ NA.out
       · have e1 : (n == 3) = false := beq_eq_false_iff_ne.2 q1
         have e2 : ((n : Int) == 3) = false := beq_eq_false_iff_ne.2 (by omega)
         clear q0 q1
         go_wp2
         go_meet
         exact ⟨rfl, rfl⟩
     · have e0 : (x0 == [97, 100, 100]) = false := beq_eq_false_iff_ne.2 q0
       clear q0
       go_wp2
       go_meet
       exact ⟨rfl, rfl⟩
   case rest =>
     obtain ⟨rfl, hwc⟩ := hcut
     replace hwc := hwc.symm
     subst hwc
     go_upto_region 6 with fail
     go_cut [42] from 43 to 51 (fun t_ wx => t_ = .bool true ∧ wx = w1)
     case first =>
       by_cases q0 : x0 = kTake
       · have e0 : (x0 == [116, 97, 107, 101]) = true := beq_iff_eq.2 q0
         by_cases q1 : n = 3
         · have e1 : (n == 3) = true := beq_iff_eq.2 q1
           have e2 : ((n : Int) == 3) = true := beq_iff_eq.2 (by omega)
           clear q0 q1
           go_wp2
           go_meet
           exact ⟨rfl, rfl⟩
         · have e1 : (n == 3) = false := beq_eq_false_iff_ne.2 q1
           have e2 : ((n : Int) == 3) = false := beq_eq_false_iff_ne.2 (by omega)
           exact absurd NX.out.2 q1
       · have e0 : (x0 == [116, 97, 107, 101]) = false := beq_eq_false_iff_ne.2 q0
         exact absurd NX.out.1 q0
     case rest =>
       obtain ⟨rfl, hwc⟩ := hcut
       replace hwc := hwc.symm
       subst hwc
       have hx1l := lnW_len T 1
       have hx2l := lnW_len T 2
       have g1 := HCW.out 1 (by have := NX.out.2; omega)
       have g2 := HCW.out 2 (by have := NX.out.2; omega)
       obtain ⟨x1, hx1⟩ : ∃ x1, x1 = lnW T 1 := ⟨_, rfl⟩
       obtain ⟨x2, hx2⟩ : ∃ x2, x2 = lnW T 2 := ⟨_, rfl⟩
       rw [← hx1] at g1 hx1l fin
       rw [← hx2] at g2 hx2l fin
       obtain ⟨st, hst⟩ : ∃ st, st = stepC S (.take (pI x1) (pI x2)) := ⟨_, rfl⟩
       rw [← hst] at fin
       have hgb : gw ≠ b := by have := (OW.out.lt gw rfl).1; omega
       have hn3 : (2 : Int) < (n : Int) := by have := NX.out.2; omega
       have hn4 : (1 : Int) < (n : Int) := by have := NX.out.2; omega
       have hn5 : 2 < n := by have := NX.out.2; omega
       have hn6 : 1 < n := by have := NX.out.2; omega
       have K1 : Hid (∀ W', Below w1.heap.size w1 W' → Calls Tryz.prog 46 #[.string ⟨x1.toArray⟩] W' fun e w' => e = .returned (.int .i64 (pI x1)) ∧ Below w1.heap.size w1 w') := fun W' hW => (parseInt_any x1 W' (by omega)).mono fun e w' h => ⟨h.1, hW.trans (h.2.mono hW.size)⟩
       have K2 : Hid (∀ W', Below w1.heap.size w1 W' → Calls Tryz.prog 46 #[.string ⟨x2.toArray⟩] W' fun e w' => e = .returned (.int .i64 (pI x2)) ∧ Below w1.heap.size w1 w') := fun W' hW => (parseInt_any x2 W' (by omega)).mono fun e w' h => ⟨h.1, hW.trans (h.2.mono hW.size)⟩
       have KD : Hid (∀ W', Below w1.heap.size w1 W' → Calls Tryz.prog 47 #[.pointer (some ⟨b, 0, none⟩), .int .i64 (pI x1), .int .i64 (pI x2)] W' fun e w' => e = .returned (.string ⟨st.2.toArray⟩) ∧ SesD w' b st.1 ∧ w1.grownBy w' (some b)) := fun W' hW => by
         rw [hst]
         exact (deskTake_any b S (pI x1) (pI x2) W' (HS1.out.below hW (Nat.le_refl _))).mono fun e w' h => ⟨h.1, h.2.1, grownBy_trans (grownBy_of_below hW) h.2.2⟩
       have KP := Lib.hid (show ∀ w' : World, Below w1.heap.size w1 w' → w'.cell? ⟨gw, 1, none⟩ = some (.string ⟨x1.toArray⟩) ∧ w'.cell? ⟨gw, 2, none⟩ = some (.string ⟨x2.toArray⟩) from fun w' h => ⟨(h.cell (p := ⟨gw, 1, none⟩) hgw).trans g1, (h.cell (p := ⟨gw, 2, none⟩) hgw).trans g2⟩)
       have KQ := Lib.hid (show ∀ w' : World, w1.grownBy w' (some b) → w'.cell? ⟨gw, 1, none⟩ = some (.string ⟨x1.toArray⟩) ∧ w'.cell? ⟨gw, 2, none⟩ = some (.string ⟨x2.toArray⟩) from fun w' h => ⟨(World.cell?_of_block (a := ⟨gw, 1, none⟩) (h.block gw hgw (by simpa using hgb))).trans g1, (World.cell?_of_block (a := ⟨gw, 2, none⟩) (h.block gw hgw (by simpa using hgb))).trans g2⟩)
       have B0 : Below w1.heap.size w1 w1.drew := (Below.refl _ w1).drew
       clear hst hx1 hx2 hgb hx1l hx2l
       go_upto_region 7 with fail
       go_region_held3 (fun w' => w'.cell? ⟨gw, 1, none⟩ = some (.string ⟨x1.toArray⟩) ∧ w'.cell? ⟨gw, 2, none⟩ = some (.string ⟨x2.toArray⟩))
         (first
           | assumption
           | exact KP.out _ B0
           | exact KQ.out _ z4
           | exact KP.out _ y3
           | exact KP.out _ y2)
         ((first
           | (go_at_call 46; (with_reducible refine (K1.out _ (by assumption)).mono ?_); rintro e w2 ⟨rfl, y2⟩)
           | (go_at_call 46; (with_reducible refine (K2.out _ (by assumption)).mono ?_); rintro e w3 ⟨rfl, y3⟩)
           | (go_at_call 47; (with_reducible refine (KD.out _ (by assumption)).mono ?_); rintro e w4 ⟨rfl, s4, z4⟩)))
       all_goals go_wp2
       all_goals go_ret
       all_goals exact ⟨by rw [fin.out] <;> rfl, by rw [fin.out]; exact s4, grownBy_trans (grownBy_of_below X1.out) z4⟩
end Go.Proofs.YtijofgaekmahkaaGreatDoor

namespace Go.Proofs.YtijofgaekmahkaaGreatDoor
open Go.RowKit
theorem deskLine_any (b : Nat) (S : Se) (T : List UInt8) (w : World) (h0 : SesD w b S) (hl : T.length ≤ 2000000) :
   Calls Tryz.prog 24 #[.pointer (some ⟨b, 0, none⟩), .string ⟨T.toArray⟩] w (LineD b S T w) := by
 by_cases ha : lnW T 0 = kAdd ∧ lnN T = 3
 · exact deskLine_add b S T w h0 hl ha
 by_cases ht : lnW T 0 = kTake ∧ lnN T = 3
 · exact deskLine_take b S T w h0 hl ht
 by_cases hr : lnW T 0 = kRule ∧ 5 < T.length
 · exact deskLine_rule b S T w h0 hl hr
 by_cases hc : lnW T 0 = kCoupon ∧ lnN T = 2
 · exact deskLine_coupon b S T w h0 hl hc
 have hw : NoW T := ⟨ha, ht, hr, hc⟩
 by_cases h1 : T = kTotal
 · exact deskLine_total b S T w h0 hl hw h1
 by_cases h2 : T = kPay
 · exact deskLine_pay b S T w h0 hl hw h2
 by_cases h3 : T = kNotes
 · exact deskLine_notes b S T w h0 hl hw h3
 by_cases h4 : T = kConf
 · exact deskLine_conf b S T w h0 hl hw h4
 exact deskLine_what b S T w h0 hl hw h1 h2 h3 h4
end Go.Proofs.YtijofgaekmahkaaGreatDoor

namespace Go.Proofs.YtijofgaekmahkaaGreatDoor
open Go.RowKit
theorem shop_rd {w : World} {g : Nat} (h : w.heap[g]? = some (.cells #[.int .i64 100, .int .i64 0, .int .i64 70, .int .i64 0, .int .i64 250, .int .i64 0, .int .i64 190, .int .i64 0, .int .i64 1000, .int .i64 1, .int .i64 190, .int .i64 0, .int .i64 333, .int .i64 2, .int .i64 70, .int .i64 0] 48 (0, 0))) : Rd w 4 (.slice (some ⟨g, 0, none⟩) 4 4) 4 (ar shopS) :=
 ⟨rfl, _, 4, rfl, Nat.le_refl _, by decide, fun _ => ⟨g, 0, rfl, (Array.getElem?_eq_some_iff.1 h).1, fun j u hu => by rw [Nat.zero_add, cell_of_row _ _ j _ _ _ h]; simpa [ar, shopS] using hu⟩⟩
theorem rd_nil (w : World) (sz : Nat) : Rd w sz (.slice none 0 0) 0 [] := ⟨by simp, none, 0, rfl, Nat.le_refl _, Nat.zero_le _, fun h => absurd h (Nat.lt_irrefl _)⟩
theorem sesV_start {w : World} {b g : Nat} (hb : b < w.heap.size) (hne : g ≠ b) (h : w.heap[g]? = some (.cells #[.int .i64 100, .int .i64 0, .int .i64 70, .int .i64 0, .int .i64 250, .int .i64 0, .int .i64 190, .int .i64 0, .int .i64 1000, .int .i64 1, .int .i64 190, .int .i64 0, .int .i64 333, .int .i64 2, .int .i64 70, .int .i64 0] 48 (0, 0))) : SesV w b (.slice (some ⟨g, 0, none⟩) 4 4) (.slice none 0 0) (.slice none 0 0) (.slice none 0 0) ⟨[], [], []⟩ :=
 ⟨hb, shop_rd h, fun a n c e => by injection e with e1; obtain rfl := Option.some.inj e1; exact hne, rd_nil w 2, Off.none b, rd_nil w 1, Off.none b, ⟨[], rfl, ⟨rd_nil w 11, fun x hx => by cases hx⟩, Off.none b, fun x hx => by cases hx⟩, SeOk.start⟩
set_option maxHeartbeats 2000000 in
theorem begin_any (w : World) : Calls Tryz.prog 23 #[] w fun e w' => ∃ b, e = .returned (.pointer (some ⟨b, 0, none⟩)) ∧ w.heap.size ≤ b ∧ SesD w' b ⟨[], [], []⟩ ∧ Below w.heap.size w w' := by
 have h0 := heap_alloc_new w (.cells #[.int .i64 100, .int .i64 0, .int .i64 70, .int .i64 0, .int .i64 250, .int .i64 0, .int .i64 190, .int .i64 0, .int .i64 1000, .int .i64 1, .int .i64 190, .int .i64 0, .int .i64 333, .int .i64 2, .int .i64 70, .int .i64 0] 48)
 have b0 : Below w.heap.size w (w.alloc (.cells #[.int .i64 100, .int .i64 0, .int .i64 70, .int .i64 0, .int .i64 250, .int .i64 0, .int .i64 190, .int .i64 0, .int .i64 1000, .int .i64 1, .int .i64 190, .int .i64 0, .int .i64 333, .int .i64 2, .int .i64 70, .int .i64 0] 48)) := (Below.refl _ w).alloc (Nat.le_refl _) _
 have z0 : (w.alloc (.cells #[.int .i64 100, .int .i64 0, .int .i64 70, .int .i64 0, .int .i64 250, .int .i64 0, .int .i64 190, .int .i64 0, .int .i64 1000, .int .i64 1, .int .i64 190, .int .i64 0, .int .i64 333, .int .i64 2, .int .i64 70, .int .i64 0] 48)).heap.size = w.heap.size + 1 := World.size_alloc _ _
 obtain ⟨W0, hW0⟩ : ∃ W0, W0 = w.alloc (.cells #[.int .i64 100, .int .i64 0, .int .i64 70, .int .i64 0, .int .i64 250, .int .i64 0, .int .i64 190, .int .i64 0, .int .i64 1000, .int .i64 1, .int .i64 190, .int .i64 0, .int .i64 333, .int .i64 2, .int .i64 70, .int .i64 0] 48) := ⟨_, rfl⟩
 rw [← hW0] at h0 b0 z0
 have HW0 := Lib.hid hW0
 have H0 := Lib.hid h0
 have B0 := Lib.hid b0
 have Z0 := Lib.hid z0
 clear h0 b0 z0 hW0
 go_enter Tryz.func23, Tryz.ntmps23
 go_wp2
 go_ret
 rw [← HW0.out]
 have h1 := heap_alloc_new W0 (.cells #[.slice (some ⟨w.heap.size, 0, none⟩) 4 4, .slice none 0 0, .slice none 0 0, .slice none 0 0] 87)
 have h2 := heap_keep (x := .cells #[.slice (some ⟨w.heap.size, 0, none⟩) 4 4, .slice none 0 0, .slice none 0 0, .slice none 0 0] 87) H0.out
 refine ⟨W0.heap.size, by rw [Z0.out] <;> rfl, by rw [Z0.out]; exact Nat.le_succ _, ⟨_, _, _, _, h1, sesV_start (by rw [World.size_alloc]; exact Nat.lt_succ_self _) (by rw [Z0.out]; omega) h2⟩, B0.out.alloc B0.out.size _⟩
theorem runK_succ (ls : List (List UInt8)) (k : Nat) : runK ls (k + 1) = ((stepS (runK ls k).1 (ls.getD k [])).1, (runK ls k).2 ++ ((stepS (runK ls k).1 (ls.getD k [])).2 ++ [10])) := rfl
theorem stepS_len {S : Se} (h : SeOk S) (T : List UInt8) : (stepS S T).2.length ≤ 2000 := stepC_len h (cmdT T)
theorem lines_at {w : World} {v : Value} {ls : List (List UInt8)} (h : Rd w 1 v ls.length (sw ls)) : ∃ ao cap, v = .slice ao ls.length cap ∧ (0 < ls.length → ∃ b off, ao = some ⟨b, off, none⟩ ∧ b < w.heap.size ∧ ∀ k, k < ls.length → w.cell? ⟨b, off + k, none⟩ = some (.string ⟨(ls.getD k []).toArray⟩)) := by
 obtain ⟨_, ao, cap, h2, _, _, h5⟩ := h
 refine ⟨ao, cap, h2, fun hn => ?_⟩
 obtain ⟨b, off, h6, h7, h8⟩ := h5 hn
 refine ⟨b, off, h6, h7, fun k hk => h8 k _ ?_⟩
 unfold sw
 rw [List.getElem?_map, List.getElem?_eq_getElem hk, List.getD_eq_getElem?_getD, List.getElem?_eq_getElem hk]
 rfl
theorem getD_len {ls : List (List UInt8)} {m : Nat} (h : ∀ x ∈ ls, x.length ≤ m) (k : Nat) : (ls.getD k []).length ≤ m := by
 rw [List.getD_eq_getElem?_getD]
 by_cases hk : k < ls.length
 · rw [List.getElem?_eq_getElem hk]; exact h _ (List.getElem_mem hk)
 · rw [List.getElem?_eq_none (by omega)]; exact Nat.zero_le _
set_option maxHeartbeats 8000000 in
set_option maxRecDepth 100000 in
theorem specRun_any (ls : List (List UInt8)) (v : Value) (w : World) (hv : Rd w 1 v ls.length (sw ls)) (hl : ∀ x ∈ ls, x.length ≤ 2000000) :
   Calls Tryz.prog 11 #[v] w fun e w' => e = .returned (.string ⟨(runS ls).toArray⟩) ∧ Below w.heap.size w w' := by
 have hm := hv.len
 unfold maxLen at hm
 obtain ⟨ao, cap, rfl, hc⟩ := lines_at hv
 have HC := Lib.hid hc
 have HL := Lib.hid (getD_len hl)
 clear hc hl hv
 go_enter Tryz.func11, Tryz.ntmps11
 go_wp2_with (go_at_call 23; refine (begin_any _).mono ?_; rintro e w1 ⟨b, rfl, hb, s1, x1⟩; have HB := Lib.hid hb; have S1 := Lib.hid s1; have X1 := Lib.hid x1; clear hb s1 x1)
 go_loopw [4, 5] (fun s_ i_ wr => ∃ (k : Nat) (S : Se) (o : List UInt8), k ≤ ls.length ∧ k ≤ 20 ∧ i_ = .int .i64 k ∧ s_ = .string ⟨o.toArray⟩ ∧ Hid (runK ls k = (S, o)) ∧ Hid (SesD wr b S) ∧ Below w.heap.size w wr) (fun _ i_ _ => ls.length - (intOf i_).toNat)
 case atStart => exact ⟨0, ⟨[], [], []⟩, [], Nat.zero_le _, Nat.zero_le _, rfl, rfl, rfl, S1, X1.out⟩
 case round =>
   clear S1 X1
   obtain ⟨k, S, o, hk, hk20, rfl, rfl, HR, HS, hbl⟩ := hrel
   have hk0 : (0 : Int) ≤ (k : Int) := by omega
   by_cases hlt : k < ls.length ∧ k < 20
   · obtain ⟨q, off, rfl, hq, hcell⟩ := HC.out (by omega)
     have h0 := (hbl.cell (p := ⟨q, off + k, none⟩) hq).trans (hcell k hlt.1)
     have hqw : q < wr.heap.size := Nat.lt_of_lt_of_le hq hbl.size
     have hTl := HL.out k
     have hsucc := runK_succ ls k
     rw [HR.out] at hsucc
     obtain ⟨T, hT⟩ : ∃ T, T = ls.getD k [] := ⟨_, rfl⟩
     rw [← hT] at h0 hTl hsucc
     have hsl := stepS_len (by have := runK_ok ls k; rw [HR.out] at this; exact this) T
     have hol : o.length ≤ 50000 := by have := runK_len ls k; rw [HR.out] at this; simp only at this; omega
     have K := deskLine_any b S T wr HS.out hTl
     unfold LineD at K
     obtain ⟨st, hst⟩ : ∃ st, st = stepS S T := ⟨_, rfl⟩
     rw [← hst] at K hsucc hsl
     obtain ⟨so, hso⟩ : ∃ so, so = st.2 := ⟨_, rfl⟩
     rw [← hso] at K hsucc hsl
     have A1 := add_to (x := o) (y := so) (z := o ++ so) rfl (by rw [List.length_append]; omega)
     have A2 : ∀ W : World, (Op.stringOp .add ⟨(o ++ so).toArray⟩ ⟨#[10]⟩).run Tryz.prog W = .ok (.string ⟨(o ++ (so ++ [10])).toArray⟩) W := add_to (x := o ++ so) (y := [10]) (by simp) (by simp; omega)
     obtain ⟨o1, ho1⟩ : ∃ o1, o1 = o ++ so := ⟨_, rfl⟩
     obtain ⟨o2, ho2⟩ : ∃ o2, o2 = o ++ (so ++ [10]) := ⟨_, rfl⟩
     rw [← ho1] at A1 A2
     rw [← ho2] at A2 hsucc
     have HK := Lib.hid K
     have HSU := Lib.hid hsucc
     have hk1 : (k : Int) < (ls.length : Int) := by omega
     have e1 : decide (k < ls.length) = true := by simp; omega
     have e2 : decide (k < 20) = true := by simp; omega
     have e3 : decide ((k : Int) < (ls.length : Int)) = true := by simp; omega
     have e4 : decide ((k : Int) < 20) = true := by simp; omega
     clear hcell hT hst hso ho1 ho2 K hsucc hTl hsl hol
     go_wp2_with (go_at_call 24; refine HK.out.mono ?_; rintro e w2 ⟨rfl, s2, g2⟩; have S2 := Lib.hid s2; have B2 := Lib.hid (hbl.grown g2 hbl.size (fun j hj => by have := HB.out; simp only [Option.some.injEq] at hj; omega)); clear s2 g2)
     go_roundw
     case rel => exact ⟨k + 1, _, _, by omega, by omega, by go_num, rfl, HSU, S2, B2.out⟩
     case measure => simp [intOf]; omega
   · have hkm : k = min ls.length 20 := by omega
     have fin : Hid (runS ls = o) := by rw [Hid, runS, ← hkm, HR.out]
     clear hkm
     by_cases h1 : k < ls.length
     · have e1 : decide (k < ls.length) = true := by simp; omega
       have e2 : decide (k < 20) = false := by simp; omega
       have e3 : decide ((k : Int) < (ls.length : Int)) = true := by simp; omega
       have e4 : decide ((k : Int) < 20) = false := by simp; omega
       clear hlt
       go_wp2
       go_ret
       exact ⟨by rw [fin.out] <;> rfl, hbl⟩
     · have e1 : decide (k < ls.length) = false := by simp; omega
       have e3 : decide ((k : Int) < (ls.length : Int)) = false := by simp; omega
       clear hlt
       go_wp2
       go_ret
       exact ⟨by rw [fin.out] <;> rfl, hbl⟩
end Go.Proofs.YtijofgaekmahkaaGreatDoor

namespace Go.Proofs.YtijofgaekmahkaaGreatDoor
open Go.RowKit
theorem runLine_any (b B : Nat) (S : Se) (T : List UInt8) (w : World) (h0 : SesI w b S) (hE : EnvB B w) (hB : B ≤ b) (hl : T.length ≤ 2000000) :
   Calls Tryz.prog 22 #[.pointer (some ⟨b, 0, none⟩), .string ⟨T.toArray⟩] w (LineI b S T w) := by
 by_cases ha : lnW T 0 = kAdd ∧ lnN T = 3
 · exact runLine_add b B S T w h0 hE hB hl ha
 by_cases ht : lnW T 0 = kTake ∧ lnN T = 3
 · exact runLine_take b B S T w h0 hE hB hl ht
 by_cases hr : lnW T 0 = kRule ∧ 5 < T.length
 · exact runLine_rule b B S T w h0 hE hB hl hr
 by_cases hc : lnW T 0 = kCoupon ∧ lnN T = 2
 · exact runLine_coupon b B S T w h0 hE hB hl hc
 have hw : NoW T := ⟨ha, ht, hr, hc⟩
 by_cases h1 : T = kTotal
 · exact runLine_total b B S T w h0 hE hB hl hw h1
 by_cases h2 : T = kPay
 · exact runLine_pay b B S T w h0 hE hB hl hw h2
 by_cases h3 : T = kNotes
 · exact runLine_notes b B S T w h0 hE hB hl hw h3
 by_cases h4 : T = kConf
 · exact runLine_conf b B S T w h0 hE hB hl hw h4
 exact runLine_what b B S T w h0 hE hB hl hw h1 h2 h3 h4
set_option maxHeartbeats 8000000 in
set_option maxRecDepth 100000 in
theorem implRun_any (ls : List (List UInt8)) (v : Value) (w : World) (hv : Rd w 1 v ls.length (sw ls)) (hl : ∀ x ∈ ls, x.length ≤ 2000000) (hE : EnvB w.heap.size w) :
   Calls Tryz.prog 10 #[v] w fun e w' => e = .returned (.string ⟨(runS ls).toArray⟩) ∧ Below w.heap.size w w' := by
 have hm := hv.len
 unfold maxLen at hm
 obtain ⟨ao, cap, rfl, hc⟩ := lines_at hv
 have HC := Lib.hid hc
 have HL := Lib.hid (getD_len hl)
 have h0 := heap_alloc_new w (.cells #[.int .i64 100, .int .i64 0, .int .i64 70, .int .i64 0, .int .i64 250, .int .i64 0, .int .i64 190, .int .i64 0, .int .i64 1000, .int .i64 1, .int .i64 190, .int .i64 0, .int .i64 333, .int .i64 2, .int .i64 70, .int .i64 0] 48)
 have b0 : Below w.heap.size w (w.alloc (.cells #[.int .i64 100, .int .i64 0, .int .i64 70, .int .i64 0, .int .i64 250, .int .i64 0, .int .i64 190, .int .i64 0, .int .i64 1000, .int .i64 1, .int .i64 190, .int .i64 0, .int .i64 333, .int .i64 2, .int .i64 70, .int .i64 0] 48)) := (Below.refl _ w).alloc (Nat.le_refl _) _
 have z0 : (w.alloc (.cells #[.int .i64 100, .int .i64 0, .int .i64 70, .int .i64 0, .int .i64 250, .int .i64 0, .int .i64 190, .int .i64 0, .int .i64 1000, .int .i64 1, .int .i64 190, .int .i64 0, .int .i64 333, .int .i64 2, .int .i64 70, .int .i64 0] 48)).heap.size = w.heap.size + 1 := World.size_alloc _ _
 obtain ⟨W0, hW0⟩ : ∃ W0, W0 = w.alloc (.cells #[.int .i64 100, .int .i64 0, .int .i64 70, .int .i64 0, .int .i64 250, .int .i64 0, .int .i64 190, .int .i64 0, .int .i64 1000, .int .i64 1, .int .i64 190, .int .i64 0, .int .i64 333, .int .i64 2, .int .i64 70, .int .i64 0] 48) := ⟨_, rfl⟩
 rw [← hW0] at h0 b0 z0
 have h1 := heap_alloc_new W0 (.cells #[.slice (some ⟨w.heap.size, 0, none⟩) 4 4, .slice none 0 0, .slice none 0 0, .slice none 0 0] 53)
 have h2 := heap_keep (x := .cells #[.slice (some ⟨w.heap.size, 0, none⟩) 4 4, .slice none 0 0, .slice none 0 0, .slice none 0 0] 53) h0
 have b1 : Below w.heap.size w (W0.alloc (.cells #[.slice (some ⟨w.heap.size, 0, none⟩) 4 4, .slice none 0 0, .slice none 0 0, .slice none 0 0] 53)) := b0.alloc b0.size _
 have s1 : SesI (W0.alloc (.cells #[.slice (some ⟨w.heap.size, 0, none⟩) 4 4, .slice none 0 0, .slice none 0 0, .slice none 0 0] 53)) (w.heap.size + 1) ⟨[], [], []⟩ := by
   rw [z0] at h1
   exact ⟨_, _, _, _, h1, sesV_start (by rw [World.size_alloc, z0]; exact Nat.lt_succ_self _) (by omega) h2⟩
 obtain ⟨W1, hW1⟩ : ∃ W1, W1 = W0.alloc (.cells #[.slice (some ⟨w.heap.size, 0, none⟩) 4 4, .slice none 0 0, .slice none 0 0, .slice none 0 0] 53) := ⟨_, rfl⟩
 rw [← hW1] at b1 s1
 rw [hW0] at hW1
 have HW1 := Lib.hid hW1
 have S1 := Lib.hid s1
 have X1 := Lib.hid b1
 have HE := Lib.hid hE
 obtain ⟨b, hb⟩ : ∃ b, b = w.heap.size + 1 := ⟨_, rfl⟩
 rw [← hb] at S1
 have HB := Lib.hid hb
 clear hc hl hv h0 b0 z0 h1 h2 b1 s1 hW0 hW1 hE
 go_enter Tryz.func10, Tryz.ntmps10
 clear hb
 go_wp2
 rw [← HW1.out]
 rw [← HB.out]
 go_loopw [4, 16] (fun s_ i_ wr => ∃ (k : Nat) (S : Se) (o : List UInt8), k ≤ ls.length ∧ k ≤ 20 ∧ i_ = .int .i64 k ∧ s_ = .string ⟨o.toArray⟩ ∧ Hid (runK ls k = (S, o)) ∧ Hid (SesI wr b S) ∧ Below w.heap.size w wr) (fun _ i_ _ => ls.length - (intOf i_).toNat)
 case atStart => exact ⟨0, ⟨[], [], []⟩, [], Nat.zero_le _, Nat.zero_le _, rfl, rfl, rfl, S1, X1.out⟩
 case round =>
   clear S1 X1
   obtain ⟨k, S, o, hk, hk20, rfl, rfl, HR, HS, hbl⟩ := hrel
   have hk0 : (0 : Int) ≤ (k : Int) := by omega
   by_cases hlt : k < ls.length
   · obtain ⟨q, off, rfl, hq, hcell⟩ := HC.out (by omega)
     have h0 := (hbl.cell (p := ⟨q, off + k, none⟩) hq).trans (hcell k hlt)
     have hqw : q < wr.heap.size := Nat.lt_of_lt_of_le hq hbl.size
     have hk1 : (k : Int) < (ls.length : Int) := by omega
     have e1 : decide (k < ls.length) = true := by simp; omega
     have e3 : decide ((k : Int) < (ls.length : Int)) = true := by simp; omega
     by_cases h20 : k = 20
     · have e2 : (k == 20) = true := beq_iff_eq.2 h20
       have e4 : ((k : Int) == 20) = true := beq_iff_eq.2 (by omega)
       have fin : Hid (runS ls = o) := by rw [Hid, runS, show min ls.length 20 = k by omega, HR.out]
       clear h20 hcell
       go_wp2
       go_ret
       exact ⟨by rw [fin.out] <;> rfl, hbl⟩
     · have e2 : (k == 20) = false := beq_eq_false_iff_ne.2 h20
       have e4 : ((k : Int) == 20) = false := beq_eq_false_iff_ne.2 (by omega)
       have hTl := HL.out k
       have hsucc := runK_succ ls k
       rw [HR.out] at hsucc
       obtain ⟨T, hT⟩ : ∃ T, T = ls.getD k [] := ⟨_, rfl⟩
       rw [← hT] at h0 hTl hsucc
       have hsl := stepS_len (by have := runK_ok ls k; rw [HR.out] at this; exact this) T
       have hol : o.length ≤ 50000 := by have := runK_len ls k; rw [HR.out] at this; simp only at this; omega
       have K := runLine_any b w.heap.size S T wr HS.out (HE.out.below hbl) (by rw [HB.out]; omega) hTl
       unfold LineI at K
       obtain ⟨st, hst⟩ : ∃ st, st = stepS S T := ⟨_, rfl⟩
       rw [← hst] at K hsucc hsl
       obtain ⟨so, hso⟩ : ∃ so, so = st.2 := ⟨_, rfl⟩
       rw [← hso] at K hsucc hsl
       have A1 : ∀ W : World, (Op.stringOp .add ⟨so.toArray⟩ ⟨#[10]⟩).run Tryz.prog W = .ok (.string ⟨(so ++ [10]).toArray⟩) W := add_to (y := [10]) rfl (by simp; omega)
       have A2 := add_to (x := o) (y := so ++ [10]) (z := o ++ (so ++ [10])) rfl (by simp; omega)
       obtain ⟨o1, ho1⟩ : ∃ o1, o1 = so ++ [10] := ⟨_, rfl⟩
       rw [← ho1] at A1 A2 hsucc
       obtain ⟨o2, ho2⟩ : ∃ o2, o2 = o ++ o1 := ⟨_, rfl⟩
       rw [← ho2] at A2 hsucc
       have HK := Lib.hid K
       have HSU := Lib.hid hsucc
       have hk19 : k < 20 := by omega
       clear hcell hT hst hso ho1 ho2 K hsucc hTl hsl hol h20
       go_wp2_with (go_at_call 22; refine HK.out.mono ?_; rintro e w2 ⟨rfl, s2, g2⟩; have S2 := Lib.hid s2; have B2 := Lib.hid (hbl.grown g2 hbl.size (fun j hj => by have := HB.out; simp only [Option.some.injEq] at hj; omega)); clear s2 g2)
       go_roundw
       case rel => exact ⟨k + 1, _, _, by omega, by omega, by go_num, rfl, HSU, S2, B2.out⟩
       case measure => simp [intOf]; omega
   · have e1 : decide (k < ls.length) = false := by simp; omega
     have e3 : decide ((k : Int) < (ls.length : Int)) = false := by simp; omega
     have fin : Hid (runS ls = o) := by rw [Hid, runS, show min ls.length 20 = k by omega, HR.out]
     clear hlt
     go_wp2
     go_ret
     exact ⟨by rw [fin.out] <;> rfl, hbl⟩
end Go.Proofs.YtijofgaekmahkaaGreatDoor

namespace Go.Proofs.YtijofgaekmahkaaGreatDoor
open Go.ChangeShapes Go.WideShapes Go.ChangeAt Go.RowKit Go.Deep
section
variable {H : Type} {enc : TypeId × Value → H} {P : Program} {w : World} {base : Nat} {spare : Nat → Bool} {held : Bool}
theorem open_bytes {t e : TypeId} {fuel : Nat} {v : Value} {x : DataW H × List MemPlace} (ht : P.underlying t = some (.slice e)) (he : P.underlying e = some (.int .u8)) (ce : P.cellsOf e = 1)
   (h : DataW.trod enc P w base spare held fuel t [v] = some x) : ∃ z : List Int, Rd w 1 v z.length (z.map (Value.int .u8)) ∧ ∀ x ∈ z, 0 ≤ x ∧ x ≤ 255 := by
 rcases open_ints ht he ce h with ⟨hcs, _⟩ | ⟨a, len, cap, zs, hcs, _, hl, hm, hz, _, hcell, hwz⟩
 · simp at hcs
   subst hcs
   exact ⟨[], ⟨by simp, none, 0, rfl, Nat.le_refl _, Nat.zero_le _, fun h => absurd h (Nat.lt_irrefl _)⟩, by simp⟩
 · simp at hcs
   subst hcs
   have hlz : len ≤ zs.length := by rw [hz]; split <;> omega
   have hlen : (zs.take len).length = len := by rw [List.length_take]; omega
   refine ⟨zs.take len, ⟨by simp, some a, cap, by rw [hlen], by rw [hlen]; exact hl, hm, fun hn => ?_⟩, fun x hx => ?_⟩
   · rw [hlen] at hn
     have c0 := hcell 0 (by omega)
     have hsp : a.spot = none := by
       unfold Addr.add World.cell? at c0
       cases hsp : a.spot with
       | none => rfl
       | some s => split at c0 <;> simp_all
     obtain ⟨b, off, sp⟩ := a
     simp only at hsp
     subst hsp
     refine ⟨b, off, rfl, ?_, fun j u hu => ?_⟩
     · have := World.block_lt_of_cell? w _ c0
       rw [add_plain] at this
       exact this
     · have hj : j < len := by
         have := (List.getElem?_eq_some_iff.1 hu).1
         rwa [List.length_map, hlen] at this
       have h1 := hcell j (by omega)
       rw [add_plain] at h1
       rw [h1, ← hu]
       simp [List.getD, hj, show j < zs.length by omega]
   · have := hwz x (List.mem_of_mem_take hx)
     exact Go.bounds_u8 this
end
end Go.Proofs.YtijofgaekmahkaaGreatDoor
