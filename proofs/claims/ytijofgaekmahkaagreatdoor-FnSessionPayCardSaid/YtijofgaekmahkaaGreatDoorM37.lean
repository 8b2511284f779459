/- Joined texts: Walk: a line of a session in the program: the conflicts. Conditions: none. -/
import Derived.Test.YtijofgaekmahkaaGreatDoorM36
import Derived.Handy
namespace Go.Proofs.YtijofgaekmahkaaGreatDoor
open Go.RowKit
theorem add_two_w (a b : List UInt8) (h : a.length + b.length ≤ 1000000) : ∃ X1 X2 : List UInt8, (∀ W : World, (Op.stringOp .add ⟨a.toArray⟩ ⟨#[32]⟩).run Tryz.prog W = .ok (.string ⟨X1.toArray⟩) W) ∧ (∀ W : World, (Op.stringOp .add ⟨X1.toArray⟩ ⟨b.toArray⟩).run Tryz.prog W = .ok (.string ⟨X2.toArray⟩) W) ∧ X2 = a ++ [32] ++ b :=
 ⟨a ++ [32], a ++ [32] ++ b, add_to (y := [32]) rfl (by simp; omega), add_to rfl (by simp; omega), rfl⟩
theorem add_three_w (a b c : List UInt8) (h : a.length + b.length + c.length ≤ 1000000) : ∃ X1 X2 X3 X4 : List UInt8, (∀ W : World, (Op.stringOp .add ⟨a.toArray⟩ ⟨#[32]⟩).run Tryz.prog W = .ok (.string ⟨X1.toArray⟩) W) ∧ (∀ W : World, (Op.stringOp .add ⟨X1.toArray⟩ ⟨b.toArray⟩).run Tryz.prog W = .ok (.string ⟨X2.toArray⟩) W) ∧ (∀ W : World, (Op.stringOp .add ⟨X2.toArray⟩ ⟨#[32]⟩).run Tryz.prog W = .ok (.string ⟨X3.toArray⟩) W) ∧ (∀ W : World, (Op.stringOp .add ⟨X3.toArray⟩ ⟨c.toArray⟩).run Tryz.prog W = .ok (.string ⟨X4.toArray⟩) W) ∧ X4 = a ++ [32] ++ b ++ [32] ++ c :=
 ⟨a ++ [32], a ++ [32] ++ b, a ++ [32] ++ b ++ [32], a ++ [32] ++ b ++ [32] ++ c, add_to (y := [32]) rfl (by simp; omega), add_to rfl (by simp; omega), add_to (y := [32]) rfl (by simp; omega), add_to rfl (by simp; omega), rfl⟩
theorem take_app {α : Type} (l : List α) {k : Nat} (h : k < l.length) : l.take k ++ [l[k]] = l.take (k + 1) := (List.take_succ_eq_append_getElem h).symm
set_option maxHeartbeats 8000000 in
set_option maxRecDepth 100000 in
theorem runLine_conf (b B : Nat) (S : Se) (T : List UInt8) (w : World) (h0 : SesI w b S) (hE : EnvB B w) (hB : B ≤ b) (hl : T.length ≤ 2000000) (hw : NoW T) (h : T = kConf) :
   Calls Tryz.prog 22 #[.pointer (some ⟨b, 0, none⟩), .string ⟨T.toArray⟩] w (LineI b S T w) := by
 have fin : Hid (stepS S T = stepC S (.conf)) := by rw [Hid, stepS, cmdT_conf hw h]
 have HS := Lib.hid h0
 have hb0 : b < w.heap.size := by obtain ⟨_, _, _, _, _, sv⟩ := h0; exact sv.lt
 have HE := Lib.hid (hE.upTo (C := w.heap.size) (by omega))
 have hsz : (⟨T.toArray⟩ : ByteArray).size = T.length := by simp [ByteArray.size]
 have hn1 := List.length_pos_iff.2 (spl_ne 32 T)
 have sp := split_any T w hE.p (by omega)
 rw [words_spl _ T (Nat.le_refl _)] at sp
 obtain ⟨gw, hgwe⟩ : ∃ gw, gw = w.heap.size := ⟨_, rfl⟩
 rw [← hgwe] at sp
 have SP := Lib.hid sp
 have hgb : gw ≠ b := by omega
 have HGW := Lib.hid hgwe
 have HT := Lib.hid h
 clear h
 clear h0 hE hB sp hgwe
 unfold LineI
 go_enter Tryz.func22, Tryz.ntmps22
 go_upto_region 2 with (go_at_call 28; refine SP.out.mono ?_; rintro e w1 ⟨rfl, hc, hgw, x1⟩; rw [HGW.out] at x1; have X1 := Lib.hid x1; have HC := Lib.hid hc; clear hc x1)
 have hcw : ∀ k, k < (spl 32 T).length → w1.cell? ⟨gw, k, none⟩ = some (.string ⟨(lnW T k).toArray⟩) := fun k hk => HC.out k _ (by unfold lnW; rw [List.getD_eq_getElem?_getD, List.getElem?_eq_getElem hk]; rfl)
 have HS1 := Lib.hid (HS.out.below X1.out (Nat.le_refl _))
 have HE1 := Lib.hid ((HE.out.below X1.out).upTo X1.out.size)
 have HCW := Lib.hid hcw
 have c0 := hcw 0 hn1
 obtain ⟨x0, hx0⟩ : ∃ x0, x0 = lnW T 0 := ⟨_, rfl⟩
 obtain ⟨n, hn⟩ : ∃ n, n = (spl 32 T).length := ⟨_, rfl⟩
 rw [← hx0] at c0
 have HX0 := Lib.hid hx0
 have HN := Lib.hid hn
 rw [← hn] at hn1 hcw HCW ⊢
 have hn0 : (0 : Int) < (n : Int) := by omega
 have NR : Hid (¬ (x0 = kRule ∧ 5 < T.length)) := by rw [HX0.out]; exact hw.r
 have NA : Hid (¬ (x0 = kAdd ∧ n = 3)) := by rw [HX0.out, HN.out]; exact hw.a
 have NT : Hid (¬ (x0 = kTake ∧ n = 3)) := by rw [HX0.out, HN.out]; exact hw.t
 have NC : Hid (¬ (x0 = kCoupon ∧ n = 2)) := by rw [HX0.out, HN.out]; exact hw.c
 clear hx0 hn hw
 clear hcw
 go_upto_region 2 with fail
 go_cut [27] from 28 to 36 (fun t_ wx => t_ = .bool false ∧ wx = w1)
 case first =>
   by_cases q0 : x0 = kAdd
   · have e0 : (x0 == [97, 100, 100]) = true := beq_iff_eq.2 q0
     by_cases q1 : n = 3
     · have e1 : (n == 3) = true := beq_iff_eq.2 q1
       have e2 : ((n : Int) == 3) = true := beq_iff_eq.2 (by omega)
       exact absurd ⟨q0, q1⟩ NA.out
     · have e1 : (n == 3) = false := beq_eq_false_iff_ne.2 q1
       have e2 : ((n : Int) == 3) = false := beq_eq_false_iff_ne.2 (by omega)
       clear q0 q1
       go_wp2
       go_meet
       exact ⟨rfl, rfl⟩
   · have e0 : (x0 == [97, 100, 100]) = false := beq_eq_false_iff_ne.2 q0
     clear q0
     go_wp2
     go_meet
     exact ⟨rfl, rfl⟩
 case rest =>
   obtain ⟨rfl, hwc⟩ := hcut
   replace hwc := hwc.symm
   subst hwc
   go_upto_region 7 with fail
   go_cut [64] from 65 to 73 (fun t_ wx => t_ = .bool false ∧ wx = w1)
   case first =>
     by_cases q0 : x0 = kTake
     · have e0 : (x0 == [116, 97, 107, 101]) = true := beq_iff_eq.2 q0
       by_cases q1 : n = 3
       · have e1 : (n == 3) = true := beq_iff_eq.2 q1
         have e2 : ((n : Int) == 3) = true := beq_iff_eq.2 (by omega)
         exact absurd ⟨q0, q1⟩ NT.out
       · have e1 : (n == 3) = false := beq_eq_false_iff_ne.2 q1
         have e2 : ((n : Int) == 3) = false := beq_eq_false_iff_ne.2 (by omega)
         clear q0 q1
         go_wp2
         go_meet
         exact ⟨rfl, rfl⟩
     · have e0 : (x0 == [116, 97, 107, 101]) = false := beq_eq_false_iff_ne.2 q0
       clear q0
       go_wp2
       go_meet
       exact ⟨rfl, rfl⟩
   case rest =>
     obtain ⟨rfl, hwc⟩ := hcut
     replace hwc := hwc.symm
     subst hwc
     go_upto_region 12 with fail
     go_cut [101] from 102 to 110 (fun t_ wx => t_ = .bool false ∧ wx = w1)
     case first =>
       by_cases q0 : x0 = kRule
       · have e0 : (x0 == [114, 117, 108, 101]) = true := beq_iff_eq.2 q0
         by_cases q1 : 5 < T.length
         · have e1 : decide (5 < T.length) = true := by simp [q1]
           have e2 : decide (5 < (T.length : Int)) = true := by simp; omega
           exact absurd ⟨q0, q1⟩ NR.out
         · have e1 : decide (5 < T.length) = false := by simp [q1]
           have e2 : decide (5 < (T.length : Int)) = false := by simp; omega
           clear q0 q1
           go_wp2
           go_meet
           exact ⟨rfl, rfl⟩
       · have e0 : (x0 == [114, 117, 108, 101]) = false := beq_eq_false_iff_ne.2 q0
         clear q0
         go_wp2
         go_meet
         exact ⟨rfl, rfl⟩
     case rest =>
       obtain ⟨rfl, hwc⟩ := hcut
       replace hwc := hwc.symm
       subst hwc
       go_upto_region 19 with fail
       go_cut [138] from 139 to 147 (fun t_ wx => t_ = .bool false ∧ wx = w1)
       case first =>
         by_cases q0 : x0 = kCoupon
         · have e0 : (x0 == [99, 111, 117, 112, 111, 110]) = true := beq_iff_eq.2 q0
           by_cases q1 : n = 2
           · have e1 : (n == 2) = true := beq_iff_eq.2 q1
             have e2 : ((n : Int) == 2) = true := beq_iff_eq.2 (by omega)
             exact absurd ⟨q0, q1⟩ NC.out
           · have e1 : (n == 2) = false := beq_eq_false_iff_ne.2 q1
             have e2 : ((n : Int) == 2) = false := beq_eq_false_iff_ne.2 (by omega)
             clear q0 q1
             go_wp2
             go_meet
             exact ⟨rfl, rfl⟩
         · have e0 : (x0 == [99, 111, 117, 112, 111, 110]) = false := beq_eq_false_iff_ne.2 q0
           clear q0
           go_wp2
           go_meet
           exact ⟨rfl, rfl⟩
       case rest =>
         obtain ⟨rfl, hwc⟩ := hcut
         replace hwc := hwc.symm
         subst hwc
         have l_total : (T == [116, 111, 116, 97, 108]) = false := beq_eq_false_iff_ne.2 (by rw [HT.out]; decide)
         have l_pay : (T == [112, 97, 121]) = false := beq_eq_false_iff_ne.2 (by rw [HT.out]; decide)
         have l_notes : (T == [110, 111, 116, 101, 115]) = false := beq_eq_false_iff_ne.2 (by rw [HT.out]; decide)
         have l_conf : (T == [99, 111, 110, 102, 108, 105, 99, 116, 115]) = true := beq_iff_eq.2 HT.out
         obtain ⟨u, v, z, y, hb, sv⟩ := HS1.out
         have hb1 := sv.lt
         obtain ⟨l, hrl, hry, _, _⟩ := sv.r
         have hok := sv.ok.rs
         rw [← hrl] at hok
         have hcv := sv.ok.c
         have hcp := sv.ok.cp
         have hsS := sv.s
         have hsC := sv.c
         have hsQ := sv.q
         obtain ⟨yo, ycap, rfl, _⟩ := hry.open
         obtain ⟨so, scap, rfl, _⟩ := sv.s.arts (l := shopS)
         obtain ⟨co, ccap, rfl, _⟩ := sv.c.pairs
         obtain ⟨zo, zcap, rfl, _⟩ := sv.q.ints
         obtain ⟨⟨d00, d1, d2, d3⟩, _⟩ := row4 hb
         have d0 : w1.cell? ⟨b, 0, none⟩ = some (.slice so 4 scap) := d00
         clear d00
         have hfin : stepC S .conf = (S, jn ((cnfL (rls l)).map prW)) := by rw [hrl]; simp only [stepC]
         have hsh := cnfL_short hok
         have hpw := prW_all hok
         have hjl := conf_len hok
         have hnn : ∀ x ∈ cnfL (rls l), 1 ≤ x.1 ∧ x.1 ≤ 99 ∧ 1 ≤ x.2 ∧ x.2 ≤ 99 := fun x hx => cnf_num hok hx
         have AC : ∀ W', Below w1.heap.size w1 W' → Calls Tryz.prog 42 #[.slice yo l.length ycap] W' fun e w' => ∃ (o : Value) (L : List Px), e = .returned o ∧ L.map Px.p = cnfL (rls l) ∧ PxAt W'.heap.size w' o L ∧ Below W'.heap.size W' w' := fun W' hW => allConf_any l _ W' (hry.below hW (Nat.le_refl _)) hok
         obtain ⟨cs, hcs⟩ : ∃ cs, cs = cnfL (rls l) := ⟨_, rfl⟩
         rw [← hcs] at hfin hsh hpw hnn hjl
         simp only [← hcs] at AC
         obtain ⟨ws, hws⟩ : ∃ ws, ws = cs.map prW := ⟨_, rfl⟩
         have hwl : ws.length = cs.length := by rw [hws, List.length_map]
         rw [← hws] at hfin hpw hjl
         rw [hfin] at fin
         have KA := Lib.hid AC
         have HNN := Lib.hid hnn
         have HWS := Lib.hid hws
         have HJL := Lib.hid hjl
         have N0 : Hid (Below w1.heap.size w1 (w1.alloc (.cells #[] 9))) := (Below.refl _ w1).alloc (Nat.le_refl _) _
         clear hfin hcs hws AC hnn hcv hcp hsS hsC hsQ hry hrl hok sv hb d0 d1 d2 hpw hjl
         go_wp2_with (go_at_call 42; refine (KA.out _ N0.out).mono ?_; rintro e w2 ⟨o, L, rfl, hL, hP, x2⟩; obtain ⟨lo, lcap, hlo, hlo2⟩ := owns_shape hP.own; subst hlo; have HL := Lib.hid hL; have PL := Lib.hid hP; have X2 := Lib.hid (N0.out.trans (x2.mono N0.out.size)); have HLO := Lib.hid hlo2; clear hL hP x2 hlo2)
         have HLN : Hid (L.length = cs.length) := by rw [Hid, ← HL.out, List.length_map]
         clear d3
         go_loopw [22, 298] (fun s_ i_ wr => ∃ k : Nat, k ≤ L.length ∧ i_ = .int .i64 k ∧ Hid (StN w2.heap.size wr w1.heap.size s_ (ws.take k)) ∧ Below w2.heap.size w2 wr) (fun _ i_ _ => L.length - (intOf i_).toNat)
         case atStart => exact ⟨0, Nat.zero_le _, rfl, .inl ⟨rfl, rfl⟩, Below.refl _ _⟩
         case round =>
           obtain ⟨k, hk, rfl, HSN, hbl⟩ := hrel
           have hln := HLN.out
           have hkb : k ≤ 36 := by omega
           have htl : (ws.take k).length = k := by rw [List.length_take]; omega
           have hlk : (ws.take k).length ≤ 1000 := by omega
           obtain ⟨ao, acap, hsv⟩ := HSN.out.shape
           rw [htl] at hsv
           subst hsv
           clear htl
           by_cases hlt : k < L.length
           · obtain ⟨q, rfl, _⟩ := HLO.out (by omega)
             have hx := List.getElem_mem hlt
             obtain ⟨g, hu, hg1, hg2⟩ := (PL.out.pr _ hx).below hbl (Nat.le_refl _)
             have ho := ownsRow_below PL.out.own hbl (Nat.le_refl _)
             have hcell := ho.cellAt k (by omega)
             rw [List.getElem?_map, List.getElem?_eq_getElem hlt, Option.map_some, hu] at hcell
             have hqw := (ho.lt q rfl).2
             have hgw2 : g < wr.heap.size := (Array.getElem?_eq_some_iff.1 hg2).1
             obtain ⟨⟨d0, d1⟩, _⟩ := row2 hg2
             have hnum := HNN.out (L[k]).p (by rw [← HL.out]; exact List.mem_map.2 ⟨_, hx, rfl⟩)
             have hwk : ws[k]'(by omega) = prW (L[k]).p := by
               have h1 : cs[k]'(by omega) = (L[k]).p := by
                 have h2 : (L.map Px.p)[k]'(by rw [List.length_map]; exact hlt) = cs[k]'(by omega) := by simp only [HL.out]
                 rw [← h2, List.getElem_map]
               simp only [HWS.out, List.getElem_map, h1]
             have htk := take_app ws (k := k) (by omega)
             rw [hwk] at htk
             obtain ⟨p, hp⟩ : ∃ p, p = (L[k]).p := ⟨_, rfl⟩
             rw [← hp] at d0 d1 hnum htk
             have l1 := dec_short (n := p.1) (by omega) (by omega)
             have l2 := dec_short (n := p.2) (by omega) (by omega)
             have K1 : Hid (∀ W', Below wr.heap.size wr W' → Calls Tryz.prog 37 #[.int .i64 p.1] W' fun e w' => e = .returned (.string ⟨(dec p.1).toArray⟩) ∧ Below wr.heap.size wr w') := fun W' hW => (itoa_run p.1 W' (HE1.out.below (X2.out.trans ((hbl.trans (hW.mono hbl.size)).mono X2.out.size))).env (by omega) (by omega)).mono fun e w' h => ⟨h.1, hW.trans (h.2.mono hW.size)⟩
             have K2 : Hid (∀ W', Below wr.heap.size wr W' → Calls Tryz.prog 37 #[.int .i64 p.2] W' fun e w' => e = .returned (.string ⟨(dec p.2).toArray⟩) ∧ Below wr.heap.size wr w') := fun W' hW => (itoa_run p.2 W' (HE1.out.below (X2.out.trans ((hbl.trans (hW.mono hbl.size)).mono X2.out.size))).env (by omega) (by omega)).mono fun e w' h => ⟨h.1, hW.trans (h.2.mono hW.size)⟩
             have hk0 : (0 : Int) ≤ (k : Int) := by omega
             have hk1 : (k : Int) < (L.length : Int) := by omega
             obtain ⟨Y1, Y2, A1, A2, hX⟩ := add_two_w (dec p.1) (dec p.2) (by omega)
             have fk : Hid (ws.take k ++ [Y2] = ws.take (k + 1)) := by rw [Hid, ← htk, hX]; rfl
             obtain ⟨tk, htke⟩ : ∃ tk, tk = ws.take k := ⟨_, rfl⟩
             rw [← htke] at HSN fk hlk
             have KP := Lib.hid (show ∀ w' : World, Below wr.heap.size wr w' → w'.cell? ⟨g, 0, none⟩ = some (.int .i64 p.1) ∧ w'.cell? ⟨g, 1, none⟩ = some (.int .i64 p.2) from fun w' h => ⟨(h.cell (p := ⟨g, 0, none⟩) hgw2).trans d0, (h.cell (p := ⟨g, 1, none⟩) hgw2).trans d1⟩)
             have B0 : Below wr.heap.size wr wr.drew := (Below.refl _ wr).drew
             have hb2 := hbl.size
             have KQ := Lib.hid (show ∀ w' : World, Below w2.heap.size wr w' → w'.cell? ⟨g, 0, none⟩ = some (.int .i64 p.1) ∧ w'.cell? ⟨g, 1, none⟩ = some (.int .i64 p.2) from fun w' h => by
               have hg3 : g < w2.heap.size := by obtain ⟨g', hu', _, hg'⟩ := PL.out.pr _ hx; rw [hu'] at hu; injection hu with h5; injection h5 with h6; injection h6 with h7; rw [← h7]; exact (Array.getElem?_eq_some_iff.1 hg').1
               exact ⟨(h.cell (p := ⟨g, 0, none⟩) hg3).trans d0, (h.cell (p := ⟨g, 1, none⟩) hg3).trans d1⟩)
             clear hx hu hg1 hg2 ho hnum hwk htk l1 l2 hX htke hp hln
             go_upto_region 55 with fail
             go_region_held3 (fun w' => w'.cell? ⟨g, 0, none⟩ = some (.int .i64 p.1) ∧ w'.cell? ⟨g, 1, none⟩ = some (.int .i64 p.2))
               (first
                 | assumption
                 | exact KP.out _ B0
                 | exact KP.out _ y3
                 | exact KP.out _ y4
                 | exact KP.out _ (y3.alloc y3.size _)
                 | exact KP.out _ (y4.alloc y4.size _)
                 | exact KQ.out _ y5)
               ((first
                 | (go_at_call 37; (with_reducible refine (K1.out _ (by assumption)).mono ?_); rintro e w3 ⟨rfl, y3⟩; have s3 := y3.size)
                 | (go_at_call 37; (with_reducible refine (K2.out _ (by assumption)).mono ?_); rintro e w4 ⟨rfl, y4⟩; have s4 := y4.size)
                 | (refine step_st rfl (.tmp 302) (.tmp 313) rfl w2.heap.size w1.heap.size wr _ tk Y2 _ rfl rfl (StN.below (C := wr.heap.size) HSN.out (by go_grown) (Nat.le_refl _)) (by go_grown) hb2 (cell_of_row _ _ 0 _ _ _ (heap_alloc_new _ _)) hlk ?_; intro v5 w5 n5 y5 _; rw [fk.out] at n5)))
             all_goals go_wp2
             all_goals go_roundw
             all_goals first
               | exact ⟨k + 1, by omega, by go_num, n5, hbl.trans y5⟩
               | (simp [intOf]; omega)
           · have hle : decide ((k : Int) < (L.length : Int)) = false := by simp; omega
             have hle2 : decide (k < L.length) = false := by simp; omega
             have fw : ws.take k = ws := List.take_of_length_le (by omega)
             rw [fw] at HSN
             have KJ := Lib.hid (joinS_any _ _ _ ws wr HSN.out (by omega) (by have := HJL.out; omega))
             have X9 := Lib.hid (X2.out.trans (hbl.mono X2.out.size))
             clear fw hln
             go_wp2_with (go_at_call 41; refine KJ.out.mono ?_; rintro e w6 ⟨rfl, x6⟩; have X6 := Lib.hid (X9.out.trans (x6.mono X9.out.size)); clear x6)
             go_ret
             exact ⟨by rw [fin.out] <;> rfl, by rw [fin.out]; exact HS1.out.below X6.out (Nat.le_refl _), grownBy_of_below (X1.out.trans (X6.out.mono X1.out.size))⟩
end Go.Proofs.YtijofgaekmahkaaGreatDoor
