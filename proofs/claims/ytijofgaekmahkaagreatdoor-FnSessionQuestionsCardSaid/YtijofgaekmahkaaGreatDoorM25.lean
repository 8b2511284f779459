/- Joined texts: Walk: taking pieces in the program: what it hands back. Walk: taking pieces in the reference: what it hands back. Walks: pieces added and taken at the reference's desk. append of rules to a list of the call's own, as one step of a region that draws. Walks: a text at an index. Conditions: none. -/
import Derived.Test.YtijofgaekmahkaaGreatDoorM23
import Derived.Test.YtijofgaekmahkaaGreatDoorM24
import Derived.Deep.RegionHeld3
namespace Go.Proofs.YtijofgaekmahkaaGreatDoor
open Go.RowKit
def TakeVal (s : List Art) (c : List (Int × Int)) (a n : Int) (w : World) (e : Ending) (w' : World) : Prop :=
 ∃ (ao : Option Addr) (m cap : Nat), e = .returned (.tuple #[.slice ao m cap, .bool (takeOk s c a n)]) ∧ (takeOk s c a n = true → m = (takeL c a n).length ∧ w'.ownsRow w.heap.size 82 2 (.slice ao m cap) m (pr (takeL c a n))) ∧ Below w.heap.size w w'
theorem takeVal_no {s : List Art} {c : List (Int × Int)} {a n : Int} {w w1 : World} {ao : Option Addr} {m cap : Nat} (h : takeOk s c a n = false) (hb : Below w.heap.size w w1) : TakeVal s c a n w (.returned (.tuple #[.slice ao m cap, .bool false])) w1 :=
 ⟨ao, m, cap, by rw [h], (fun e => by rw [h] at e; cases e), hb⟩
theorem takeVal_yes {s : List Art} {c o : List (Int × Int)} {a n : Int} {w w1 : World} {v : Value} (h : takeOk s c a n = true) (ho : w1.ownsRow w.heap.size 82 2 v o.length (pr o)) (he : o = takeL c a n) (hb : Below w.heap.size w w1) : TakeVal s c a n w (.returned (.tuple #[v, .bool true])) w1 := by
 obtain ⟨ao, cap, rfl, _⟩ := owns_shape ho
 subst he
 exact ⟨ao, _, cap, by rw [h], (fun _ => ⟨rfl, ho⟩), hb⟩
set_option maxHeartbeats 4000000 in
set_option maxRecDepth 100000 in
theorem implTakeVal_any (s : List Art) (u : Value) (c : List (Int × Int)) (v : Value) (a n : Int) (w : World) (hs : Rd w 4 u s.length (ar s)) (hv : Rd w 2 v c.length (pr c)) :
   Calls Tryz.prog 32 #[u, v, .int .i64 a, .int .i64 n] w (TakeVal s c a n w) := by
 have HV := Lib.hid hv
 have HS := Lib.hid hs
 have hm := hs.len
 have hm2 := hv.len
 unfold maxLen at hm hm2
 obtain ⟨so, scap, rfl, _⟩ := hs.arts
 obtain ⟨co, ccap, rfl, _, _, hrc⟩ := hv.pairs
 have HRC := Lib.hid hrc
 clear hv hs hrc
 obtain ⟨i0, hi, hz0, hz1, hz2⟩ := info_parts Tryz.info82a
 have HI := Lib.hid hi
 have HZ0 := Lib.hid hz0
 have HZ1 := Lib.hid hz1
 have HZ2 := Lib.hid hz2
 clear hi hz0 hz1 hz2
 cases hp : vCart s c
 · have fin := Lib.hid (takeOk_c (a := a) (n := n) hp)
   go_enter Tryz.func32, Tryz.ntmps32
   go_wp2_with (go_at_call 61; (with_reducible refine (implCart_any s _ c _ _ HS.out HV.out).mono ?_); rintro e w1 ⟨rfl, hb1⟩)
   go_ret2
   exact takeVal_no fin.out (hb1.alloc hb1.size _)
 by_cases hn : n < 1
 · have fin := Lib.hid (takeOk_n (s := s) (c := c) (a := a) hn)
   go_enter Tryz.func32, Tryz.ntmps32
   go_wp2_with (go_at_call 61; (with_reducible refine (implCart_any s _ c _ _ HS.out HV.out).mono ?_); rintro e w1 ⟨rfl, hb1⟩)
   go_ret2
   exact takeVal_no fin.out (hb1.alloc hb1.size _)
 have HOK := Lib.hid hp
 have hnb : decide (n < 1) = false := by simpa using hn
 have hn1 : 1 ≤ n := by omega
 go_enter Tryz.func32, Tryz.ntmps32
 go_wp2_with (go_at_call 61; (with_reducible refine (implCart_any s _ c _ _ HS.out HV.out).mono ?_); rintro e w2 ⟨rfl, hb1⟩)
 have O0 := Lib.hid (show (w2.alloc (.cells #[] 82)).ownsRow w.heap.size 82 2 (.slice (some ⟨w2.heap.size, 0, none⟩) 0 0) 0 (pr []) from World.ownsRow_made w2 #[] 0 hb1.size (by simp) (by simp))
 have B0 := hb1.alloc hb1.size (.cells #[] 82)
 have T0 := Lib.hid (takeL_zero c a n)
 clear hp hb1
 go_loopw [10, 11, 26] (fun o_ d_ i_ wr => ∃ (k : Nat) (d : Bool) (o : List (Int × Int)), k ≤ c.length ∧ i_ = .int .i64 k ∧ d_ = .bool d ∧ o.length ≤ k ∧ Hid (o = takeL (c.take k) a n) ∧ Hid (hasA (c.take k) a = d) ∧ Hid (fewA (c.take k) a n = false) ∧ Hid (wr.ownsRow w.heap.size 82 2 o_ o.length (pr o)) ∧ Below w.heap.size w wr) (fun _ _ i_ _ => c.length - (intOf i_).toNat)
 case atStart => exact ⟨0, false, [], Nat.zero_le _, rfl, rfl, Nat.le_refl _, T0.out.1.symm, T0.out.2.1, T0.out.2.2, O0, B0⟩
 case round =>
   clear O0 B0
   obtain ⟨k, d, o, hk, rfl, rfl, hol, hT, hH, hF, O, hbl⟩ := hrel
   have hc8 := (vLines_all (vCart_pr HOK.out).2).2
   by_cases hlt : k < c.length
   · obtain ⟨h4, h5, h6, h7, h8, h9⟩ := art_in HOK.out hlt
     obtain ⟨b, off, rfl, hb, hcell⟩ := HRC.out (by omega)
     have g0 := (hbl.cell (p := ⟨b, off + k*2, none⟩) hb).trans (hcell k hlt).1
     have g1 := (hbl.cell (p := ⟨b, off + k*2+1, none⟩) hb).trans (hcell k hlt).2
     have hbw : b < wr.heap.size := Nat.lt_of_lt_of_le hb hbl.size
     clear hcell h4 h5 h6 h9
     have hbl1 : Below w.heap.size w (wr.alloc (.cells #[.int .i64 (pA c k), .int .i64 (pB c k)] 82)) := hbl.alloc hbl.size _
     by_cases heq : pA c k = a
     · have hneq : (pA c k == a) = true := by rw [beq_iff_eq]; exact heq
       have HE := Lib.hid heq
       clear heq
       by_cases hfew : pB c k < n
       · have fin := Lib.hid (takeOk_f (s := s) (takeL_few hlt HE.out hfew))
         go_wp2
         go_ret2
         exact takeVal_no fin.out (hbl1.alloc hbl1.size _)
       · have hw : IntKind.i64.wrap (pB c k - n) = pB c k - n := IntWalk.i64_in _ (by omega)
         have hfewb : decide (pB c k < n) = false := by simpa using hfew
         by_cases hmore : n < pB c k
         · have hnew := Lib.hid (takeL_more hlt HE.out hmore)
           have hgb : 0 < pB c k - n := by omega
           go_wp2_with (at_builtin; refine app_pair2 rfl (.tmp 47) (.tmp 49) 50 rfl w.heap.size 82 _ i0 _ Tryz.underlying50 HI.out HZ0.out HZ1.out HZ2.out rfl _ o (pA c k) (pB c k - n) rfl O.out rfl (by omega) hbl.size ?_; intro vA wA hoA hgA; have OB := Lib.hid hoA; have BOB := below_row ((hbl.alloc hbl.size _).alloc (hbl.alloc hbl.size _).size _) hgA (fun k hk => (O.out.lt k hk).1); clear hoA hgA)
           go_roundw
           case rel => exact ⟨k + 1, true, o ++ [(pA c k, pB c k - n)], by omega, by go_num, rfl, by simp; omega, by rw [Hid, hnew.out.1, ← hT.out, HE.out], hnew.out.2.1, by rw [Hid, hnew.out.2.2]; exact hF.out, OB, BOB⟩
           case measure => simp [intOf]; omega
         · have hnew := Lib.hid (takeL_all (n := n) hlt HE.out (by omega))
           have hgb : decide (0 < pB c k - n) = false := by simp; omega
           go_wp2
           go_roundw
           case rel => exact ⟨k + 1, true, o, by omega, by go_num, rfl, by omega, by rw [Hid, hnew.out.1]; exact hT.out, hnew.out.2.1, by rw [Hid, hnew.out.2.2]; exact hF.out, Lib.hid (O.out.alloc _), hbl.alloc hbl.size _⟩
           case measure => simp [intOf]; omega
     · have hnew := Lib.hid (takeL_ne (n := n) hlt heq)
       have hneq : (pA c k == a) = false := by rw [beq_eq_false_iff_ne]; exact heq
       have hgb : 0 < pB c k := by omega
       go_wp2_with (at_builtin; refine app_pair2 rfl (.tmp 47) (.tmp 49) 50 rfl w.heap.size 82 _ i0 _ Tryz.underlying50 HI.out HZ0.out HZ1.out HZ2.out rfl _ o (pA c k) (pB c k) rfl O.out rfl (by omega) hbl.size ?_; intro vA wA hoA hgA; have OB := Lib.hid hoA; have BOB := below_row ((hbl.alloc hbl.size _).alloc (hbl.alloc hbl.size _).size _) hgA (fun k hk => (O.out.lt k hk).1); clear hoA hgA)
       go_roundw
       case rel => exact ⟨k + 1, d, o ++ [(pA c k, pB c k)], by omega, by go_num, rfl, by simp; omega, by rw [Hid, hnew.out.1, ← hT.out]; rfl, by rw [Hid, hnew.out.2.1]; exact hH.out, by rw [Hid, hnew.out.2.2]; exact hF.out, OB, BOB⟩
       case measure => simp [intOf]; omega
   · obtain rfl : k = c.length := by omega
     rw [List.take_length] at hH hF hT
     cases d
     · have fin := Lib.hid (takeOk_h (s := s) (n := n) hH.out)
       go_wp2
       go_ret2
       exact takeVal_no fin.out (hbl.alloc hbl.size _)
     · have fin := Lib.hid (takeOk_y HOK.out hn1 hH.out hF.out)
       go_wp2
       go_ret2
       exact takeVal_yes fin.out O.out hT.out hbl
end Go.Proofs.YtijofgaekmahkaaGreatDoor

namespace Go.Proofs.YtijofgaekmahkaaGreatDoor
open Go.RowKit
set_option maxHeartbeats 8000000 in
set_option maxRecDepth 100000 in
theorem specTakeVal_any (s : List Art) (u : Value) (c : List (Int × Int)) (v : Value) (a n : Int) (w : World) (hs : Rd w 4 u s.length (ar s)) (hv : Rd w 2 v c.length (pr c)) (hp : vCart s c = true) :
   Calls Tryz.prog 87 #[u, v, .int .i64 a, .int .i64 n] w (TakeVal s c a n w) := by
 have HV := Lib.hid hv
 have HS := Lib.hid hs
 have hm := hs.len
 have hm2 := hv.len
 unfold maxLen at hm hm2
 obtain ⟨so, scap, rfl, _⟩ := hs.arts
 obtain ⟨co, ccap, rfl, _, _, hrc⟩ := hv.pairs
 have HRC := Lib.hid hrc
 clear hv hs hrc
 obtain ⟨i0, hi, hz0, hz1, hz2⟩ := info_parts Tryz.info82a
 have HI := Lib.hid hi
 have HZ0 := Lib.hid hz0
 have HZ1 := Lib.hid hz1
 have HZ2 := Lib.hid hz2
 clear hi hz0 hz1 hz2
 have HOK := Lib.hid hp
 have hp2 := vCart_pr hp
 have HP2 := Lib.hid hp2
 have hc8 := (vLines_all hp2.2).2
 have O0 := Lib.hid (World.ownsRow_made w #[] 0 (Nat.le_refl _) (by simp) (by simp) : (w.alloc (.cells #[] 82)).ownsRow w.heap.size 82 2 (.slice (some ⟨w.heap.size, 0, none⟩) 0 0) 0 (pr []))
 have b0 : Below w.heap.size w (w.alloc (.cells #[] 82)) := (Below.refl _ w).alloc (Nat.le_refl _) _
 have B0 := Lib.hid b0
 have T0 := Lib.hid (takeL_zero c a n)
 clear hp hp2 b0
 by_cases hn : n < 1
 · have fin := Lib.hid (takeOk_n (s := s) (c := c) (a := a) hn)
   have hnb : decide (n < 1) = true := by simp; omega
   go_enter Tryz.func87, Tryz.ntmps87
   go_wp2_with (first
     | (go_at_call 89; refine (specShop_in s _ _ (HS.out.below B0.out (Nat.le_refl _))).mono ?_; rintro e w1 ⟨rfl, x1⟩; rw [HP2.out.1]; have B1 := Lib.hid (B0.out.trans (x1.mono B0.out.size)); clear x1)
     | (go_at_call 90; refine (specCart_in so s.length scap c _ _ (HV.out.below B1.out (Nat.le_refl _)) (by omega)).mono ?_; rintro e w2 ⟨rfl, x2⟩; rw [HP2.out.2]; have B2 := Lib.hid (B1.out.trans (x2.mono B1.out.size)); clear x2))
   go_ret2
   exact takeVal_no fin.out B2.out
 have hnb : decide (n < 1) = false := by simp; omega
 have hn1 : 1 ≤ n := by omega
 go_enter Tryz.func87, Tryz.ntmps87
 go_wp2_with (first
   | (go_at_call 89; refine (specShop_in s _ _ (HS.out.below B0.out (Nat.le_refl _))).mono ?_; rintro e w1 ⟨rfl, x1⟩; rw [HP2.out.1]; have B1 := Lib.hid (B0.out.trans (x1.mono B0.out.size)); have O1 := Lib.hid (ownsRow_below O0.out x1 (Nat.le_refl _)); clear x1)
   | (go_at_call 90; refine (specCart_in so s.length scap c _ _ (HV.out.below B1.out (Nat.le_refl _)) (by omega)).mono ?_; rintro e w2 ⟨rfl, x2⟩; rw [HP2.out.2]; have B2 := Lib.hid (B1.out.trans (x2.mono B1.out.size)); have O2 := Lib.hid (ownsRow_below O1.out x2 (Nat.le_refl _)); clear x2))
 go_loopw [10, 11, 12] (fun o_ d_ i_ wr => ∃ (k : Nat) (d : Bool) (o : List (Int × Int)), k ≤ c.length ∧ i_ = .int .i64 k ∧ d_ = .bool d ∧ o.length ≤ k ∧ Hid (o = takeL (c.take k) a n) ∧ Hid (hasA (c.take k) a = d) ∧ Hid (fewA (c.take k) a n = false) ∧ Hid (wr.ownsRow w.heap.size 82 2 o_ o.length (pr o)) ∧ Below w.heap.size w wr) (fun _ _ i_ _ => c.length - (intOf i_).toNat)
 case atStart => exact ⟨0, false, [], Nat.zero_le _, rfl, rfl, Nat.le_refl _, T0.out.1.symm, T0.out.2.1, T0.out.2.2, O2, B2.out⟩
 case round =>
   clear O0 B0 O1 B1 O2 B2
   obtain ⟨k, d, o, hk, rfl, rfl, hol, hT, hH, hF, O, hbl⟩ := hrel
   obtain ⟨oo, ocap, hso, _⟩ := owns_shape O.out
   subst hso
   by_cases hlt : k < c.length
   · obtain ⟨h4, h5, h6, h7, h8, h9⟩ := art_in HOK.out hlt
     obtain ⟨b, off, rfl, hb, hcell⟩ := HRC.out (by omega)
     have g0 := (hbl.cell (p := ⟨b, off + k*2, none⟩) hb).trans (hcell k hlt).1
     have g1 := (hbl.cell (p := ⟨b, off + k*2+1, none⟩) hb).trans (hcell k hlt).2
     have hbw : b < wr.heap.size := Nat.lt_of_lt_of_le hb hbl.size
     have hk0 : (0 : Int) ≤ (k : Int) := by omega
     have hk1 : (k : Int) < (c.length : Int) := by omega
     clear hcell h4 h5 h6 h9
     by_cases heq : pA c k = a
     · have hneq : (pA c k != a) = false := by simp [heq]
       have HE := Lib.hid heq
       clear heq
       by_cases hfew : pB c k < n
       · have fin := Lib.hid (takeOk_f (s := s) (takeL_few hlt HE.out hfew))
         have hfewb : decide (pB c k < n) = true := by simpa using hfew
         go_wp2
         go_ret2
         exact takeVal_no fin.out hbl
       · have hw : IntKind.i64.wrap (pB c k - n) = pB c k - n := IntWalk.i64_in _ (by omega)
         have hfewb : decide (pB c k < n) = false := by simpa using hfew
         by_cases hmore : n < pB c k
         · have hnew := Lib.hid (takeL_more hlt HE.out hmore)
           have hgb : decide (n < pB c k) = true := by simp [hmore]
           go_wp2_with (at_builtin; refine app_near rfl (.tmp 40) (.tmp 50) 50 rfl w.heap.size 82 _ i0 _ Tryz.underlying50 HI.out HZ0.out HZ1.out HZ2.out rfl _ o a (pB c k - n) rfl O.out rfl (by omega) hbl.size ?_; intro vA wA hoA hgA _; have OB := Lib.hid hoA; have BOB := below_row (hbl.alloc hbl.size _) hgA (fun k hk => (O.out.lt k hk).1); clear hoA hgA)
           go_roundw
           case rel => exact ⟨k + 1, true, o ++ [(a, pB c k - n)], by omega, by go_num, rfl, by simp; omega, by rw [Hid, hnew.out.1, ← hT.out], hnew.out.2.1, by rw [Hid, hnew.out.2.2]; exact hF.out, OB, BOB⟩
           case measure => simp [intOf]; omega
         · have hnew := Lib.hid (takeL_all (n := n) hlt HE.out (by omega))
           have hgb : decide (n < pB c k) = false := by simp; omega
           go_wp2
           go_roundw
           case rel => exact ⟨k + 1, true, o, by omega, by go_num, rfl, by omega, by rw [Hid, hnew.out.1]; exact hT.out, hnew.out.2.1, by rw [Hid, hnew.out.2.2]; exact hF.out, O, hbl⟩
           case measure => simp [intOf]; omega
     · have hnew := Lib.hid (takeL_ne (n := n) hlt heq)
       have hneq : (pA c k != a) = true := by simp [heq]
       go_wp2_with (at_builtin; refine app_near rfl (.tmp 60) (.tmp 65) 50 rfl w.heap.size 82 _ i0 _ Tryz.underlying50 HI.out HZ0.out HZ1.out HZ2.out rfl _ o (pA c k) (pB c k) rfl O.out rfl (by omega) hbl.size ?_; intro vA wA hoA hgA _; have OB := Lib.hid hoA; have BOB := below_row (hbl.alloc hbl.size _) hgA (fun k hk => (O.out.lt k hk).1); clear hoA hgA)
       go_roundw
       case rel => exact ⟨k + 1, d, o ++ [(pA c k, pB c k)], by omega, by go_num, rfl, by simp; omega, by rw [Hid, hnew.out.1, ← hT.out]; rfl, by rw [Hid, hnew.out.2.1]; exact hH.out, by rw [Hid, hnew.out.2.2]; exact hF.out, OB, BOB⟩
       case measure => simp [intOf]; omega
   · have hk9 : k = c.length := by omega
     have hle : decide ((k : Int) < (c.length : Int)) = false := by simp; omega
     rw [hk9, List.take_length] at hH hF hT
     cases d
     · have fin := Lib.hid (takeOk_h (s := s) (n := n) hH.out)
       clear hk9
       go_wp2
       go_ret2
       exact takeVal_no fin.out hbl
     · have fin := Lib.hid (takeOk_y HOK.out hn1 hH.out hF.out)
       clear hk9
       go_wp2
       go_ret2
       exact takeVal_yes fin.out O.out hT.out hbl
end Go.Proofs.YtijofgaekmahkaaGreatDoor

namespace Go.Proofs.YtijofgaekmahkaaGreatDoor
open Go.RowKit
theorem add_yes {S : Se} {a n : Int} (h : addOk shopS S.c a n = true) : stepC S (.add a n) = ({ S with c := addL S.c a n }, tOk) := by rw [stepC_add, if_pos h]
theorem add_no {S : Se} {a n : Int} (h : addOk shopS S.c a n = false) : stepC S (.add a n) = (S, tNo) := by rw [stepC_add, if_neg (by rw [h]; simp)]
theorem take_yes {S : Se} {a n : Int} (h : takeOk shopS S.c a n = true) : stepC S (.take a n) = ({ S with c := takeL S.c a n }, tOk) := by rw [stepC_take, if_pos h]
theorem take_no {S : Se} {a n : Int} (h : takeOk shopS S.c a n = false) : stepC S (.take a n) = (S, tNo) := by rw [stepC_take, if_neg (by rw [h]; simp)]
theorem addL_ok {S : Se} {a n : Int} (h : addOk shopS S.c a n = true) : vCart shopS (addL S.c a n) = true := (addOk_pr h).2.2.2.2.2
set_option maxHeartbeats 4000000 in
set_option maxRecDepth 100000 in
theorem deskAdd_any (b : Nat) (S : Se) (a n : Int) (w : World) (h : SesD w b S) :
   Calls Tryz.prog 45 #[.pointer (some ⟨b, 0, none⟩), .int .i64 a, .int .i64 n] w fun e w' => e = .returned (.string ⟨(stepC S (.add a n)).2.toArray⟩) ∧ SesD w' b (stepC S (.add a n)).1 ∧ w.grownBy w' (some b) := by
 obtain ⟨u, v, z, y, hb, sv⟩ := h
 have hbs := sv.lt
 obtain ⟨so, scap, rfl, _⟩ := sv.s.arts (l := shopS)
 obtain ⟨co, ccap, rfl, _⟩ := sv.c.pairs
 obtain ⟨⟨c0, c1, c2, c3⟩, f0, f1, f2, f3⟩ := row4 hb
 have HB := Lib.hid hb
 have SV := Lib.hid sv
 have K : Hid (∀ W', Below w.heap.size w W' → Calls Tryz.prog 86 #[.slice so 4 scap, .slice co S.c.length ccap, .int .i64 a, .int .i64 n] W' (AddPost shopS S.c a n W')) := fun W' hW => specAdd_any shopS _ S.c _ a n W' (sv.s.below hW (Nat.le_refl _)) (sv.c.below hW (Nat.le_refl _))
 have KP := Lib.hid (show ∀ w' : World, Below w.heap.size w w' → w'.cell? ⟨b, 0, none⟩ = some (.slice so 4 scap) ∧ w'.cell? ⟨b, 1, none⟩ = some (.slice co S.c.length ccap) ∧ Below w.heap.size w w' from fun w' h => ⟨(h.cell (p := ⟨b, 0, none⟩) hbs).trans c0, (h.cell (p := ⟨b, 1, none⟩) hbs).trans c1, h⟩)
 have B0 : Below w.heap.size w w.drew := (Below.refl _ w).drew
 clear sv
 cases ha : addOk shopS S.c a n
 · have HA := Lib.hid ha
   have fin := Lib.hid (add_no ha)
   clear ha
   go_enter Tryz.func45, Tryz.ntmps45
   go_upto_region 1 with fail
   go_region_held3 (fun w' => w'.cell? ⟨b, 0, none⟩ = some (.slice so 4 scap) ∧ w'.cell? ⟨b, 1, none⟩ = some (.slice co S.c.length ccap) ∧ Below w.heap.size w w')
     (first
       | assumption
       | exact KP.out _ B0
       | exact KP.out _ y9)
     ((go_at_call 86; (with_reducible refine (K.out _ B0).mono ?_); rintro e w9 ⟨v9, rfl, h9, x9⟩; obtain ⟨vo, vc, hv9, _⟩ := owns_shape h9; subst hv9; rw [HA.out]; have y9 : Below w.heap.size w w9 := B0.trans (x9.mono B0.size)))
   all_goals go_wp2
   all_goals go_ret
   all_goals exact ⟨by rw [fin.out]; rfl, by rw [fin.out]; exact ⟨_, _, z, y, (y9.block b hbs).trans HB.out, SV.out.below y9 (Nat.le_refl _)⟩, grownBy_of_below y9⟩
 · have HA := Lib.hid ha
   have HK := Lib.hid (addL_ok ha)
   have fin := Lib.hid (add_yes ha)
   clear ha
   go_enter Tryz.func45, Tryz.ntmps45
   go_upto_region 1 with fail
   go_region_held3 (fun w' => w'.cell? ⟨b, 0, none⟩ = some (.slice so 4 scap) ∧ w'.cell? ⟨b, 1, none⟩ = some (.slice co S.c.length ccap) ∧ Below w.heap.size w w')
     (first
       | assumption
       | exact KP.out _ B0
       | exact KP.out _ y9)
     ((go_at_call 86; (with_reducible refine (K.out _ B0).mono ?_); rintro e w9 ⟨v9, rfl, h9, x9⟩; rw [addR_yes HA.out] at h9; obtain ⟨vo, vc, hv9, _⟩ := owns_shape h9; subst hv9; rw [HA.out]; have y9 : Below w.heap.size w w9 := B0.trans (x9.mono B0.size); obtain ⟨⟨d0, d1, d2, d3⟩, g0, g1, g2, g3⟩ := row4 ((y9.block b hbs).trans HB.out); have R9 := Lib.hid (Rd.of_owns h9); have F9 := Lib.hid (Off.of_owns h9 hbs)))
   all_goals go_wp2
   all_goals go_ret
   all_goals exact ⟨by rw [fin.out]; rfl, by rw [fin.out]; exact ⟨_, _, z, y, SesD.set1 ((y9.block b hbs).trans HB.out), ((SV.out.below y9 (Nat.le_refl _)).grown (grown_set _ b 1 _)).cart (R9.out.grown (grown_set _ b 1 _) F9.out) F9.out HK.out⟩, grownBy_trans (grownBy_of_below y9) (grown_set _ b 1 _)⟩
set_option maxHeartbeats 4000000 in
set_option maxRecDepth 100000 in
theorem deskTake_any (b : Nat) (S : Se) (a n : Int) (w : World) (h : SesD w b S) :
   Calls Tryz.prog 47 #[.pointer (some ⟨b, 0, none⟩), .int .i64 a, .int .i64 n] w fun e w' => e = .returned (.string ⟨(stepC S (.take a n)).2.toArray⟩) ∧ SesD w' b (stepC S (.take a n)).1 ∧ w.grownBy w' (some b) := by
 obtain ⟨u, v, z, y, hb, sv⟩ := h
 have hbs := sv.lt
 obtain ⟨so, scap, rfl, _⟩ := sv.s.arts (l := shopS)
 obtain ⟨co, ccap, rfl, _⟩ := sv.c.pairs
 obtain ⟨⟨c0, c1, c2, c3⟩, f0, f1, f2, f3⟩ := row4 hb
 have HB := Lib.hid hb
 have SV := Lib.hid sv
 have K : Hid (∀ W', Below w.heap.size w W' → Calls Tryz.prog 87 #[.slice so 4 scap, .slice co S.c.length ccap, .int .i64 a, .int .i64 n] W' (TakeVal shopS S.c a n W')) := fun W' hW => specTakeVal_any shopS _ S.c _ a n W' (sv.s.below hW (Nat.le_refl _)) (sv.c.below hW (Nat.le_refl _)) sv.ok.c
 have KP := Lib.hid (show ∀ w' : World, Below w.heap.size w w' → w'.cell? ⟨b, 0, none⟩ = some (.slice so 4 scap) ∧ w'.cell? ⟨b, 1, none⟩ = some (.slice co S.c.length ccap) ∧ Below w.heap.size w w' from fun w' h => ⟨(h.cell (p := ⟨b, 0, none⟩) hbs).trans c0, (h.cell (p := ⟨b, 1, none⟩) hbs).trans c1, h⟩)
 have B0 : Below w.heap.size w w.drew := (Below.refl _ w).drew
 clear sv
 cases ha : takeOk shopS S.c a n
 · have HA := Lib.hid ha
   have fin := Lib.hid (take_no ha)
   clear ha
   go_enter Tryz.func47, Tryz.ntmps47
   go_upto_region 1 with fail
   go_region_held3 (fun w' => w'.cell? ⟨b, 0, none⟩ = some (.slice so 4 scap) ∧ w'.cell? ⟨b, 1, none⟩ = some (.slice co S.c.length ccap) ∧ Below w.heap.size w w')
     (first
       | assumption
       | exact KP.out _ B0
       | exact KP.out _ y9)
     ((go_at_call 87; (with_reducible refine (K.out _ B0).mono ?_); rintro e w9 ⟨vo, m9, vc, rfl, _, x9⟩; rw [HA.out]; have y9 : Below w.heap.size w w9 := B0.trans (x9.mono B0.size)))
   all_goals go_wp2
   all_goals go_ret
   all_goals exact ⟨by rw [fin.out]; rfl, by rw [fin.out]; exact ⟨_, _, z, y, (y9.block b hbs).trans HB.out, SV.out.below y9 (Nat.le_refl _)⟩, grownBy_of_below y9⟩
 · have HA := Lib.hid ha
   have HK := Lib.hid (takeL_ok ha)
   have fin := Lib.hid (take_yes ha)
   clear ha
   go_enter Tryz.func47, Tryz.ntmps47
   go_upto_region 1 with fail
   go_region_held3 (fun w' => w'.cell? ⟨b, 0, none⟩ = some (.slice so 4 scap) ∧ w'.cell? ⟨b, 1, none⟩ = some (.slice co S.c.length ccap) ∧ Below w.heap.size w w')
     (first
       | assumption
       | exact KP.out _ B0
       | exact KP.out _ y9)
     ((go_at_call 87; (with_reducible refine (K.out _ B0).mono ?_); rintro e w9 ⟨vo, m9, vc, rfl, h8, x9⟩; obtain ⟨rfl, h9⟩ := h8 HA.out; rw [HA.out]; have y9 : Below w.heap.size w w9 := B0.trans (x9.mono B0.size); obtain ⟨⟨d0, d1, d2, d3⟩, g0, g1, g2, g3⟩ := row4 ((y9.block b hbs).trans HB.out); have R9 := Lib.hid (Rd.of_owns h9); have F9 := Lib.hid (Off.of_owns h9 hbs)))
   all_goals go_wp2
   all_goals go_ret
   all_goals exact ⟨by rw [fin.out]; rfl, by rw [fin.out]; exact ⟨_, _, z, y, SesD.set1 ((y9.block b hbs).trans HB.out), ((SV.out.below y9 (Nat.le_refl _)).grown (grown_set _ b 1 _)).cart (R9.out.grown (grown_set _ b 1 _) F9.out) F9.out HK.out⟩, grownBy_trans (grownBy_of_below y9) (grown_set _ b 1 _)⟩
end Go.Proofs.YtijofgaekmahkaaGreatDoor

namespace Go.Proofs.YtijofgaekmahkaaGreatDoor
open Go.RowKit
def RuN (B : Nat) (w : World) (n0 : Nat) (v : Value) (l : List Rx) : Prop := (v = .slice (some ⟨n0, 0, none⟩) 0 0 ∧ l = []) ∨ w.ownsRow B 43 11 v l.length (rx l)
theorem RuN.shape {B n0 : Nat} {w : World} {v : Value} {l : List Rx} (h : RuN B w n0 v l) : ∃ ao cap, v = .slice ao l.length cap := by
 rcases h with ⟨rfl, rfl⟩ | h
 · exact ⟨_, 0, rfl⟩
 · obtain ⟨ao, cap, e, _⟩ := owns_shape h
   exact ⟨ao, cap, e⟩
theorem RuN.below {B C n0 : Nat} {w w' : World} {v : Value} {l : List Rx} (h : RuN B w n0 v l) (hb : Below C w w') (hC : w.heap.size ≤ C) : RuN B w' n0 v l := by
 rcases h with h | h
 · exact .inl h
 · exact .inr (ownsRow_below h hb hC)
theorem RuN.alloc {B n0 : Nat} {w : World} {v : Value} {l : List Rx} (h : RuN B w n0 v l) (o : Obj) : RuN B (w.alloc o) n0 v l := h.below ((Below.refl _ w).alloc (Nat.le_refl _) o) (Nat.le_refl _)
theorem RuN.rd {B n0 : Nat} {w : World} {v : Value} {l : List Rx} (h : RuN B w n0 v l) : Rd w 11 v l.length (rx l) := by
 rcases h with ⟨rfl, rfl⟩ | h
 · exact ⟨rfl, _, 0, rfl, Nat.le_refl _, Nat.zero_le _, fun h => absurd h (Nat.lt_irrefl _)⟩
 · exact Rd.of_owns h
theorem RuN.off {B n0 b : Nat} {w : World} {v : Value} {l : List Rx} (h : RuN B w n0 v l) (hb : b < B) (hn : b ≠ n0) : Off b v := by
 rcases h with ⟨rfl, _⟩ | h
 · intro a m c he
   injection he with h1
   obtain rfl := Option.some.inj h1
   exact fun e => hn e.symm
 · exact Off.of_owns h hb
theorem rd_adds {w : World} {sz n c : Nat} {ad : Addr} {xs : List Value} (h : Rd w sz (.slice (some ad) n c) n xs) : ∀ j u, xs[j]? = some u → w.cell? (ad.add j) = some u := by
 intro j u hu
 obtain ⟨h1, ao, cap, h2, _, _, h5⟩ := h
 injection h2 with h2a
 subst h2a
 by_cases hz : 0 < n
 · obtain ⟨b, off, h6, _, h8⟩ := h5 hz
   have h6' := Option.some.inj h6
   subst h6'
   have := h8 j u hu
   unfold Addr.add
   by_cases hj : j = 0
   · subst hj; simpa using this
   · simpa [hj] using this
 · have hj := (List.getElem?_eq_some_iff.1 hu).1
   have h0 : n = 0 := by omega
   rw [h1, h0] at hj
   omega
theorem run_ru0 (B n0 : Nat) (w : World) (ty : TypeId) (x : Value) (m : List Rx) (hB : B ≤ w.heap.size) (hx : Rd w 11 x m.length (rx m)) (hm : Shp m) (hlen : m.length ≤ 1000) :
   ∃ v' w', (Builtin.append_ #[51, 51] ty #[.slice (some ⟨n0, 0, none⟩) 0 0, x]).run Tryz.prog w = .ok v' w' ∧ RuN B w' n0 v' m ∧ Below w.heap.size w w' := by
 obtain ⟨i0, hi, hz0, hz1, hz2⟩ := info_parts Tryz.info43z
 obtain ⟨_, ao, cap, rfl, _, _, h5⟩ := id hx
 cases ao with
 | none =>
   have hm0 : m = [] := by
     by_cases hz : 0 < m.length
     · obtain ⟨b, off, h6, _⟩ := h5 hz; cases h6
     · exact List.eq_nil_of_length_eq_zero (by omega)
   subst hm0
   refine ⟨_, w, ?_, .inl ⟨rfl, rfl⟩, Below.refl _ _⟩
   simp [Builtin.append_, run_underlying Tryz.underlying51, sizeOf, typeInfo, hi, Builtin.lenOf, Builtin.firstCells, storeCells]
 | some ad =>
   obtain ⟨v', w', h1, h2, h3⟩ := run_append_zero (P := Tryz.prog) w 51 ty 43 i0 _ 11 104 Tryz.underlying51 hi hz0 hz1 hz2 rfl (by decide) n0 ad m.length cap (rx m) (rx_len m) (rd_adds hx) (rx_one hm) (by unfold maxLen; omega) (by omega)
   refine ⟨v', w', h1, ?_, h2⟩
   rcases h3 with ⟨h4, rfl, rfl⟩ | ⟨_, h4⟩
   · have : m = [] := List.eq_nil_of_length_eq_zero h4
     subst this
     exact .inl ⟨rfl, rfl⟩
   · exact .inr (owns_base h4 hB)
theorem run_ru (B n0 : Nat) (w : World) (ty : TypeId) (v x : Value) (l m : List Rx) (h : RuN B w n0 v l) (hB : B ≤ w.heap.size) (hx : Rd w 11 x m.length (rx m)) (hm : Shp m) (hlen : l.length + m.length ≤ 1000) :
   ∃ v' w', (Builtin.append_ #[51, 51] ty #[v, x]).run Tryz.prog w = .ok v' w' ∧ RuN B w' n0 v' (l ++ m) ∧ Below B w w' := by
 rcases h with ⟨rfl, rfl⟩ | h
 · obtain ⟨v', w', h1, h2, h3⟩ := run_ru0 B n0 w ty x m hB hx hm (by simpa using hlen)
   exact ⟨v', w', h1, by rw [List.nil_append]; exact h2, h3.mono hB⟩
 · obtain ⟨i0, hi, hz0, hz1, hz2⟩ := info_parts Tryz.info43z
   obtain ⟨_, ao, cap, rfl, _, _, h5⟩ := id hx
   cases ao with
   | none =>
     have hm0 : m = [] := by
       by_cases hz : 0 < m.length
       · obtain ⟨b, off, h6, _⟩ := h5 hz; cases h6
       · exact List.eq_nil_of_length_eq_zero (by omega)
     subst hm0
     refine ⟨v, w, ?_, by rw [List.append_nil]; exact .inr h, Below.refl _ _⟩
     rcases h.2 with ⟨rfl, h0⟩ | ⟨g, cap2, cur, rfl, _, _, hnc, _⟩
     · simp [Builtin.append_, run_underlying Tryz.underlying51, sizeOf, typeInfo, hi, Builtin.lenOf, Builtin.firstCells]
     · simp [Builtin.append_, run_underlying Tryz.underlying51, sizeOf, typeInfo, hi, Builtin.lenOf, Builtin.firstCells, hnc, storeCells]
   | some ad =>
     obtain ⟨v', w', h1, h2, h3, _⟩ := run_append_near (P := Tryz.prog) w B 51 ty 43 i0 _ 11 104 Tryz.underlying51 hi hz0 hz1 hz2 rfl (by decide) v l.length (rx l) h ad m.length cap (rx m) (rx_len m) (rd_adds hx) (rx_one hm) (by unfold maxLen; omega) (by omega) hB
     refine ⟨v', w', h1, .inr ?_, (Below.refl B w).grown h3 hB (fun k hk => (h.lt k hk).1)⟩
     rw [List.length_append, rx_append]
     exact h2
theorem step_ru0 {ops : Array Oper} {o : Oper} {a : Act} {w : World} {K : Act → World → Prop} {Q : Exit → Act → World → Prop} {E : Prop} (hgd : o.guard = none) (s x : Operand)
   (ho : o.op = .call { callee := .builtin .append, args := #[s, x], argTypes := #[51, 51] }) (W1 : World) (n0 : Nat) (xv : Value) (m : List Rx) (hs : a.eval s = .slice (some ⟨n0, 0, none⟩) 0 0) (hx : a.eval x = xv) (hb : Below W1.heap.size W1 w) (hr : Rd w 11 xv m.length (rx m)) (hm : Shp m) (hlen : m.length ≤ 1000)
   (hk : ∀ v' w', RuN W1.heap.size w' n0 v' m → Below w.heap.size w w' → Below W1.heap.size W1 w' → K (a.put o.dst v') w') : if Region.wanted o (yielded ops a.tmps) = true then Oper.wp Tryz.prog o a w K Q else E := by
 have hw : Region.wanted o (yielded ops a.tmps) = true := by simp [Region.wanted, hgd]
 rw [if_pos hw]
 obtain ⟨v', w', hrn, h2, h3⟩ := run_ru0 W1.heap.size n0 w o.type xv m hb.size hr hm hlen
 unfold Oper.wp execOp
 simp only [ho, resolve, invoke, builtin, Sem.run_bind, Sem.run_pure, Result.andThen_ok, List.map_toArray, List.map_cons, List.map_nil, hs, hx, hrn]
 exact hk v' w' h2 h3 (hb.trans (h3.mono hb.size))
theorem step_ru {ops : Array Oper} {o : Oper} {a : Act} {w : World} {K : Act → World → Prop} {Q : Exit → Act → World → Prop} {E : Prop} (hgd : o.guard = none) (s x : Operand)
   (ho : o.op = .call { callee := .builtin .append, args := #[s, x], argTypes := #[51, 51] }) (W1 : World) (n0 : Nat) (v xv : Value) (l m : List Rx) (hs : a.eval s = v) (hx : a.eval x = xv) (h : RuN W1.heap.size w n0 v l) (hb : Below W1.heap.size W1 w) (hr : Rd w 11 xv m.length (rx m)) (hm : Shp m) (hlen : l.length + m.length ≤ 1000)
   (hk : ∀ v' w', RuN W1.heap.size w' n0 v' (l ++ m) → Below W1.heap.size W1 w' → K (a.put o.dst v') w') : if Region.wanted o (yielded ops a.tmps) = true then Oper.wp Tryz.prog o a w K Q else E := by
 have hw : Region.wanted o (yielded ops a.tmps) = true := by simp [Region.wanted, hgd]
 rw [if_pos hw]
 obtain ⟨v', w', hrn, h2, h3⟩ := run_ru W1.heap.size n0 w o.type v xv l m h hb.size hr hm hlen
 unfold Oper.wp execOp
 simp only [ho, resolve, invoke, builtin, Sem.run_bind, Sem.run_pure, Result.andThen_ok, List.map_toArray, List.map_cons, List.map_nil, hs, hx, hrn]
 exact hk v' w' h2 (hb.trans (h3.mono (Nat.le_refl _)))
theorem rule_rd (w : World) (g : Nat) (r : Rl) (v : Value) (hg : g = w.heap.size) : Rd (w.alloc (.cells #[.int .i64 r.num, .int .i64 r.lvl, .int .i64 r.rank, .int .i64 r.group, .int .i64 r.kind, .int .i64 r.value, .int .i64 r.cap, .int .i64 r.lo, .int .i64 r.hi, v, .int .i64 r.coupon] 43)) 11 (.slice (some ⟨g, 0, none⟩) 1 1) [(⟨r, v⟩ : Rx)].length (rx [⟨r, v⟩]) := by
 subst hg
 refine ⟨rx_len _, _, 1, rfl, Nat.le_refl _, by decide, fun _ => ⟨w.heap.size, 0, rfl, by rw [World.size_alloc]; exact Nat.lt_succ_self _, fun j u hu => ?_⟩⟩
 rw [Nat.zero_add, cell_of_row _ _ j _ _ _ (heap_alloc_new w _)]
 simpa [rx, ruL] using hu
theorem shp_one {r : Rl} {ao : Option Addr} {n c : Nat} : Shp [(⟨r, .slice ao n c⟩ : Rx)] := fun x hx => by
 rw [List.mem_singleton] at hx
 subst hx
 exact ⟨ao, n, c, rfl⟩
end Go.Proofs.YtijofgaekmahkaaGreatDoor

namespace Go.Proofs.YtijofgaekmahkaaGreatDoor
open Go.RowKit
theorem str_index {T : List UInt8} {i : Nat} {x : UInt8} (h : T[i]? = some x) (W : World) : (Instr.index 9 (.string ⟨T.toArray⟩) (.int .i64 (i : Int))).run Tryz.prog W = .ok (.int .u8 (x.toNat : Int)) W := by
 have hl := (List.getElem?_eq_some_iff.1 h).1
 have hx := (List.getElem?_eq_some_iff.1 h).2
 rw [run_index_string _ _ _ _ _ Tryz.underlying9]
 have hc : 0 ≤ (i : Int) ∧ (i : Int) < ((⟨T.toArray⟩ : ByteArray).size : Int) := ⟨by omega, by simp [ByteArray.size]; omega⟩
 rw [dif_pos hc]
 congr 3
 show (T.toArray[(i : Int).toNat]'_).toNat = _
 simp [hx]
end Go.Proofs.YtijofgaekmahkaaGreatDoor
