/- Joined texts: Walks: adding pieces in the program. Walks: adding pieces in the reference. Walks: taking pieces in the program: whether it succeeds. Conditions: none. -/
import Derived.Test.YtijofgaekmahkaaGreatDoorM02
import Derived.RegionTactic
import Derived.ChangeAlike
namespace Go.Proofs.YtijofgaekmahkaaGreatDoor
open Go.RowKit
theorem Tryz.info82a : (Tryz.prog.info? 82).map (fun i => (i.zero, i.size, i.bytes)) = some (some (.agg #[.int .i64 0, .int .i64 0]), 2, 16) := by kernel_rfl
def AddPost (s : List Art) (c : List (Int × Int)) (a n : Int) (w : World) (e : Ending) (w' : World) : Prop :=
 ∃ v : Value, e = .returned (.tuple #[v, .bool (addOk s c a n)]) ∧ w'.ownsRow w.heap.size 82 2 v (addR s c a n).length (pr (addR s c a n)) ∧ Below w.heap.size w w'
theorem addR_no {s : List Art} {c : List (Int × Int)} {a n : Int} (h : addOk s c a n = false) : addR s c a n = [] := by unfold addR; rw [h]; rfl
theorem addR_yes {s : List Art} {c : List (Int × Int)} {a n : Int} (h : addOk s c a n = true) : addR s c a n = addL c a n := by unfold addR; rw [h]; rfl
theorem addOk_c {s : List Art} {c : List (Int × Int)} {a n : Int} (h : vCart s c = false) : addOk s c a n = false := by simp [addOk, h]
theorem addOk_a {s : List Art} {c : List (Int × Int)} {a n : Int} (h : wi a 0 (s.length - 1) = false) : addOk s c a n = false := by simp [addOk, h]
theorem addOk_n {s : List Art} {c : List (Int × Int)} {a n : Int} (h : wi n 1 20 = false) : addOk s c a n = false := by simp [addOk, h]
theorem addOk_in {s : List Art} {c : List (Int × Int)} {a n : Int} (h : vCart s c = true) (h2 : wi a 0 (s.length - 1) = true) (h3 : wi n 1 20 = true) : addOk s c a n = vCart s (addL c a n) := by
 unfold addOk; rw [h, h2, h3, vCart, (vCart_pr h).1]; rfl
theorem addPost_no {s : List Art} {c : List (Int × Int)} {a n : Int} {w w1 : World} (h : addOk s c a n = false) (hb : Below w.heap.size w w1) :
   AddPost s c a n w (.returned (.tuple #[.slice (some ⟨w1.heap.size, 0, none⟩) 0 0, .bool false])) (w1.alloc (.cells #[] 82)) := by
 refine ⟨_, by rw [h], ?_, hb.alloc hb.size _⟩
 rw [addR_no h]
 exact World.ownsRow_made w1 #[] 0 hb.size (by simp) (by simp)
theorem addPost_nil {s : List Art} {c : List (Int × Int)} {a n : Int} {w w1 : World} (h : addOk s c a n = false) (hb : Below w.heap.size w w1) :
   AddPost s c a n w (.returned (.tuple #[.slice none 0 0, .bool false])) w1 := by
 refine ⟨_, by rw [h], ?_, hb⟩
 rw [addR_no h]
 exact ⟨rfl, .inl ⟨rfl, rfl⟩⟩
theorem addPost_yes {s : List Art} {c : List (Int × Int)} {a n : Int} {w w1 : World} {v : Value} (h : addOk s c a n = true) (hb : Below w.heap.size w w1) (hown : w1.ownsRow w.heap.size 82 2 v (addL c a n).length (pr (addL c a n))) :
   AddPost s c a n w (.returned (.tuple #[v, .bool true])) w1 := by
 refine ⟨v, by rw [h], ?_, hb⟩
 rw [addR_yes h]; exact hown
theorem app_pair2 {P : Program} {w : World} {X : Obj} {ops : Array Oper} {rest : List Oper} {o : Oper} {a : Act} {Q : Exit → Act → World → Prop} (hgd : o.guard = none) (s x : Operand) (t : TypeId)
   (ho : o.op = .call { callee := .builtin .append, args := #[s, x], argTypes := #[t, t] }) (base : Nat) (e t2 : TypeId) (i : TypeInfo) (z : Value) (ht : P.underlying t = some (.slice e)) (hi : P.info? e = some i) (hz : i.zero = some z)
   (hs : i.size = 2) (hby : i.bytes = 16) (hzs : z.cells.size = 2) (v : Value) (l : List (Int × Int)) (p q : Int) (hv : a.eval s = v) (hown : w.ownsRow base e 2 v l.length (pr l))
   (hx : a.eval x = .slice (some ⟨w.heap.size + 1, 0, none⟩) 1 1) (hlen : l.length ≤ 1099511627776) (hbase : base ≤ w.heap.size)
   (h : ∀ v' w1, w1.ownsRow base e 2 v' (l ++ [(p, q)]).length (pr (l ++ [(p, q)])) → ((w.alloc X).alloc (.cells #[.int .i64 p, .int .i64 q] t2)).grownBy w1 v.ownBlock → wpList P ops Q rest (a.put o.dst v') w1) :
   wpList P ops Q (o :: rest) a ((w.alloc X).alloc (.cells #[.int .i64 p, .int .i64 q] t2)) :=
 app_pair hgd s x t ho base e t2 i z ht hi hz hs hby hzs v l p q hv (hown.alloc X) (by rw [World.size_alloc]; exact hx) hlen (by rw [World.size_alloc]; omega) h
theorem box_after {w w' : World} {base e sz n : Nat} {v x y : Value} {xs : List Value} {T : TypeId} {o : Obj} (h : w.ownsRow base e sz v n xs) (hg : ((w.alloc (.cells #[x, y] T)).alloc o).grownBy w' v.ownBlock) :
   w'.cell? ⟨w.heap.size, 0, none⟩ = some x ∧ w'.cell? ⟨w.heap.size, 1, none⟩ = some y ∧ w'.frozen? ⟨w.heap.size, 0, none⟩ = false ∧ w'.frozen? ⟨w.heap.size, 1, none⟩ = false ∧ w.heap.size < w'.heap.size := by
 have hb : w'.heap[w.heap.size]? = some (.cells #[x, y] T (0, 0)) := by
   rw [hg.block w.heap.size (by simp; omega) (fun e => by have := (h.lt w.heap.size e.symm).2; omega)]
   rw [Below.heap_alloc _ _ _ (by simp)]
   exact heap_alloc_new _ _
 refine ⟨?_, ?_, frozen_of_row w' w.heap.size 0 _ _ hb, frozen_of_row w' w.heap.size 1 _ _ hb, (Array.getElem?_eq_some_iff.1 hb).1⟩
 · rw [cell_of_row w' w.heap.size 0 _ _ _ hb]; rfl
 · rw [cell_of_row w' w.heap.size 1 _ _ _ hb]; rfl
theorem addL_len (c : List (Int × Int)) (a n : Int) : (addL c a n).length ≤ 2 * c.length + 1 := by
 have h1 : (ltL c a).length ≤ c.length := List.length_filter_le _ _
 have h2 : (gtL c a).length ≤ c.length := List.length_filter_le _ _
 unfold addL
 simp only [List.length_append, List.length_cons, List.length_nil]
 omega
theorem addI_len (c : List (Int × Int)) (a n : Int) (k : Nat) (d : Bool) : (addI c a n k d).length ≤ 2 * k + 1 := by
 have h : (c.take k).length ≤ k := by rw [List.length_take]; omega
 unfold addI
 split
 · have := addL_len (c.take k) a n; omega
 · omega
set_option maxHeartbeats 4000000 in
set_option maxRecDepth 100000 in
theorem implAdd_c (s : List Art) (u : Value) (c : List (Int × Int)) (v : Value) (a n : Int) (w : World) (hs : Rd w 4 u s.length (ar s)) (hv : Rd w 2 v c.length (pr c)) (hp : vCart s c = false) :
   Calls Tryz.prog 29 #[u, v, .int .i64 a, .int .i64 n] w (AddPost s c a n w) := by
 have HV := Lib.hid hv
 have HS := Lib.hid hs
 have hm := hs.len
 have hm2 := hv.len
 unfold maxLen at hm hm2
 obtain ⟨so, scap, rfl, _⟩ := hs.arts
 obtain ⟨co, ccap, rfl, _, _, hrc⟩ := hv.pairs
 have HRC := Lib.hid hrc
 clear hv hs hrc
 have fin := Lib.hid (addOk_c (a := a) (n := n) hp)
 go_enter Tryz.func29, Tryz.ntmps29
 go_wp2_with (go_at_call 61; (with_reducible refine (implCart_any s _ c _ _ HS.out HV.out).mono ?_); rintro e w1 ⟨rfl, hb1⟩)
 go_ret2
 exact addPost_no fin.out hb1
set_option maxHeartbeats 4000000 in
set_option maxRecDepth 100000 in
theorem implAdd_a (s : List Art) (u : Value) (c : List (Int × Int)) (v : Value) (a n : Int) (w : World) (hs : Rd w 4 u s.length (ar s)) (hv : Rd w 2 v c.length (pr c)) (hp : vCart s c = true) (hq : wi a 0 (s.length - 1) = false) :
   Calls Tryz.prog 29 #[u, v, .int .i64 a, .int .i64 n] w (AddPost s c a n w) := by
 have HV := Lib.hid hv
 have HS := Lib.hid hs
 have hm := hs.len
 have hm2 := hv.len
 unfold maxLen at hm hm2
 obtain ⟨so, scap, rfl, _⟩ := hs.arts
 obtain ⟨co, ccap, rfl, _, _, hrc⟩ := hv.pairs
 have HRC := Lib.hid hrc
 clear hv hs hrc
 have hw0 : IntKind.i64.wrap ((s.length : Int) - 1) = (s.length : Int) - 1 := IntWalk.i64_in _ (by omega)
 have fin := Lib.hid (addOk_a (c := c) (n := n) hq)
 go_enter Tryz.func29, Tryz.ntmps29
 go_wp2_with (first | (go_at_call 61; (with_reducible refine (implCart_any s _ c _ _ HS.out HV.out).mono ?_); rintro e w1 ⟨rfl, hb1⟩) | (go_at_call 35; refine (within_any _ _ _ _).mono ?_; rintro e w2 ⟨rfl, hw2⟩; subst hw2))
 go_ret2
 exact addPost_no fin.out hb1
set_option maxHeartbeats 4000000 in
set_option maxRecDepth 100000 in
theorem implAdd_n (s : List Art) (u : Value) (c : List (Int × Int)) (v : Value) (a n : Int) (w : World) (hs : Rd w 4 u s.length (ar s)) (hv : Rd w 2 v c.length (pr c)) (hp : vCart s c = true) (hq : wi a 0 (s.length - 1) = true) (hd : wi n 1 20 = false) :
   Calls Tryz.prog 29 #[u, v, .int .i64 a, .int .i64 n] w (AddPost s c a n w) := by
 have HV := Lib.hid hv
 have HS := Lib.hid hs
 have hm := hs.len
 have hm2 := hv.len
 unfold maxLen at hm hm2
 obtain ⟨so, scap, rfl, _⟩ := hs.arts
 obtain ⟨co, ccap, rfl, _, _, hrc⟩ := hv.pairs
 have HRC := Lib.hid hrc
 clear hv hs hrc
 have hw0 : IntKind.i64.wrap ((s.length : Int) - 1) = (s.length : Int) - 1 := IntWalk.i64_in _ (by omega)
 have fin := Lib.hid (addOk_n (s := s) (c := c) (a := a) hd)
 go_enter Tryz.func29, Tryz.ntmps29
 go_wp2_with (first | (go_at_call 61; (with_reducible refine (implCart_any s _ c _ _ HS.out HV.out).mono ?_); rintro e w1 ⟨rfl, hb1⟩) | (go_at_call 35; refine (within_any _ _ _ _).mono ?_; rintro e w2 ⟨rfl, hw2⟩; subst hw2))
 go_ret2
 exact addPost_no fin.out hb1
set_option maxHeartbeats 4000000 in
set_option maxRecDepth 100000 in
theorem implAdd_y (s : List Art) (u : Value) (c : List (Int × Int)) (v : Value) (a n : Int) (w : World) (hs : Rd w 4 u s.length (ar s)) (hv : Rd w 2 v c.length (pr c)) (hp : vCart s c = true) (hq : wi a 0 (s.length - 1) = true) (hd : wi n 1 20 = true) :
   Calls Tryz.prog 29 #[u, v, .int .i64 a, .int .i64 n] w (AddPost s c a n w) := by
 have HV := Lib.hid hv
 have HS := Lib.hid hs
 have hm := hs.len
 have hm2 := hv.len
 unfold maxLen at hm hm2
 obtain ⟨so, scap, rfl, _⟩ := hs.arts
 obtain ⟨co, ccap, rfl, _, _, hrc⟩ := hv.pairs
 have HRC := Lib.hid hrc
 clear hv hs hrc
 obtain ⟨i0, hi, hz0, hz1, hz2⟩ := info_parts Tryz.info82a
 have HI := Lib.hid hi
 have HZ0 := Lib.hid hz0
 have HZ1 := Lib.hid hz1
 have HZ2 := Lib.hid hz2
 clear hi hz0 hz1 hz2
 have hw0 : IntKind.i64.wrap ((s.length : Int) - 1) = (s.length : Int) - 1 := IntWalk.i64_in _ (by omega)
 have hin := Lib.hid (addOk_in hp hq hd)
 have HOK := Lib.hid hp
 have hnn := wi_true.1 hd
 obtain ⟨hn1, hn2⟩ := hnn
 go_enter Tryz.func29, Tryz.ntmps29
 go_wp2_with (first | (go_at_call 61; (with_reducible refine (implCart_any s _ c _ _ HS.out HV.out).mono ?_); rintro e w1 ⟨rfl, hb1⟩) | (go_at_call 35; refine (within_any _ _ _ _).mono ?_; rintro e w2 ⟨rfl, hw2⟩; subst hw2))
 have o0 : (w2.alloc (.cells #[] 82)).ownsRow w.heap.size 82 2 (.slice (some ⟨w2.heap.size, 0, none⟩) 0 0) 0 (pr []) := World.ownsRow_made w2 #[] 0 hb1.size (by simp) (by simp)
 have O0 := Lib.hid o0
 have B0 := hb1.alloc hb1.size (.cells #[] 82)
 clear o0 hp hq hd hb1
 go_loopw [10, 11, 35] (fun o_ d_ i_ wr => ∃ (k : Nat) (d : Bool), k ≤ c.length ∧ i_ = .int .i64 k ∧ d_ = .bool d ∧ Hid (d = true → ∃ j, j < k ∧ a ≤ pA c j) ∧ Hid (d = false → ∀ j, j < k → pA c j < a) ∧ Hid (wr.ownsRow w.heap.size 82 2 o_ (addI c a n k d).length (pr (addI c a n k d))) ∧ Below w.heap.size w wr) (fun _ _ i_ _ => c.length - (intOf i_).toNat)
 case atStart => exact ⟨0, false, Nat.zero_le _, rfl, rfl, (fun h => by cases h), fun _ j hj => absurd hj (Nat.not_lt_zero _), O0, B0⟩
 case round =>
   clear O0 B0
   obtain ⟨k, d, hk, rfl, rfl, hT, hF, O, hbl⟩ := hrel
   have hc8 := (vLines_all (vCart_pr HOK.out).2).2
   have hlen := addI_len c a n k d
   by_cases hlt : k < c.length
   · obtain ⟨h4, h5, h6, h7, h8, h9⟩ := art_in HOK.out hlt
     obtain ⟨b, off, rfl, hb, hcell⟩ := HRC.out (by omega)
     have g0 := (hbl.cell (p := ⟨b, off + k*2, none⟩) hb).trans (hcell k hlt).1
     have g1 := (hbl.cell (p := ⟨b, off + k*2+1, none⟩) hb).trans (hcell k hlt).2
     have hbw : b < wr.heap.size := Nat.lt_of_lt_of_le hb hbl.size
     clear hcell h4 h5 h6 h9
     have hpP : Hid (pP c k = (pA c k, pB c k)) := rfl
     have hbl1 : Below w.heap.size w (wr.alloc (.cells #[.int .i64 (pA c k), .int .i64 (pB c k)] 82)) := hbl.alloc hbl.size _
     have O1 := Lib.hid (O.out.alloc (.cells #[.int .i64 (pA c k), .int .i64 (pB c k)] 82))
     cases d
     · have hall := Lib.hid (hF.out rfl)
       by_cases hgt : a < pA c k
       · have hnew := Lib.hid (addI_gt (m := n) hlt hall.out hgt)
         have hneq : (pA c k == a) = false := by rw [beq_eq_false_iff_ne]; omega
         go_wp2_with (first | (at_builtin; refine app_pair2 rfl (.tmp 47) (.tmp 51) 50 rfl w.heap.size 82 _ i0 _ Tryz.underlying50 HI.out HZ0.out HZ1.out HZ2.out rfl _ (addI c a n k false) a n rfl O.out rfl (by omega) hbl.size ?_; intro vA wA hoA hgA; have OA := Lib.hid hoA; have BOA := below_row ((hbl.alloc hbl.size _).alloc (hbl.alloc hbl.size _).size _) hgA (fun k hk => (O.out.lt k hk).1); obtain ⟨x0, x1, y0, y1, xz⟩ := box_after O.out hgA; clear hoA hgA) | (at_builtin; refine app_pair rfl (.tmp 62) (.tmp 64) 50 rfl w.heap.size 82 _ i0 _ Tryz.underlying50 HI.out HZ0.out HZ1.out HZ2.out rfl _ (addI c a n k false ++ [(a, n)]) (pA c k) (pB c k) rfl OA.out rfl (by simp only [List.length_append, List.length_singleton]; omega) BOA.size ?_; intro vA wA hoA hgA; have OB := Lib.hid hoA; have BOB := below_row (BOA.alloc BOA.size _) hgA (fun k hk => (OA.out.lt k hk).1); clear hoA hgA))
         go_roundw
         case rel => exact ⟨k + 1, true, by omega, by go_num, rfl, fun _ => ⟨k, by omega, by omega⟩, (fun h => by cases h), by rw [Hid, hnew.out, hpP.out]; exact OB.out, BOB⟩
         case measure => simp [intOf]; omega
       · by_cases heq : pA c k = a
         · have hnew := Lib.hid (addI_eq (m := n) hlt hall.out heq)
           have hneq : (pA c k == a) = true := by rw [beq_iff_eq]; exact heq
           have hgtb : decide (a < pA c k) = false := by simpa using hgt
           have HE := Lib.hid heq
           clear heq
           go_wp2_with (at_builtin; refine app_pair2 rfl (.tmp 62) (.tmp 64) 50 rfl w.heap.size 82 _ i0 _ Tryz.underlying50 HI.out HZ0.out HZ1.out HZ2.out rfl _ (addI c a n k false) (pA c k) (pB c k + n) rfl O.out rfl (by omega) hbl.size ?_; intro vA wA hoA hgA; have OB := Lib.hid hoA; have BOB := below_row ((hbl.alloc hbl.size _).alloc (hbl.alloc hbl.size _).size _) hgA (fun k hk => (O.out.lt k hk).1); clear hoA hgA)
           go_roundw
           case rel => exact ⟨k + 1, true, by omega, by go_num, rfl, fun _ => ⟨k, by omega, by rw [HE.out]; exact Int.le_refl _⟩, (fun h => by cases h), by rw [Hid, hnew.out]; have := OB.out; rw [HE.out] at this; exact this, BOB⟩
           case measure => simp [intOf]; omega
         · have hnew := Lib.hid (addI_lt (a := a) (m := n) hlt)
           have hneq : (pA c k == a) = false := by rw [beq_eq_false_iff_ne]; exact heq
           have hgtb : decide (a < pA c k) = false := by simpa using hgt
           go_wp2_with (at_builtin; refine app_pair2 rfl (.tmp 62) (.tmp 64) 50 rfl w.heap.size 82 _ i0 _ Tryz.underlying50 HI.out HZ0.out HZ1.out HZ2.out rfl _ (addI c a n k false) (pA c k) (pB c k) rfl O.out rfl (by omega) hbl.size ?_; intro vA wA hoA hgA; have OB := Lib.hid hoA; have BOB := below_row ((hbl.alloc hbl.size _).alloc (hbl.alloc hbl.size _).size _) hgA (fun k hk => (O.out.lt k hk).1); clear hoA hgA)
           go_roundw
           case rel => exact ⟨k + 1, false, by omega, by go_num, rfl, (fun h => by cases h), fun _ => all_snoc hall.out (by omega), by rw [Hid, hnew.out, hpP.out]; exact OB.out, BOB⟩
           case measure => simp [intOf]; omega
     · have hex := Lib.hid (hT.out rfl)
       obtain ⟨hgt, hnew0⟩ := addI_done (m := n) (vCart_pr HOK.out).2 hlt hex.out
       have hnew := Lib.hid hnew0
       have hneq : (pA c k == a) = false := by rw [beq_eq_false_iff_ne]; omega
       clear hnew0
       go_wp2_with (at_builtin; refine app_pair2 rfl (.tmp 62) (.tmp 64) 50 rfl w.heap.size 82 _ i0 _ Tryz.underlying50 HI.out HZ0.out HZ1.out HZ2.out rfl _ (addI c a n k true) (pA c k) (pB c k) rfl O.out rfl (by omega) hbl.size ?_; intro vA wA hoA hgA; have OB := Lib.hid hoA; have BOB := below_row ((hbl.alloc hbl.size _).alloc (hbl.alloc hbl.size _).size _) hgA (fun k hk => (O.out.lt k hk).1); clear hoA hgA)
       go_roundw
       case rel => exact ⟨k + 1, true, by omega, by go_num, rfl, fun _ => ⟨k, by omega, by omega⟩, (fun h => by cases h), by rw [Hid, hnew.out, hpP.out]; exact OB.out, BOB⟩
       case measure => simp [intOf]; omega
   · obtain rfl : k = c.length := by omega
     cases d
     · have hfin := Lib.hid (addI_end_no (m := n) (hF.out rfl))
       go_wp2_with (at_builtin; refine app_pair rfl (.tmp 69) (.tmp 73) 50 rfl w.heap.size 82 _ i0 _ Tryz.underlying50 HI.out HZ0.out HZ1.out HZ2.out rfl _ (addI c a n c.length false) a n rfl O.out rfl (by omega) hbl.size ?_; intro vA wA hoA hgA; have OB := Lib.hid hoA; have BOB := below_row (hbl.alloc hbl.size _) hgA (fun k hk => (O.out.lt k hk).1); clear hoA hgA)
       rw [hfin.out] at OB
       cases hv2 : vCart s (addL c a n)
       · go_wp2_with (go_at_call 61; refine (implCart_any s _ (addL c a n) _ _ (HS.out.below BOB (Nat.le_refl _)) (Rd.of_owns OB.out)).mono ?_; rintro e w9 ⟨rfl, hb9⟩)
         go_ret2
         exact addPost_no (by rw [hin.out, hv2]) (BOB.trans (hb9.mono BOB.size))
       · go_wp2_with (go_at_call 61; refine (implCart_any s _ (addL c a n) _ _ (HS.out.below BOB (Nat.le_refl _)) (Rd.of_owns OB.out)).mono ?_; rintro e w9 ⟨rfl, hb9⟩)
         go_ret2
         exact addPost_yes (by rw [hin.out, hv2]) (BOB.trans (hb9.mono BOB.size)) (ownsRow_below OB.out hb9 (Nat.le_refl _))
     · have hfin := Lib.hid (addI_end (l := c) (a := a) (m := n))
       rw [hfin.out] at O
       cases hv2 : vCart s (addL c a n)
       · go_wp2_with (go_at_call 61; refine (implCart_any s _ (addL c a n) _ _ (HS.out.below hbl (Nat.le_refl _)) (Rd.of_owns O.out)).mono ?_; rintro e w9 ⟨rfl, hb9⟩)
         go_ret2
         exact addPost_no (by rw [hin.out, hv2]) (hbl.trans (hb9.mono hbl.size))
       · go_wp2_with (go_at_call 61; refine (implCart_any s _ (addL c a n) _ _ (HS.out.below hbl (Nat.le_refl _)) (Rd.of_owns O.out)).mono ?_; rintro e w9 ⟨rfl, hb9⟩)
         go_ret2
         exact addPost_yes (by rw [hin.out, hv2]) (hbl.trans (hb9.mono hbl.size)) (ownsRow_below O.out hb9 (Nat.le_refl _))
theorem implAdd_any (s : List Art) (u : Value) (c : List (Int × Int)) (v : Value) (a n : Int) (w : World) (hs : Rd w 4 u s.length (ar s)) (hv : Rd w 2 v c.length (pr c)) :
   Calls Tryz.prog 29 #[u, v, .int .i64 a, .int .i64 n] w (AddPost s c a n w) := by
 cases hp : vCart s c
 · exact implAdd_c s u c v a n w hs hv hp
 cases hq : wi a 0 (s.length - 1)
 · exact implAdd_a s u c v a n w hs hv hp hq
 cases hd : wi n 1 20
 · exact implAdd_n s u c v a n w hs hv hp hq hd
 · exact implAdd_y s u c v a n w hs hv hp hq hd
end Go.Proofs.YtijofgaekmahkaaGreatDoor

namespace Go.Proofs.YtijofgaekmahkaaGreatDoor
open Go.RowKit
def boxAt (w : World) (b : Nat) (x y : Int) : Prop := w.heap[b]? = some (.cells #[.int .i64 x, .int .i64 y] 82 (0, 0))
theorem boxAt.cells {w : World} {b : Nat} {x y : Int} (h : boxAt w b x y) : w.cell? ⟨b, 0, none⟩ = some (.int .i64 x) ∧ w.cell? ⟨b, 1, none⟩ = some (.int .i64 y) ∧ w.frozen? ⟨b, 0, none⟩ = false ∧ w.frozen? ⟨b, 1, none⟩ = false ∧ b < w.heap.size := by
 refine ⟨?_, ?_, frozen_of_row w b 0 _ _ h, frozen_of_row w b 1 _ _ h, (Array.getElem?_eq_some_iff.1 h).1⟩
 · rw [cell_of_row w b 0 _ _ _ h]; rfl
 · rw [cell_of_row w b 1 _ _ _ h]; rfl
theorem boxAt.below {w w' : World} {b B : Nat} {x y : Int} (h : boxAt w b x y) (hb : Below B w w') (hB : b < B) : boxAt w' b x y := (hb.block b hB).trans h
theorem boxAt.grown {w w' : World} {b : Nat} {x y : Int} {row : Option Nat} (h : boxAt w b x y) (hg : w.grownBy w' row) (hne : ∀ k, row = some k → k ≠ b) : boxAt w' b x y :=
 (hg.block b (Array.getElem?_eq_some_iff.1 h).1 (fun e => hne b e.symm rfl)).trans h
theorem boxAt.alloc {w : World} {b : Nat} {x y : Int} (h : boxAt w b x y) (o : Obj) : boxAt (w.alloc o) b x y := by
 unfold boxAt
 rw [Below.heap_alloc _ _ _ (Array.getElem?_eq_some_iff.1 h).1]; exact h
theorem boxAt.drew {w : World} {b : Nat} {x y : Int} (h : boxAt w b x y) : boxAt w.drew b x y := h
theorem boxAt.set {w : World} {b : Nat} {x y : Int} (h : boxAt w b x y) (z : Int) : boxAt (w.setCell ⟨b, 1, none⟩ (.int .i64 z)) b x z ∧ w.grownBy (w.setCell ⟨b, 1, none⟩ (.int .i64 z)) (some b) := by
 refine ⟨?_, rfl, rfl, rfl, by simp [World.setCell], fun k _ hk => heap_setCell_other w ⟨b, 1, none⟩ k _ (fun e => hk (by simp [e]))⟩
 have h2 := heap_setCell_same w b 1 _ _ (.int .i64 z) h
 unfold boxAt
 rw [h2]; simp
set_option maxHeartbeats 4000000 in
set_option maxRecDepth 100000 in
theorem specAdd_s (s : List Art) (u : Value) (c : List (Int × Int)) (v : Value) (a n : Int) (w : World) (hs : Rd w 4 u s.length (ar s)) (hv : Rd w 2 v c.length (pr c)) (hp : vShop s = false) :
   Calls Tryz.prog 86 #[u, v, .int .i64 a, .int .i64 n] w (AddPost s c a n w) := by
 have HV := Lib.hid hv
 have HS := Lib.hid hs
 have hm := hs.len
 have hm2 := hv.len
 unfold maxLen at hm hm2
 obtain ⟨so, scap, rfl, _⟩ := hs.arts
 obtain ⟨co, ccap, rfl, _, _, hrc⟩ := hv.pairs
 have HRC := Lib.hid hrc
 clear hv hs hrc
 have fin := Lib.hid (addOk_c (a := a) (n := n) (vCart_s (c := c) hp))
 go_enter Tryz.func86, Tryz.ntmps86
 go_wp2_with (go_at_call 89; refine (specShop_in s _ _ (HS.out.below (((Below.refl _ _).alloc (Nat.le_refl _) _).alloc (by simp) _ : Below w.heap.size w _) (Nat.le_refl _))).mono ?_; rintro e w1 ⟨rfl, hb1⟩; have B1 : Below w.heap.size w w1 := (((Below.refl _ _).alloc (Nat.le_refl _) _).alloc (by simp) _ : Below w.heap.size w _).trans (hb1.mono (by simp; omega)))
 go_ret2
 exact addPost_nil fin.out B1
set_option maxHeartbeats 4000000 in
set_option maxRecDepth 100000 in
theorem specAdd_c (s : List Art) (u : Value) (c : List (Int × Int)) (v : Value) (a n : Int) (w : World) (hs : Rd w 4 u s.length (ar s)) (hv : Rd w 2 v c.length (pr c)) (hp : vShop s = true) (hq : vLines s.length c = false) :
   Calls Tryz.prog 86 #[u, v, .int .i64 a, .int .i64 n] w (AddPost s c a n w) := by
 have HV := Lib.hid hv
 have HS := Lib.hid hs
 have hm := hs.len
 have hm2 := hv.len
 unfold maxLen at hm hm2
 obtain ⟨so, scap, rfl, _⟩ := hs.arts
 obtain ⟨co, ccap, rfl, _, _, hrc⟩ := hv.pairs
 have HRC := Lib.hid hrc
 clear hv hs hrc
 have fin := Lib.hid (addOk_c (a := a) (n := n) (vCart_l hq))
 go_enter Tryz.func86, Tryz.ntmps86
 go_wp2_with (first | (go_at_call 89; refine (specShop_in s _ _ (HS.out.below (((Below.refl _ _).alloc (Nat.le_refl _) _).alloc (by simp) _ : Below w.heap.size w _) (Nat.le_refl _))).mono ?_; rintro e w1 ⟨rfl, hb1⟩; have B1 : Below w.heap.size w w1 := (((Below.refl _ _).alloc (Nat.le_refl _) _).alloc (by simp) _ : Below w.heap.size w _).trans (hb1.mono (by simp; omega))) | (go_at_call 90; (with_reducible refine (specCart_in _ _ _ c _ _ (HV.out.below B1 (Nat.le_refl _)) (by omega)).mono ?_); rintro e w2 ⟨rfl, hb2⟩; have B2 := B1.trans (hb2.mono B1.size)))
 go_ret2
 exact addPost_nil fin.out B2
set_option maxHeartbeats 4000000 in
set_option maxRecDepth 100000 in
theorem specAdd_a (s : List Art) (u : Value) (c : List (Int × Int)) (v : Value) (a n : Int) (w : World) (hs : Rd w 4 u s.length (ar s)) (hv : Rd w 2 v c.length (pr c)) (hp : vShop s = true) (hq : vLines s.length c = true) (ha : wi a 0 (s.length - 1) = false) :
   Calls Tryz.prog 86 #[u, v, .int .i64 a, .int .i64 n] w (AddPost s c a n w) := by
 have HV := Lib.hid hv
 have HS := Lib.hid hs
 have hm := hs.len
 have hm2 := hv.len
 unfold maxLen at hm hm2
 obtain ⟨so, scap, rfl, _⟩ := hs.arts
 obtain ⟨co, ccap, rfl, _, _, hrc⟩ := hv.pairs
 have HRC := Lib.hid hrc
 clear hv hs hrc
 have hw0 : IntKind.i64.wrap ((s.length : Int) - 1) = (s.length : Int) - 1 := IntWalk.i64_in _ (by omega)
 have fin := Lib.hid (addOk_a (c := c) (n := n) ha)
 go_enter Tryz.func86, Tryz.ntmps86
 go_wp2_with (first | (go_at_call 89; refine (specShop_in s _ _ (HS.out.below (((Below.refl _ _).alloc (Nat.le_refl _) _).alloc (by simp) _ : Below w.heap.size w _) (Nat.le_refl _))).mono ?_; rintro e w1 ⟨rfl, hb1⟩; have B1 : Below w.heap.size w w1 := (((Below.refl _ _).alloc (Nat.le_refl _) _).alloc (by simp) _ : Below w.heap.size w _).trans (hb1.mono (by simp; omega))) | (go_at_call 90; (with_reducible refine (specCart_in _ _ _ c _ _ (HV.out.below B1 (Nat.le_refl _)) (by omega)).mono ?_); rintro e w2 ⟨rfl, hb2⟩; have B2 := B1.trans (hb2.mono B1.size)) | (go_at_call 54; refine (inRange_any _ _ _ _).mono ?_; rintro e w3 ⟨rfl, hw3⟩; subst hw3))
 go_ret2
 exact addPost_nil fin.out B2
set_option maxHeartbeats 4000000 in
set_option maxRecDepth 100000 in
theorem specAdd_n (s : List Art) (u : Value) (c : List (Int × Int)) (v : Value) (a n : Int) (w : World) (hs : Rd w 4 u s.length (ar s)) (hv : Rd w 2 v c.length (pr c)) (hp : vShop s = true) (hq : vLines s.length c = true) (ha : wi a 0 (s.length - 1) = true) (hn : wi n 1 20 = false) :
   Calls Tryz.prog 86 #[u, v, .int .i64 a, .int .i64 n] w (AddPost s c a n w) := by
 have HV := Lib.hid hv
 have HS := Lib.hid hs
 have hm := hs.len
 have hm2 := hv.len
 unfold maxLen at hm hm2
 obtain ⟨so, scap, rfl, _⟩ := hs.arts
 obtain ⟨co, ccap, rfl, _, _, hrc⟩ := hv.pairs
 have HRC := Lib.hid hrc
 clear hv hs hrc
 have hw0 : IntKind.i64.wrap ((s.length : Int) - 1) = (s.length : Int) - 1 := IntWalk.i64_in _ (by omega)
 have fin := Lib.hid (addOk_n (s := s) (c := c) (a := a) hn)
 go_enter Tryz.func86, Tryz.ntmps86
 go_wp2_with (first | (go_at_call 89; refine (specShop_in s _ _ (HS.out.below (((Below.refl _ _).alloc (Nat.le_refl _) _).alloc (by simp) _ : Below w.heap.size w _) (Nat.le_refl _))).mono ?_; rintro e w1 ⟨rfl, hb1⟩; have B1 : Below w.heap.size w w1 := (((Below.refl _ _).alloc (Nat.le_refl _) _).alloc (by simp) _ : Below w.heap.size w _).trans (hb1.mono (by simp; omega))) | (go_at_call 90; (with_reducible refine (specCart_in _ _ _ c _ _ (HV.out.below B1 (Nat.le_refl _)) (by omega)).mono ?_); rintro e w2 ⟨rfl, hb2⟩; have B2 := B1.trans (hb2.mono B1.size)) | (go_at_call 54; refine (inRange_any _ _ _ _).mono ?_; rintro e w3 ⟨rfl, hw3⟩; subst hw3))
 go_ret2
 exact addPost_nil fin.out B2
set_option maxHeartbeats 4000000 in
set_option maxRecDepth 100000 in
theorem specAdd_y (s : List Art) (u : Value) (c : List (Int × Int)) (v : Value) (a n : Int) (w : World) (hs : Rd w 4 u s.length (ar s)) (hv : Rd w 2 v c.length (pr c)) (hp : vShop s = true) (hq : vLines s.length c = true) (ha : wi a 0 (s.length - 1) = true) (hn : wi n 1 20 = true) :
   Calls Tryz.prog 86 #[u, v, .int .i64 a, .int .i64 n] w (AddPost s c a n w) := by
 have HV := Lib.hid hv
 have HS := Lib.hid hs
 have hm := hs.len
 have hm2 := hv.len
 unfold maxLen at hm hm2
 obtain ⟨so, scap, rfl, _⟩ := hs.arts
 obtain ⟨co, ccap, rfl, _, _, hrc⟩ := hv.pairs
 have HRC := Lib.hid hrc
 clear hv hs hrc
 obtain ⟨i0, hi, hz0, hz1, hz2⟩ := info_parts Tryz.info82a
 have HI := Lib.hid hi
 have HZ0 := Lib.hid hz0
 have HZ1 := Lib.hid hz1
 have HZ2 := Lib.hid hz2
 clear hi hz0 hz1 hz2
 have hw0 : IntKind.i64.wrap ((s.length : Int) - 1) = (s.length : Int) - 1 := IntWalk.i64_in _ (by omega)
 have hin := Lib.hid (addOk_in (vCart_y hp hq) ha hn)
 have HOK := Lib.hid (vCart_y hp hq)
 have hnn := wi_true.1 hn
 obtain ⟨hn1, hn2⟩ := hnn
 have hc8 := (vLines_all hq).2
 have o0 : ((w.alloc (.cells #[] 82)).alloc (.cells #[.int .i64 a, .int .i64 n] 82)).ownsRow w.heap.size 82 2 (.slice (some ⟨w.heap.size, 0, none⟩) 0 0) 0 (pr []) := (World.ownsRow_made w #[] 0 (Nat.le_refl _) (by simp) (by simp)).alloc _
 have x0 : boxAt ((w.alloc (.cells #[] 82)).alloc (.cells #[.int .i64 a, .int .i64 n] 82)) (w.heap.size + 1) a n := by
   have := heap_alloc_new (w.alloc (.cells #[] 82)) (.cells #[.int .i64 a, .int .i64 n] 82)
   rw [World.size_alloc] at this
   exact this
 have O0 := Lib.hid o0
 have X0 := Lib.hid x0
 clear o0 x0
 go_enter Tryz.func86, Tryz.ntmps86
 go_wp2_with (first | (go_at_call 89; refine (specShop_in s _ _ (HS.out.below (((Below.refl _ _).alloc (Nat.le_refl _) _).alloc (by simp) _ : Below w.heap.size w _) (Nat.le_refl _))).mono ?_; rintro e w1 ⟨rfl, hb1⟩; have B1 : Below w.heap.size w w1 := (((Below.refl _ _).alloc (Nat.le_refl _) _).alloc (by simp) _ : Below w.heap.size w _).trans (hb1.mono (by simp; omega)); have O1 := Lib.hid (ownsRow_below O0.out hb1 (Nat.le_refl _)); have X1 := Lib.hid (X0.out.below hb1 (by simp))) | (go_at_call 90; (with_reducible refine (specCart_in _ _ _ c _ _ (HV.out.below B1 (Nat.le_refl _)) (by omega)).mono ?_); rintro e w2 ⟨rfl, hb2⟩; have B2 := B1.trans (hb2.mono B1.size); have O2 := Lib.hid (ownsRow_below O1.out hb2 (Nat.le_refl _)); have X2 := Lib.hid (X1.out.below hb2 (X1.out.cells).2.2.2.2)) | (go_at_call 54; refine (inRange_any _ _ _ _).mono ?_; rintro e w3 ⟨rfl, hw3⟩; subst hw3))
 have N2 : Hid (∀ k, (Value.slice (some ⟨w.heap.size, 0, none⟩) 0 0).ownBlock = some k → k ≠ w.heap.size + 1) := fun k hk => by have := Option.some.inj hk; simp only at this; omega
 have hz := fil_zero c a
 have HZ := Lib.hid hz
 clear hz hp hq ha hn O0 X0 O1 X1 hb1 hb2 B1
 go_loopw [10, 12] (fun o_ i_ wr => ∃ (k : Nat), k ≤ c.length ∧ i_ = .int .i64 k ∧ Hid (wr.ownsRow w.heap.size 82 2 o_ (ltL (c.take k) a).length (pr (ltL (c.take k) a))) ∧ Hid (boxAt wr (w.heap.size + 1) a (n + eqN (c.take k) a)) ∧ Hid (∀ k, o_.ownBlock = some k → k ≠ w.heap.size + 1) ∧ Below w.heap.size w wr) (fun _ i_ _ => c.length - (intOf i_).toNat)
 case atStart => exact ⟨0, Nat.zero_le _, rfl, by rw [HZ.out.1]; exact O2, by rw [HZ.out.2.2, Int.add_zero]; exact X2, N2, B2⟩
 case round =>
   clear O2 X2 N2 B2
   obtain ⟨k, hk, rfl, O, X, HN, hbl⟩ := hrel
   have hfl := (fil_len c a k).1
   have heb := eqN_bd (vCart_pr HOK.out).2 a k hk
   obtain ⟨heb1, heb2⟩ := heb
   by_cases hlt : k < c.length
   · obtain ⟨h4, h5, h6, h7, h8, h9⟩ := art_in HOK.out hlt
     obtain ⟨b, off, rfl, hb, hcell⟩ := HRC.out (by omega)
     have g0 := (hbl.cell (p := ⟨b, off + k*2, none⟩) hb).trans (hcell k hlt).1
     have g1 := (hbl.cell (p := ⟨b, off + k*2+1, none⟩) hb).trans (hcell k hlt).2
     have hbw : b < wr.heap.size := Nat.lt_of_lt_of_le hb hbl.size
     have hpP : Hid (pP c k = (pA c k, pB c k)) := rfl
     clear hcell h4 h5 h6 h9
     by_cases h1 : pA c k < a
     · have e1 := Lib.hid (ltL_yes hlt h1)
       have e2 := Lib.hid (eqN_no (a := a) hlt (by omega))
       go_wp2_with (at_builtin; refine app_near rfl (.tmp 54) (.tmp 59) 50 rfl w.heap.size 82 _ i0 _ Tryz.underlying50 HI.out HZ0.out HZ1.out HZ2.out rfl _ (ltL (c.take k) a) (pA c k) (pB c k) rfl O.out rfl (by omega) hbl.size ?_; intro vA wA hoA hgA hnA; have OA := Lib.hid hoA; have BOA := below_row (hbl.alloc hbl.size _) hgA (fun k hk => (O.out.lt k hk).1); have XOA := Lib.hid ((X.out.alloc _).grown hgA (fun k hk => HN.out k hk)); have NOA : Hid (∀ k, vA.ownBlock = some k → k ≠ w.heap.size + 1) := (fun k hk => by rcases hnA with h | ⟨g, h, hge⟩; exact HN.out k (h ▸ hk); rw [h] at hk; have := (X.out.cells).2.2.2.2; have := Option.some.inj hk; omega); clear hoA hgA hnA)
       go_roundw
       case rel => exact ⟨k + 1, by omega, by go_num, by rw [Hid, e1.out, hpP.out]; exact OA.out, by rw [e2.out]; exact XOA, NOA, BOA⟩
       case measure => simp [intOf]; omega
     · have h1b : decide (pA c k < a) = false := by simpa using h1
       by_cases h2 : pA c k = a
       · have e1 := Lib.hid (ltL_no hlt h1)
         have e2 := Lib.hid (eqN_yes hlt h2)
         have h2b : (pA c k == a) = true := by rw [beq_iff_eq]; exact h2
         obtain ⟨x0, x1, y0, y1, xz⟩ := X.out.cells
         have hbne : ¬ b = w.heap.size + 1 := by omega
         have ew : IntKind.i64.wrap (n + eqN (c.take k) a + pB c k) = n + eqN (c.take k) a + pB c k := IntWalk.i64_in _ (by omega)
         clear h2 h1
         go_wp2
         go_region
         all_goals go_wp2
         all_goals
           have e3 := X.out.set (n + eqN (c.take k) a + pB c k)
           have o3 := owns_apart (v2 := .slice (some ⟨w.heap.size + 1, 0, none⟩) 0 0) O.out e3.2 (fun k k' h1 h2 => by have := HN.out k h1; have := Option.some.inj h2; simp only at this; omega)
           go_roundw
           case rel => exact ⟨k + 1, by omega, by go_num, by rw [e1.out]; exact o3, by rw [e2.out, ← Int.add_assoc]; exact e3.1.drew, HN, (hbl.setCell (by simp) _).drew⟩
           case measure => simp [intOf]; omega
       · have e1 := Lib.hid (ltL_no hlt h1)
         have e2 := Lib.hid (eqN_no hlt h2)
         have h2b : (pA c k == a) = false := by rw [beq_eq_false_iff_ne]; exact h2
         go_wp2
         go_roundw
         case rel => exact ⟨k + 1, by omega, by go_num, by rw [e1.out]; exact O, by rw [e2.out]; exact X, HN, hbl⟩
         case measure => simp [intOf]; omega
   · obtain rfl : k = c.length := by omega
     rw [List.take_length] at O X hfl heb1 heb2
     obtain ⟨x0, x1, y0, y1, xz⟩ := X.out.cells
     go_wp2_with (at_builtin; refine app_near rfl (.tmp 78) (.tmp 80) 50 rfl w.heap.size 82 _ i0 _ Tryz.underlying50 HI.out HZ0.out HZ1.out HZ2.out rfl _ (ltL c a) a (n + eqN c a) rfl O.out rfl (by omega) hbl.size ?_; intro vA wA hoA hgA hnA; have OA := Lib.hid hoA; have BOA := below_row (hbl.alloc hbl.size _) hgA (fun k hk => (O.out.lt k hk).1); have XOA := Lib.hid ((X.out.alloc _).grown hgA (fun k hk => HN.out k hk)); have NOA : Hid (∀ k, vA.ownBlock = some k → k ≠ w.heap.size + 1) := (fun k hk => by rcases hnA with h | ⟨g, h, hge⟩; exact HN.out k (h ▸ hk); rw [h] at hk; have := (X.out.cells).2.2.2.2; have := Option.some.inj hk; omega); clear hoA hgA hnA)
     clear O X HN hbl x0 x1 y0 y1 xz XOA NOA
     have HZG := Lib.hid (fil_zero c a).2.1
     go_loopw [10, 13] (fun o_ i_ wr => ∃ (k : Nat), k ≤ c.length ∧ i_ = .int .i64 k ∧ Hid (wr.ownsRow w.heap.size 82 2 o_ (ltL c a ++ [(a, n + eqN c a)] ++ gtL (c.take k) a).length (pr (ltL c a ++ [(a, n + eqN c a)] ++ gtL (c.take k) a))) ∧ Below w.heap.size w wr) (fun _ i_ _ => c.length - (intOf i_).toNat)
     case atStart => exact ⟨0, Nat.zero_le _, rfl, by rw [HZG.out, List.append_nil]; exact OA, BOA⟩
     case round =>
       clear OA BOA
       obtain ⟨k, hk, rfl, O, hbl⟩ := hrel
       have hgl := (fil_len c a k).2
       have hL : (ltL c a ++ [(a, n + eqN c a)] ++ gtL (c.take k) a).length ≤ 17 := by simp only [List.length_append, List.length_singleton]; omega
       by_cases hlt : k < c.length
       · obtain ⟨b, off, rfl, hb, hcell⟩ := HRC.out (by omega)
         have g0 := (hbl.cell (p := ⟨b, off + k*2, none⟩) hb).trans (hcell k hlt).1
         have g1 := (hbl.cell (p := ⟨b, off + k*2+1, none⟩) hb).trans (hcell k hlt).2
         have hbw : b < wr.heap.size := Nat.lt_of_lt_of_le hb hbl.size
         have hpP : Hid (pP c k = (pA c k, pB c k)) := rfl
         clear hcell
         by_cases h1 : a < pA c k
         · have e1 := Lib.hid (gtL_yes hlt h1)
           go_wp2_with (at_builtin; refine app_pair rfl (.tmp 95) (.tmp 100) 50 rfl w.heap.size 82 _ i0 _ Tryz.underlying50 HI.out HZ0.out HZ1.out HZ2.out rfl _ (ltL c a ++ [(a, n + eqN c a)] ++ gtL (c.take k) a) (pA c k) (pB c k) rfl O.out rfl (by omega) hbl.size ?_; intro vA wA hoA hgA; have OB := Lib.hid hoA; have BOB := below_row (hbl.alloc hbl.size _) hgA (fun k hk => (O.out.lt k hk).1); clear hoA hgA)
           go_roundw
           case rel => exact ⟨k + 1, by omega, by go_num, by rw [Hid, e1.out, hpP.out, ← List.append_assoc]; exact OB.out, BOB⟩
           case measure => simp [intOf]; omega
         · have e1 := Lib.hid (gtL_no hlt h1)
           have h1b : decide (a < pA c k) = false := by simpa using h1
           go_wp2
           go_roundw
           case rel => exact ⟨k + 1, by omega, by go_num, by rw [e1.out]; exact O, hbl⟩
           case measure => simp [intOf]; omega
       · obtain rfl : k = c.length := by omega
         rw [List.take_length, show ltL c a ++ [(a, n + eqN c a)] ++ gtL c a = addL c a n from rfl] at O
         cases hv2 : vLines s.length (addL c a n)
         · go_wp2_with (go_at_call 90; refine (specCart_in _ _ _ (addL c a n) _ _ (Rd.of_owns O.out) (by omega)).mono ?_; rintro e w9 ⟨rfl, hb9⟩)
           go_ret2
           exact addPost_nil (by rw [hin.out, vCart, hv2, Bool.and_false]) (hbl.trans (hb9.mono hbl.size))
         · go_wp2_with (go_at_call 90; refine (specCart_in _ _ _ (addL c a n) _ _ (Rd.of_owns O.out) (by omega)).mono ?_; rintro e w9 ⟨rfl, hb9⟩)
           go_ret2
           exact addPost_yes (by rw [hin.out, vCart, hv2, (vCart_pr HOK.out).1]; rfl) (hbl.trans (hb9.mono hbl.size)) (ownsRow_below O.out hb9 (Nat.le_refl _))
theorem specAdd_any (s : List Art) (u : Value) (c : List (Int × Int)) (v : Value) (a n : Int) (w : World) (hs : Rd w 4 u s.length (ar s)) (hv : Rd w 2 v c.length (pr c)) :
   Calls Tryz.prog 86 #[u, v, .int .i64 a, .int .i64 n] w (AddPost s c a n w) := by
 cases hp : vShop s
 · exact specAdd_s s u c v a n w hs hv hp
 cases hq : vLines s.length c
 · exact specAdd_c s u c v a n w hs hv hp hq
 cases ha : wi a 0 (s.length - 1)
 · exact specAdd_a s u c v a n w hs hv hp hq ha
 cases hn : wi n 1 20
 · exact specAdd_n s u c v a n w hs hv hp hq ha hn
 · exact specAdd_y s u c v a n w hs hv hp hq ha hn
end Go.Proofs.YtijofgaekmahkaaGreatDoor

namespace Go.Proofs.YtijofgaekmahkaaGreatDoor
open Go.RowKit
theorem takeOk_c {s : List Art} {c : List (Int × Int)} {a n : Int} (h : vCart s c = false) : takeOk s c a n = false := by simp [takeOk, h]
theorem takeOk_n {s : List Art} {c : List (Int × Int)} {a n : Int} (h : n < 1) : takeOk s c a n = false := by simp [takeOk]; omega
theorem takeOk_f {s : List Art} {c : List (Int × Int)} {a n : Int} (h : fewA c a n = true) : takeOk s c a n = false := by simp [takeOk, h]
theorem takeOk_h {s : List Art} {c : List (Int × Int)} {a n : Int} (h : hasA c a = false) : takeOk s c a n = false := by simp [takeOk, h]
theorem takeOk_y {s : List Art} {c : List (Int × Int)} {a n : Int} (h1 : vCart s c = true) (h2 : 1 ≤ n) (h3 : hasA c a = true) (h4 : fewA c a n = false) : takeOk s c a n = true := by simp [takeOk, h1, h2, h3, h4]
end Go.Proofs.YtijofgaekmahkaaGreatDoor
