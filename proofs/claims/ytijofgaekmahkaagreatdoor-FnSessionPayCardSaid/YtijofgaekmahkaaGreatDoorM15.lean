/- Joined texts: Walks: is a list of rules clear, in the program; rules in order by the sort, in the program. Walks: rules in their order, in the program; which of two rules comes first, in the reference. Walks: how many pieces of each group a cart has, both ways. Conditions: none. -/
import Derived.Test.YtijofgaekmahkaaGreatDoorM14
import Derived.Laws.AppendOwnNone
import Derived.ChangeAlike
import Derived.Lib.SmallJoins
namespace Go.Proofs.YtijofgaekmahkaaGreatDoor
open Go.RowKit
set_option maxHeartbeats 4000000 in
set_option maxRecDepth 100000 in
theorem isClear_any (l : List Rx) (v : Value) (w : World) (hv : RdR w v l) (hok : ∀ x ∈ l, okRu x.r = true) :
   Calls Tryz.prog 72 #[v] w fun e w' => e = .returned (.bool (okRs (rls l) && clrQ (rls l))) ∧ Below w.heap.size w w' := by
 have HV := Lib.hid hv
 have HK := Lib.hid hok
 cases hrs : okRs (rls l)
 · have HRS := Lib.hid hrs
   clear hv hok hrs
   go_enter Tryz.func72, Tryz.ntmps72
   go_wp2_with (go_at_call 34; refine (implRules_any l _ _ HV.out HK.out).mono ?_; rintro e w1 ⟨rfl, x1⟩; rw [HRS.out]; have X1 := Lib.hid x1; clear x1)
   go_ret
   exact ⟨rfl, X1.out⟩
 · have HRS := Lib.hid hrs
   have hc := clr_cnfL hrs
   have HC := Lib.hid hc
   clear hv hok hrs hc
   go_enter Tryz.func72, Tryz.ntmps72
   go_wp2_with (first
     | (go_at_call 34; refine (implRules_any l _ _ HV.out HK.out).mono ?_; rintro e w1 ⟨rfl, x1⟩; rw [HRS.out]; have X1 := Lib.hid x1; clear x1)
     | (go_at_call 42; refine (allConf_any l _ _ (HV.out.below X1.out (Nat.le_refl _)) HRS.out).mono ?_; rintro e w2 ⟨o, L, rfl, hL, pL, x2⟩; obtain ⟨so, sc, hso, _⟩ := owns_shape pL.own; subst hso; have X2 := Lib.hid (X1.out.trans (x2.mono X1.out.size)); have fin : Hid (((L.length : Int) == 0) = clrQ (rls l)) := (by rw [Hid, HC.out, ← hL, List.length_map, Bool.eq_iff_iff, beq_iff_eq, decide_eq_true_eq]; omega); clear hL pL x2))
   go_ret
   exact ⟨by rw [fin.out] <;> rfl, X2.out⟩
def cfR (r q : Rl) : Int := orL [Lib.compareInt r.lvl q.lvl, Lib.compareInt r.rank q.rank, Lib.compareInt r.num q.num]
theorem cfR_lt (r q : Rl) : decide (cfR r q < 0) = befQ r q := by
 have h1 := cmp_lt r.lvl q.lvl
 have h2 := cmp_zero r.lvl q.lvl
 have h3 := cmp_lt r.rank q.rank
 have h4 := cmp_zero r.rank q.rank
 have h5 := cmp_lt r.num q.num
 have h6 := cmp_zero r.num q.num
 unfold cfR befQ orL orL orL orL
 split
 · rename_i e
   rw [if_pos (h2.1 e)]
   split
   · rename_i e2
     rw [if_pos (h4.1 e2)]
     split
     · rename_i e3
       have := h6.1 e3
       simp; omega
     · exact decide_eq_decide.2 h5
   · rename_i e2
     rw [if_neg fun q => e2 (h4.2 q)]
     exact decide_eq_decide.2 h3
 · rename_i e
   rw [if_neg fun q => e (h2.2 q)]
   exact decide_eq_decide.2 h1
theorem grow3 (W : World) (a b c : Obj) : (((W.alloc a).alloc b).alloc c).drew = Sort.grow (W.drewN 1) #[a, b, c] := by
 show (((W.drewN 1).alloc a).alloc b).alloc c = _
 rw [Sort.alloc_eq_grow, Sort.alloc_eq_grow, Sort.alloc_eq_grow, Sort.grow_grow, Sort.grow_grow]
 rfl
set_option maxHeartbeats 4000000 in
set_option maxRecDepth 100000 in
theorem closureR (x y : Rl) (ua ub : Option Addr) (na ca nb cb : Nat) (W : World) :
   Calls Tryz.prog 113 #[ruV x (.slice ua na ca), ruV y (.slice ub nb cb)] W fun e w' => e = .returned (.int .i64 (cfR x y)) ∧ ∃ q os, w' = Sort.grow (W.drewN q) os := by
 unfold ruV
 have bx := box11 W x (.slice ua na ca) 43
 have by1 := box11 (W.alloc (.cells #[.int .i64 x.num, .int .i64 x.lvl, .int .i64 x.rank, .int .i64 x.group, .int .i64 x.kind, .int .i64 x.value, .int .i64 x.cap, .int .i64 x.lo, .int .i64 x.hi, .slice ua na ca, .int .i64 x.coupon] 43)) y (.slice ub nb cb) 43
 have bx2 := bx.below ((Below.refl _ _).alloc (Nat.le_refl _) (.cells #[.int .i64 y.num, .int .i64 y.lvl, .int .i64 y.rank, .int .i64 y.group, .int .i64 y.kind, .int .i64 y.value, .int .i64 y.cap, .int .i64 y.lo, .int .i64 y.hi, .slice ub nb cb, .int .i64 y.coupon] 43)) (Nat.le_refl _)
 obtain ⟨W2, hW2⟩ : ∃ W2, W2 = (W.alloc (.cells #[.int .i64 x.num, .int .i64 x.lvl, .int .i64 x.rank, .int .i64 x.group, .int .i64 x.kind, .int .i64 x.value, .int .i64 x.cap, .int .i64 x.lo, .int .i64 x.hi, .slice ua na ca, .int .i64 x.coupon] 43)).alloc (.cells #[.int .i64 y.num, .int .i64 y.lvl, .int .i64 y.rank, .int .i64 y.group, .int .i64 y.kind, .int .i64 y.value, .int .i64 y.cap, .int .i64 y.lo, .int .i64 y.hi, .slice ub nb cb, .int .i64 y.coupon] 43) := ⟨_, rfl⟩
 rw [World.size_alloc] at by1
 rw [← hW2] at by1 bx2
 have c0 := bx2.c0
 have c1 := bx2.c1
 have c2 := bx2.c2
 have d0 := by1.c0
 have d1 := by1.c1
 have d2 := by1.c2
 have l1 := bx2.1
 have l2 := by1.1
 have K1 := Tryz.cmp_Compare_int x.lvl y.lvl W2.drew
 have K2 := Tryz.cmp_Compare_int x.rank y.rank W2.drew
 have K3 := Tryz.cmp_Compare_int x.num y.num W2.drew
 change Calls Tryz.prog 83 _ _ _ at K1 K2 K3
 have fin : Hid (cfR x y = orL [Lib.compareInt x.lvl y.lvl, Lib.compareInt x.rank y.rank, Lib.compareInt x.num y.num]) := rfl
 generalize Lib.compareInt x.lvl y.lvl = a at K1 fin
 generalize Lib.compareInt x.rank y.rank = b at K2 fin
 generalize Lib.compareInt x.num y.num = c at K3 fin
 have HW2 := Lib.hid hW2
 clear bx by1 bx2 hW2
 go_enter Tryz.func113, Tryz.ntmps113
 go_upto_region 1 with fail
 rw [← HW2.out]
 go_still_tail 15, (by kernel_rfl)
 still_call K1
 repeat still_step
 still_call K2
 repeat still_step
 still_call K3
 repeat still_step
 try refine wpStill_nil ?_
 change wpList _ _ _ _ _ W2.drew
 go_wp2_with fail
 refine (or_any [a, b, c] _ _ (lit3 W2.drew a b c 3)).mono ?_
 rintro e w9 ⟨rfl, h9⟩
 replace h9 := h9.symm
 subst h9
 rw [← fin.out]
 go_wp2
 go_ret
 rw [HW2.out]
 exact ⟨rfl, 1, _, grow3 _ _ _ _⟩
theorem Tryz.info43z : (Tryz.prog.info? 43).map (fun i => (i.zero, i.size, i.bytes)) = some (some (.agg #[.int .i64 0, .int .i64 0, .int .i64 0, .int .i64 0, .int .i64 0, .int .i64 0, .int .i64 0, .int .i64 0, .int .i64 0, .slice none 0 0, .int .i64 0]), 11, 104) := by kernel_rfl
theorem aggR (w : World) : (isAgg 43).run Tryz.prog w = .ok true w := by kernel_rfl
theorem sizR (w : World) : (Go.sizeOf 43).run Tryz.prog w = .ok 11 w := by kernel_rfl
def Shp (l : List Rx) : Prop := ∀ x ∈ l, ∃ (ao : Option Addr) (n cap : Nat), x.v = .slice ao n cap
theorem RdR.shp {w : World} {v : Value} {l : List Rx} (h : RdR w v l) : Shp l := fun x hx => by
 obtain ⟨ao, cap, e, _⟩ := (h.2 x hx).pairs
 exact ⟨ao, _, cap, e⟩
theorem ruL_one {r : Rl} {ao : Option Addr} {n cap : Nat} : ∀ v ∈ ruL r (.slice ao n cap), v.oneCell' = true := by
 intro v hv
 unfold ruL at hv
 simp only [List.mem_cons, List.not_mem_nil, or_false] at hv
 rcases hv with rfl | rfl | rfl | rfl | rfl | rfl | rfl | rfl | rfl | rfl | rfl <;> rfl
theorem cmpR_lays (l : List Rx) (hs : Shp l) (g : Nat) (W : World) (sz : Nat) [Inhabited (Fin l.length)] : Go.Proofs.CmpLays Tryz.prog 113 #[] (fun i : Fin l.length => ruL (xT l i.val).r (xT l i.val).v) 11 (fun i j => cfR (xT l i.val).r (xT l j.val).r) g 0 sz W := by
 intro m os dk _ x y
 obtain ⟨W', hW⟩ : ∃ W', W' = Go.Proofs.sortWorldK (fun i : Fin l.length => ruL (xT l i.val).r (xT l i.val).v) 11 W g 0 m dk os := ⟨_, rfl⟩
 rw [← hW]
 obtain ⟨ao, n, c, e⟩ := hs _ (xT_mem x.isLt)
 obtain ⟨ao2, n2, c2, e2⟩ := hs _ (xT_mem y.isLt)
 show Calls Tryz.prog _ (#[.agg (ruL (xT l x.val).r (xT l x.val).v).toArray, .agg (ruL (xT l y.val).r (xT l y.val).v).toArray]) W' _
 rw [e, e2]
 exact closureR (xT l x.val).r (xT l y.val).r ao ao2 n c n2 c2 W'
set_option maxHeartbeats 4000000 in
set_option maxRecDepth 100000 in
theorem sortRules_any (base : Nat) (W : World) (o : Value) (l : List Rx) (own : W.ownsRow base 43 11 o l.length (rx l)) (hs : Shp l) (hrs : okRs (rls l) = true) (hb : base ≤ W.heap.size) :
   Calls Tryz.prog 112 #[o, .func (.func 113) #[] #[]] W fun e w' => e = .returned (.tuple #[]) ∧ ∃ L' : List Rx, L'.Perm l ∧ (rls L').Pairwise (fun x y => befQ y x = false) ∧ Rd w' 11 o L'.length (rx L') ∧ Below base W w' := by
 by_cases hn : l = []
 · subst hn
   obtain ⟨ao, cap, rfl, _⟩ := owns_shape own
   have K := Tryz.slices_SortFuncR_none (α := Nat) ao cap (.func (.func 113) #[] #[]) W
   refine K.mono ?_
   rintro e w' ⟨rfl, rfl⟩
   exact ⟨rfl, [], List.Perm.refl _, .nil, Rd.of_owns own, Below.refl _ _⟩
 · have hpos : 0 < l.length := List.length_pos_iff.2 hn
   haveI : Inhabited (Fin l.length) := ⟨⟨0, hpos⟩⟩
   have hz : (List.finRange l.length).length = l.length := List.length_finRange
   have hsz : (List.finRange l.length).toArray.size = l.length := by simp
   have rd := Rd.of_owns own
   obtain ⟨hrl, ho⟩ := own
   rcases ho with ⟨rfl, h0⟩ | ⟨g, cap, cur, rfl, hbg, hg, hnc, hcm, hcs, htk⟩
   · omega
   have hlt := (Array.getElem?_eq_some_iff.1 hg).1
   have hsix := (okRs_pr hrs).2.2
   rw [rls_len] at hsix
   have hH : Sort.HoldsK (fun i : Fin l.length => ruL (xT l i.val).r (xT l i.val).v) 11 W g 0 (List.finRange l.length).toArray := by
     intro t ht
     rw [Sort.size_flatK, hsz] at ht
     rw [Sort.get_flatK _ _ _ _ (by rw [hsz]; exact ht)]
     have hq : t / 11 < l.length := by omega
     have hm : t % 11 < 11 := by omega
     have e1 : (List.finRange l.length).toArray[t / 11]! = ⟨t / 11, hq⟩ := by rw [getElem!_pos _ _ (by rw [hsz]; exact hq)]; simp
     rw [e1]
     have e2 : (ruL (xT l (t / 11)).r (xT l (t / 11)).v)[t % 11]? = some (ruL (xT l (t / 11)).r (xT l (t / 11)).v)[t % 11]! := by
       have hl : (ruL (xT l (t / 11)).r (xT l (t / 11)).v).length = 11 := rfl
       rw [List.getElem?_eq_getElem (by omega), getElem!_pos _ _ (by omega)]
     have e3 := rx_get l (t / 11) (t % 11) _ hq e2
     rw [show t / 11 * 11 + t % 11 = t by omega] at e3
     obtain ⟨_, ao, cap2, h2, _, _, h5⟩ := rd
     obtain ⟨b, off, h6, _, h8⟩ := h5 hpos
     injection h2 with h2a
     rw [← h2a] at h6
     injection h6 with h6
     injection h6 with h6a h6b
     subst h6a; subst h6b
     exact ⟨h8 t _ e3, frozen_of_row W _ _ _ _ hg⟩
   have hlt2 : ∀ x y : Fin l.length, Go.Proofs.ltOf (fun i j : Fin l.length => cfR (xT l i.val).r (xT l j.val).r) x y = befQ (xT l x.val).r (xT l y.val).r := fun x y => cfR_lt _ _
   have K := Tryz.slices_SortFuncR_total (α := Fin l.length) 11 (fun w => aggR w) (fun w => sizR w) (fun i => ruL (xT l i.val).r (xT l i.val).v) (fun i => rfl)
     (fun i => by obtain ⟨ao, n, c, e⟩ := hs _ (xT_mem i.isLt); simp only [e]; exact ruL_one) (fun i j => cfR (xT l i.val).r (xT l j.val).r)
     ⟨fun x => by rw [hlt2, befQ_no]; omega, fun x y z h1 h2 => by rw [hlt2, befQ_iff] at *; omega, fun x y z h1 h2 => by rw [hlt2, befQ_no] at *; omega⟩
     113 #[] g 0 cap (List.finRange l.length).toArray W (enters_of Tryz.func113 (by kernel_rfl) rfl)
     (cmpR_lays l hs g W _)
     hH hlt (by simp; omega)
     (fun x y h1 h2 => by
       rw [hlt2, befQ_no] at h1 h2
       have e : (rT (rls l) x.val).num = (rT (rls l) y.val).num := by rw [rls_at, rls_at]; omega
       exact Fin.ext (okRs_ne hrs (by rw [rls_len]; exact x.isLt) (by rw [rls_len]; exact y.isLt) e))
   rw [hsz] at K
   refine K.mono ?_
   rintro e w' ⟨rfl, m, os, rfl⟩
   obtain ⟨ys, hys⟩ : ∃ ys : List (Fin l.length), ys = ((List.finRange l.length).toArray.toList.mergeSort fun x y => !(Go.Proofs.ltOf (fun i j : Fin l.length => cfR (xT l i.val).r (xT l j.val).r)) y x) := ⟨_, rfl⟩
   rw [← hys]
   have hperm : ys.Perm (List.finRange l.length) := by rw [hys]; exact List.mergeSort_perm _ _
   have hsort : ys.Pairwise fun x y => befQ (xT l y.val).r (xT l x.val).r = false := by
     rw [hys]
     refine (List.pairwise_mergeSort (le := fun x y => !(Go.Proofs.ltOf (fun i j : Fin l.length => cfR (xT l i.val).r (xT l j.val).r)) y x) ?_ ?_ _).imp ?_
     · intro a b c h1 h2
       simp only [hlt2, Bool.not_eq_true', befQ_no] at *
       omega
     · intro a b
       simp only [hlt2]
       cases h1 : befQ (xT l b.val).r (xT l a.val).r
       · rfl
       · cases h2 : befQ (xT l a.val).r (xT l b.val).r
         · rfl
         · rw [befQ_iff] at h1 h2; omega
     · intro a b h1
       simpa only [hlt2, Bool.not_eq_true'] using h1
   have hyl : ys.length = l.length := by rw [hperm.length_eq, hz]
   have hH2 := Go.Proofs.holdsK_sortWorldK_c (fun i : Fin l.length => ruL (xT l i.val).r (xT l i.val).v) 11 W g 0 _ ys.toArray m os hH hlt (by simp [hyl])
   have hmap : (List.finRange l.length).map (fun i => xT l i.val) = l := by
     apply List.ext_getElem
     · simp
     · intro i h1 h2
       simp [xT, List.getD]
   refine ⟨rfl, ys.map (fun i => xT l i.val), ?_, ?_, ?_, ?_⟩
   · have := hperm.map (fun i : Fin l.length => xT l i.val)
     rw [hmap] at this
     exact this
   · rw [rls, List.map_map]
     exact List.pairwise_map.2 hsort
   · refine ⟨rx_len _, _, cap, by rw [List.length_map, hyl], by rw [List.length_map, hyl]; exact hnc, hcm, fun _ => ⟨g, 0, rfl, Nat.lt_of_lt_of_le hlt (Go.Proofs.size_sortWorldK_c _ _ _ _ _ _ _ _), fun j u hu => ?_⟩⟩
     have hj := (List.getElem?_eq_some_iff.1 hu).1
     rw [rx_len, List.length_map, hyl] at hj
     have hq : j / 11 < l.length := by omega
     have hm : j % 11 < 11 := by omega
     have hc := (hH2.cell (i := j / 11) (c := j % 11) (by simp [hyl]; exact hq) hm).1
     have e1 : ys.toArray[j / 11]! = ys[j / 11]'(by omega) := by rw [getElem!_pos _ _ (by simp [hyl]; exact hq)]; simp
     rw [e1] at hc
     have e2 : xT (ys.map fun i => xT l i.val) (j / 11) = xT l (ys[j / 11]'(by omega)).val := by simp [xT, List.getD, hyl, hq]
     have e4 : (ruL (xT (ys.map fun i => xT l i.val) (j / 11)).r (xT (ys.map fun i => xT l i.val) (j / 11)).v)[j % 11]? = some (ruL (xT l (ys[j / 11]'(by omega)).val).r (xT l (ys[j / 11]'(by omega)).val).v)[j % 11]! := by
       rw [e2]
       have hl : (ruL (xT l (ys[j / 11]'(by omega)).val).r (xT l (ys[j / 11]'(by omega)).val).v).length = 11 := rfl
       rw [List.getElem?_eq_getElem (by omega), getElem!_pos _ _ (by omega)]
     have e3 := rx_get _ (j / 11) (j % 11) _ (by rw [List.length_map, hyl]; exact hq) e4
     rw [show j / 11 * 11 + j % 11 = j by omega, hu] at e3
     injection e3 with e3
     rw [e3, ← hc, show 0 + j / 11 * 11 + j % 11 = 0 + j by omega]
   · have h1 := Lib.below_putRow (enc := id) (q := m) (d := Sort.flatK (fun i : Fin l.length => ruL (xT l i.val).r (xT l i.val).v) 11 ys.toArray) (Below.refl base W) hbg
     exact ⟨h1.os, h1.tape, h1.output, Nat.le_trans h1.size (by show _ ≤ (Sort.grow _ _).heap.size; simp [Sort.putRowK]), fun k hk => (Sort.heap_grow_old _ _ (by simp [Sort.putRowK]; omega)).trans (h1.block k hk)⟩
end Go.Proofs.YtijofgaekmahkaaGreatDoor

namespace Go.Proofs.YtijofgaekmahkaaGreatDoor
open Go.RowKit
theorem app_nil {P : Program} {w : World} {ops : Array Oper} {rest : List Oper} {o : Oper} {a : Act} {Q : Exit → Act → World → Prop} (hgd : o.guard = none) (s x : Operand) (t : TypeId)
   (ho : o.op = .call { callee := .builtin .append, args := #[s, x], argTypes := #[t, t] })
   (base : Nat) (e : TypeId) (i : TypeInfo) (size : Nat) (ht : P.underlying t = some (.slice e)) (hi : P.info? e = some i)
   (v : Value) (n : Nat) (xs : List Value) (hs : a.eval s = v) (hown : w.ownsRow base e size v n xs) (c : Nat) (hx : a.eval x = .slice none 0 c)
   (h : wpList P ops Q rest (a.put o.dst v) w) : wpList P ops Q (o :: rest) a w := by
 refine wpList_plain hgd fun K hK => ?_
 have hrun : (Builtin.append_ #[t, t] o.type #[v, .slice none 0 c]).run P w = .ok v w := by
   rcases hown.2 with ⟨rfl, rfl⟩ | ⟨g, cap, cur, rfl, _, _, hnc, _⟩
   · simp [Builtin.append_, run_underlying ht, sizeOf, typeInfo, hi, Builtin.lenOf, Builtin.firstCells]
   · simp [Builtin.append_, run_underlying ht, sizeOf, typeInfo, hi, Builtin.lenOf, Builtin.firstCells, hnc, storeCells]
 unfold Oper.wp
 simp [execOp, ho, resolve, invoke, builtin, hs, hx, hrun, Result.andThen]
 exact hK _ _ h
theorem slice_base {w : World} {base e sz n : Nat} {v : Value} {xs : List Value} (h : w.ownsRow base e sz v n xs) : ∀ a m c, v = .slice (some a) m c → base ≤ a.block := by
 intro a m c he
 rcases h.2 with ⟨rfl, _⟩ | ⟨g, cap, cur, rfl, hg, _⟩
 · cases he
 · injection he with h1
   obtain rfl := Option.some.inj h1
   exact hg
theorem rx_one {l : List Rx} (hs : Shp l) : ∀ u ∈ rx l, u.oneCell' = true := fun u hu => by
 obtain ⟨x, hx, hu⟩ := List.mem_flatMap.1 hu
 obtain ⟨ao, n, c, e⟩ := hs x hx
 rw [e] at hu
 exact ruL_one u hu
set_option maxHeartbeats 4000000 in
set_option maxRecDepth 100000 in
theorem ordered_any (l : List Rx) (v : Value) (w : World) (hv : RdR w v l) (hrs : okRs (rls l) = true) :
   Calls Tryz.prog 73 #[v] w fun e w' => ∃ (o : Value) (L : List Rx), e = .returned o ∧ rls L = ordL (rls l) ∧ L.Perm l ∧ RdR w' o L ∧ Below w.heap.size w w' ∧ ∀ g n c, o = .slice (some g) n c → w.heap.size ≤ g.block := by
 have HV := Lib.hid hv
 have HRS := Lib.hid hrs
 have hshp := hv.shp
 have HS := Lib.hid hshp
 have hsix : l.length ≤ 6 := by have := (okRs_pr hrs).2.2; rw [rls_len] at this; exact this
 obtain ⟨i0, hi, hz0, hz1, hz2⟩ := info_parts Tryz.info43z
 have HI := Lib.hid hi
 have HZ0 := Lib.hid hz0
 have HZ1 := Lib.hid hz1
 have HZ2 := Lib.hid hz2
 clear hi hz0 hz1 hz2
 have O0 := Lib.hid (World.ownsRow_made w #[] 0 (Nat.le_refl _) (by simp) (by simp) : (w.alloc (.cells #[] 43)).ownsRow w.heap.size 43 11 (.slice (some ⟨w.heap.size, 0, none⟩) 0 0) 0 [])
 have B0 : Below w.heap.size w (w.alloc (.cells #[] 43)) := (Below.refl _ w).alloc (Nat.le_refl _) _
 have HB0 := Lib.hid B0
 obtain ⟨ao, cap, rfl, hcap, hcm, hr⟩ := hv.open
 have hcell := hv.1
 have HC := Lib.hid hcell
 clear hrs hshp B0 hr hcell hv
 have fin : ∀ (o : Value) (W : World) (B : Below w.heap.size w W) (own : W.ownsRow w.heap.size 43 11 o l.length (rx l)) (hW : w.heap.size ≤ W.heap.size) (e : Ending) (w' : World),
     (e = .returned (.tuple #[]) ∧ ∃ L' : List Rx, L'.Perm l ∧ (rls L').Pairwise (fun x y => befQ y x = false) ∧ Rd w' 11 o L'.length (rx L') ∧ Below w.heap.size W w') →
     e = .returned (.tuple #[]) ∧ ∃ L : List Rx, rls L = ordL (rls l) ∧ L.Perm l ∧ RdR w' o L ∧ Below w.heap.size w w' ∧ ∀ g n c, o = .slice (some g) n c → w.heap.size ≤ g.block := fun o W B own hW e w' ⟨he, L, h1, h2, h3, h4⟩ =>
   ⟨he, L, sorted_ordL HRS.out (h1.map _) h2, h1, ⟨h3, fun x hx => (HV.out.2 x (h1.mem_iff.1 hx)).below (B.trans h4) (Nat.le_refl _)⟩, B.trans h4, slice_base own⟩
 have FIN := Lib.hid fin
 clear fin
 cases ao with
 | none =>
   have hl0 : l = [] := by
     by_cases hz : 0 < l.length
     · obtain ⟨_, ao, cap2, h2, _, _, h5⟩ := HC.out
       obtain ⟨b, off, h6, _⟩ := h5 hz
       subst h6; injection h2 with h2a; cases h2a
     · exact List.eq_nil_of_length_eq_zero (by omega)
   have e0 : rx l = [] := by rw [hl0]; rfl
   have hln : l.length = 0 := by rw [hl0]; rfl
   have O2 : (w.alloc (.cells #[] 43)).ownsRow w.heap.size 43 11 (.slice (some ⟨w.heap.size, 0, none⟩) 0 0) l.length (rx l) := by rw [hln, e0]; exact O0.out
   have HO2 := Lib.hid O2
   have HLN := Lib.hid hln
   clear O2 hl0 e0
   rw [hln]
   clear hln
   go_enter Tryz.func73, Tryz.ntmps73
   go_wp2_with (first
     | (at_builtin; refine app_nil rfl (.tmp 4) (.tmp 5) 51 rfl w.heap.size 43 i0 11 Tryz.underlying51 HI.out _ 0 [] rfl O0.out cap rfl ?_)
     | (go_at_call 112; refine (sortRules_any w.heap.size _ _ l HO2.out HS.out HRS.out HB0.out.size).mono ?_; intro e w2 h2; obtain ⟨rfl, L, g1, g2, g3, g4, g5⟩ := FIN.out _ _ HB0.out HO2.out HB0.out.size _ _ h2; have G1 := Lib.hid g1; have G2 := Lib.hid g2; have G3 := Lib.hid g3; have G4 := Lib.hid g4; have G5 := Lib.hid g5; clear g1 g2 g3 g4 g5 h2))
   go_ret
   exact ⟨_, L, rfl, G1.out, G2.out, G3.out, G4.out, G5.out⟩
 | some ad =>
   have hnews : ∀ j u, (rx l)[j]? = some u → (w.alloc (.cells #[] 43)).cell? (ad.add j) = some u := by
     intro j u hu
     by_cases hz : 0 < l.length
     · obtain ⟨_, ao, cap2, h2, _, _, h5⟩ := HC.out
       obtain ⟨b, off, h6, h7, h8⟩ := h5 hz
       subst h6
       injection h2 with h2a
       injection h2a with h2a
       subst h2a
       have h9 := (HB0.out.cell (p := ⟨b, off + j, none⟩) h7).trans (h8 j u hu)
       unfold Addr.add
       by_cases hj : j = 0
       · subst hj; simpa using h9
       · simpa [hj] using h9
     · have hl0 : l = [] := List.eq_nil_of_length_eq_zero (by omega)
       rw [hl0] at hu
       simp [rx] at hu
   have HN := Lib.hid hnews
   clear hnews
   go_enter Tryz.func73, Tryz.ntmps73
   go_wp2_with (first
     | (at_builtin; refine wpList_append_near rfl (.tmp 4) (.tmp 5) 51 rfl w.heap.size 43 i0 _ 11 104 Tryz.underlying51 HI.out HZ0.out HZ1.out HZ2.out rfl (by decide) _ 0 [] rfl O0.out ad l.length cap (rx l) rfl (rx_len l) HN.out (rx_one HS.out) (by unfold maxLen; omega) (by omega) HB0.out.size ?_; intro v' W1 h1 h2 h3; rw [Nat.zero_add, List.nil_append] at h1; have B1 := Lib.hid (below_row HB0.out h2 (fun q hq => (O0.out.lt q hq).1)); obtain ⟨so, sc, hso, _⟩ := owns_shape h1; subst hso; have O1 := Lib.hid h1; clear h1 h2 h3)
     | (go_at_call 112; refine (sortRules_any w.heap.size _ _ l O1.out HS.out HRS.out B1.out.size).mono ?_; intro e w2 h2; obtain ⟨rfl, L, g1, g2, g3, g4, g5⟩ := FIN.out _ _ B1.out O1.out B1.out.size _ _ h2; have G1 := Lib.hid g1; have G2 := Lib.hid g2; have G3 := Lib.hid g3; have G4 := Lib.hid g4; have G5 := Lib.hid g5; clear g1 g2 g3 g4 g5 h2))
   go_ret
   exact ⟨_, L, rfl, G1.out, G2.out, G3.out, G4.out, G5.out⟩
set_option maxHeartbeats 4000000 in
set_option maxRecDepth 100000 in
theorem before_any (x y : Rl) (ua ub : Option Addr) (na ca nb cb : Nat) (W : World) :
   Calls Tryz.prog 197 #[ruV x (.slice ua na ca), ruV y (.slice ub nb cb)] W fun e w' => e = .returned (.bool (befQ x y)) ∧ Below W.heap.size W w' := by
 unfold ruV
 have bx := box11 W x (.slice ua na ca) 43
 have by1 := box11 (W.alloc (.cells #[.int .i64 x.num, .int .i64 x.lvl, .int .i64 x.rank, .int .i64 x.group, .int .i64 x.kind, .int .i64 x.value, .int .i64 x.cap, .int .i64 x.lo, .int .i64 x.hi, .slice ua na ca, .int .i64 x.coupon] 43)) y (.slice ub nb cb) 43
 have bx2 := bx.below ((Below.refl _ _).alloc (Nat.le_refl _) (.cells #[.int .i64 y.num, .int .i64 y.lvl, .int .i64 y.rank, .int .i64 y.group, .int .i64 y.kind, .int .i64 y.value, .int .i64 y.cap, .int .i64 y.lo, .int .i64 y.hi, .slice ub nb cb, .int .i64 y.coupon] 43)) (Nat.le_refl _)
 have hb2 := ((Below.refl W.heap.size W).alloc (Nat.le_refl _) (.cells #[.int .i64 x.num, .int .i64 x.lvl, .int .i64 x.rank, .int .i64 x.group, .int .i64 x.kind, .int .i64 x.value, .int .i64 x.cap, .int .i64 x.lo, .int .i64 x.hi, .slice ua na ca, .int .i64 x.coupon] 43)).alloc (by simp) (.cells #[.int .i64 y.num, .int .i64 y.lvl, .int .i64 y.rank, .int .i64 y.group, .int .i64 y.kind, .int .i64 y.value, .int .i64 y.cap, .int .i64 y.lo, .int .i64 y.hi, .slice ub nb cb, .int .i64 y.coupon] 43)
 obtain ⟨W2, hW2⟩ : ∃ W2, W2 = (W.alloc (.cells #[.int .i64 x.num, .int .i64 x.lvl, .int .i64 x.rank, .int .i64 x.group, .int .i64 x.kind, .int .i64 x.value, .int .i64 x.cap, .int .i64 x.lo, .int .i64 x.hi, .slice ua na ca, .int .i64 x.coupon] 43)).alloc (.cells #[.int .i64 y.num, .int .i64 y.lvl, .int .i64 y.rank, .int .i64 y.group, .int .i64 y.kind, .int .i64 y.value, .int .i64 y.cap, .int .i64 y.lo, .int .i64 y.hi, .slice ub nb cb, .int .i64 y.coupon] 43) := ⟨_, rfl⟩
 rw [World.size_alloc] at by1
 rw [← hW2] at by1 bx2 hb2
 have c0 := bx2.c0
 have c1 := bx2.c1
 have c2 := bx2.c2
 have d0 := by1.c0
 have d1 := by1.c1
 have d2 := by1.c2
 have HB2 := Lib.hid hb2
 have HW2 := Lib.hid hW2
 have fin : Hid (befQ x y = if x.lvl = y.lvl then (if x.rank = y.rank then decide (x.num < y.num) else decide (x.rank < y.rank)) else decide (x.lvl < y.lvl)) := rfl
 clear bx by1 bx2 hW2 hb2
 go_enter Tryz.func197, Tryz.ntmps197
 go_upto_region 1 with fail
 rw [← HW2.out]
 by_cases h1 : x.lvl = y.lvl
 · have e1 : (x.lvl != y.lvl) = false := by simp [h1]
   have fin1 := Lib.hid (fin.out.trans (if_pos h1))
   clear h1
   by_cases h2 : x.rank = y.rank
   · have e2 : (x.rank != y.rank) = false := by simp [h2]
     have fin2 := Lib.hid (fin1.out.trans (if_pos h2))
     clear h2
     go_wp2
     go_ret
     exact ⟨by rw [fin2.out] <;> rfl, HB2.out⟩
   · have e2 : (x.rank != y.rank) = true := by simp [h2]
     have fin2 := Lib.hid (fin1.out.trans (if_neg h2))
     clear h2
     go_wp2
     go_ret
     exact ⟨by rw [fin2.out] <;> rfl, HB2.out⟩
 · have e1 : (x.lvl != y.lvl) = true := by simp [h1]
   have fin1 := Lib.hid (fin.out.trans (if_neg h1))
   clear h1
   go_wp2
   go_ret
   exact ⟨by rw [fin1.out] <;> rfl, HB2.out⟩
end Go.Proofs.YtijofgaekmahkaaGreatDoor

namespace Go.Proofs.YtijofgaekmahkaaGreatDoor
open Go.RowKit
theorem grp_get (s : List Art) (c : List (Int × Int)) (k : Nat) {g : Nat} (h : g < 3) : iG (grpK s c k) g = cntG s c (g : Int) k := by
 rcases (by omega : g = 0 ∨ g = 1 ∨ g = 2) with rfl | rfl | rfl <;> rfl
theorem grp_step {s : List Art} {c : List (Int × Int)} {k : Nat} {g : Nat} (hg : (aT s (pA c k).toNat).g = (g : Int)) (h : g < 3) : (grpK s c k).set g (iG (grpK s c k) g + pB c k) = grpK s c (k + 1) := by
 rcases (by omega : g = 0 ∨ g = 1 ∨ g = 2) with rfl | rfl | rfl <;> simp [grpK, cntG, iG, hg]
set_option maxHeartbeats 4000000 in
set_option maxRecDepth 100000 in
theorem implGroups_any (s : List Art) (u : Value) (c : List (Int × Int)) (v : Value) (w : World) (hs : Rd w 4 u s.length (ar s)) (hv : Rd w 2 v c.length (pr c)) (hp : vCart s c = true) :
   Calls Tryz.prog 111 #[u, v] w fun e w' => ∃ o, e = .returned o ∧ w'.ownsRow w.heap.size 3 1 o 3 (it (grpL s c)) ∧ Below w.heap.size w w' := by
 have HV := Lib.hid hv
 have HS := Lib.hid hs
 have hm := hs.len
 have hm2 := hv.len
 unfold maxLen at hm hm2
 obtain ⟨so, scap, rfl, _, _, hrs⟩ := hs.arts
 obtain ⟨co, ccap, rfl, _, _, hrc⟩ := hv.pairs
 have HRS := Lib.hid hrs
 have HRC := Lib.hid hrc
 have HOK := Lib.hid hp
 obtain ⟨i0, hi, hz0, hz1, hz2⟩ := info_parts Tryz.info3z
 have HI := Lib.hid hi
 have HZ0 := Lib.hid hz0
 have HZ1 := Lib.hid hz1
 have HZ2 := Lib.hid hz2
 clear hi hz0 hz1 hz2 hv hs hrs hrc
 go_enter Tryz.func111, Tryz.ntmps111
 go_upto_region 3 with (go_at_call 61; refine (implCart_any s _ c _ _ HS.out HV.out).mono ?_; rintro e w0 ⟨rfl, B0⟩)
 go_wp2_with (refine wpList_make_full _ rfl _ _ 34 rfl w0.heap.size 3 i0 _ 1 Tryz.underlying34 HI.out HZ0.out HZ1.out _ _ _ _ 3 rfl rfl rfl rfl (by rw [HZ2.out]; omega) (by unfold maxLen; omega) (Nat.le_refl _) ?_; intro w1 hown hgr; have O1 : Hid (w1.ownsRow w0.heap.size 3 1 (.slice (some ⟨w0.heap.size, 0, none⟩) 3 3) 3 (it (grpK s c 0))) := (by rw [show grpK s c 0 = List.replicate 3 0 from rfl, ← made_it]; exact hown); have B1 := B0.trans ((below_of_grownBy hgr).mono B0.size); clear hown hgr)
 go_loopw [16] (fun i_ wr => ∃ k : Nat, k ≤ c.length ∧ i_ = .int .i64 k ∧ Below w.heap.size w wr ∧ Hid (wr.ownsRow w0.heap.size 3 1 (.slice (some ⟨w0.heap.size, 0, none⟩) 3 3) 3 (it (grpK s c k)))) (fun i_ _ => c.length - (intOf i_).toNat)
 case atStart => exact ⟨0, Nat.zero_le _, rfl, B1, O1⟩
 case round =>
   clear B1 O1
   obtain ⟨k, hk, rfl, hbl, O⟩ := hrel
   have hc8 := (vLines_all (vCart_pr HOK.out).2).2
   by_cases hlt : k < c.length
   · obtain ⟨h4, h5, h6, h7, h8, h9⟩ := art_in HOK.out hlt
     obtain ⟨b, off, rfl, hb, hcell⟩ := HRC.out (by omega)
     obtain ⟨b2, off2, rfl, hb2, hcell2⟩ := HRS.out (by omega)
     have ga := atOk_pr h9
     obtain ⟨g, hg⟩ := Int.eq_ofNat_of_zero_le ga.2.2.1
     have hg3 : g < 3 := by omega
     have hst := grp_step (c := c) (k := k) hg hg3
     have hbd := cntG_bd HOK.out (g : Int) k hk
     rw [← grp_get s c k hg3] at hbd
     obtain ⟨hx1, hx2⟩ := hbd
     obtain ⟨a, ha⟩ := Int.eq_ofNat_of_zero_le h5
     have haN : (pA c k).toNat = a := by omega
     have g0 := (hbl.cell (p := ⟨b, off + k*2, none⟩) hb).trans (hcell k hlt).1
     have g1 := (hbl.cell (p := ⟨b, off + k*2+1, none⟩) hb).trans (hcell k hlt).2
     rw [haN] at h4 hg
     have g2 := (hbl.cell (p := ⟨b2, off2 + a*4+1, none⟩) hb2).trans (hcell2 a h4).2.1
     rw [ha] at g0
     rw [hg] at g2
     have hbw : b < wr.heap.size := Nat.lt_of_lt_of_le hb hbl.size
     have hbw2 : b2 < wr.heap.size := Nat.lt_of_lt_of_le hb2 hbl.size
     have hgw : w0.heap.size < wr.heap.size := (O.out.lt _ rfl).2
     obtain ⟨c0, f0⟩ := owns_at1 O.out g hg3
     have HS1 := Lib.hid hst
     obtain ⟨y, hy⟩ : ∃ y, y = pB c k := ⟨_, rfl⟩
     obtain ⟨x, hx⟩ : ∃ x, x = iG (grpK s c k) g := ⟨_, rfl⟩
     rw [← hy] at g1 HS1 h7 h8
     rw [← hx] at c0 hx1 hx2 HS1
     have e1 : IntKind.i64.wrap (x + y) = x + y := IntWalk.i64_in _ (by omega)
     have ha0 : (0 : Int) ≤ (a : Int) := by omega
     have ha1 : (a : Int) < (s.length : Int) := by omega
     have hg0 : (0 : Int) ≤ (g : Int) := by omega
     have hg1 : (g : Int) < (3 : Int) := by omega
     have hk0 : (0 : Int) ≤ (k : Int) := by omega
     have hk1 : (k : Int) < (c.length : Int) := by omega
     have z0 := B0.size
     have hne : ¬ b = w0.heap.size := by omega
     have hne1 : ¬ b2 = w0.heap.size := by omega
     have hne2 : ¬ w0.heap.size = wr.heap.size := by omega
     have hne3 : ¬ b = wr.heap.size := by omega
     have hne4 : ¬ b2 = wr.heap.size := by omega
     clear ha haN hcell hcell2 hst hy hx hg h4 h5 h6 h9 ga
     go_wp2
     go_region
     go_wp2
     have o3 := (owns_set1 O.out g (x + y)).1
     rw [HS1.out] at o3
     go_roundw
     case rel => exact ⟨k + 1, by omega, by go_num, ((hbl.setCell z0 _).alloc (by simp only [World.size_setCell]; exact hbl.size) (.cells #[.int .i64 a, .int .i64 y] 82)).drew, (o3.alloc (.cells #[.int .i64 a, .int .i64 y] 82)).drew⟩
     case measure => simp [intOf]; omega
   · obtain rfl : k = c.length := by omega
     go_wp2
     go_ret
     exact ⟨_, rfl, Joins.ownsRow_le O.out B0.size, hbl⟩
set_option maxHeartbeats 4000000 in
set_option maxRecDepth 100000 in
theorem specGroups_any (s : List Art) (u : Value) (c : List (Int × Int)) (v : Value) (w : World) (hs : Rd w 4 u s.length (ar s)) (hv : Rd w 2 v c.length (pr c)) (hp : vCart s c = true) :
   Calls Tryz.prog 164 #[u, v] w fun e w' => ∃ o, e = .returned o ∧ w'.ownsRow w.heap.size 3 1 o 3 (it (grpL s c)) ∧ Below w.heap.size w w' := by
 have HV := Lib.hid hv
 have HS := Lib.hid hs
 have hm := hs.len
 have hm2 := hv.len
 unfold maxLen at hm hm2
 obtain ⟨so, scap, rfl, _, _, hrs⟩ := hs.arts
 obtain ⟨co, ccap, rfl, _, _, hrc⟩ := hv.pairs
 have HRS := Lib.hid hrs
 have HRC := Lib.hid hrc
 have HOK := Lib.hid hp
 obtain ⟨i0, hi, hz0, hz1, hz2⟩ := info_parts Tryz.info3z
 have HI := Lib.hid hi
 have HZ0 := Lib.hid hz0
 have HZ1 := Lib.hid hz1
 have HZ2 := Lib.hid hz2
 clear hi hz0 hz1 hz2 hv hs hrs hrc
 go_enter Tryz.func164, Tryz.ntmps164
 obtain ⟨w0, hw0, B0⟩ : ∃ w0, w0 = w ∧ Below w.heap.size w w0 := ⟨w, rfl, Below.refl _ _⟩
 go_wp2_with (refine wpList_make_full _ rfl _ _ 34 rfl w.heap.size 3 i0 _ 1 Tryz.underlying34 HI.out HZ0.out HZ1.out _ _ _ _ 3 rfl rfl rfl rfl (by rw [HZ2.out]; omega) (by unfold maxLen; omega) (Nat.le_refl _) ?_; intro w1 hown hgr; have O1 : Hid (w1.ownsRow w.heap.size 3 1 (.slice (some ⟨w.heap.size, 0, none⟩) 3 3) 3 (it (grpK s c 0))) := (by rw [show grpK s c 0 = List.replicate 3 0 from rfl, ← made_it]; exact hown); have B1 := below_of_grownBy hgr; clear hown hgr)
 go_loopw [6] (fun i_ wr => ∃ k : Nat, k ≤ c.length ∧ i_ = .int .i64 k ∧ Below w.heap.size w wr ∧ Hid (wr.ownsRow w.heap.size 3 1 (.slice (some ⟨w.heap.size, 0, none⟩) 3 3) 3 (it (grpK s c k)))) (fun i_ _ => c.length - (intOf i_).toNat)
 case atStart => exact ⟨0, Nat.zero_le _, rfl, B1, O1⟩
 case round =>
   clear B1 O1
   obtain ⟨k, hk, rfl, hbl, O⟩ := hrel
   have hc8 := (vLines_all (vCart_pr HOK.out).2).2
   by_cases hlt : k < c.length
   · obtain ⟨h4, h5, h6, h7, h8, h9⟩ := art_in HOK.out hlt
     obtain ⟨b, off, rfl, hb, hcell⟩ := HRC.out (by omega)
     obtain ⟨b2, off2, rfl, hb2, hcell2⟩ := HRS.out (by omega)
     have ga := atOk_pr h9
     obtain ⟨g, hg⟩ := Int.eq_ofNat_of_zero_le ga.2.2.1
     have hg3 : g < 3 := by omega
     have hst := grp_step (c := c) (k := k) hg hg3
     have hbd := cntG_bd HOK.out (g : Int) k hk
     rw [← grp_get s c k hg3] at hbd
     obtain ⟨hx1, hx2⟩ := hbd
     obtain ⟨a, ha⟩ := Int.eq_ofNat_of_zero_le h5
     have haN : (pA c k).toNat = a := by omega
     have g0 := (hbl.cell (p := ⟨b, off + k*2, none⟩) hb).trans (hcell k hlt).1
     have g1 := (hbl.cell (p := ⟨b, off + k*2+1, none⟩) hb).trans (hcell k hlt).2
     rw [haN] at h4 hg
     have g2 := (hbl.cell (p := ⟨b2, off2 + a*4+1, none⟩) hb2).trans (hcell2 a h4).2.1
     rw [ha] at g0
     rw [hg] at g2
     have hbw : b < wr.heap.size := Nat.lt_of_lt_of_le hb hbl.size
     have hbw2 : b2 < wr.heap.size := Nat.lt_of_lt_of_le hb2 hbl.size
     have hgw : w.heap.size < wr.heap.size := (O.out.lt _ rfl).2
     obtain ⟨c0, f0⟩ := owns_at1 O.out g hg3
     have HS1 := Lib.hid hst
     obtain ⟨y, hy⟩ : ∃ y, y = pB c k := ⟨_, rfl⟩
     obtain ⟨x, hx⟩ : ∃ x, x = iG (grpK s c k) g := ⟨_, rfl⟩
     rw [← hy] at g1 HS1 h7 h8
     rw [← hx] at c0 hx1 hx2 HS1
     have e1 : IntKind.i64.wrap (x + y) = x + y := IntWalk.i64_in _ (by omega)
     have ha0 : (0 : Int) ≤ (a : Int) := by omega
     have ha1 : (a : Int) < (s.length : Int) := by omega
     have hg0 : (0 : Int) ≤ (g : Int) := by omega
     have hg1 : (g : Int) < (3 : Int) := by omega
     have hk0 : (0 : Int) ≤ (k : Int) := by omega
     have hk1 : (k : Int) < (c.length : Int) := by omega

     have hne : ¬ b = w.heap.size := by omega
     have hne1 : ¬ b2 = w.heap.size := by omega
     have hne2 : ¬ w.heap.size = wr.heap.size := by omega
     have hne3 : ¬ b = wr.heap.size := by omega
     have hne4 : ¬ b2 = wr.heap.size := by omega
     clear ha haN hcell hcell2 hst hy hx hg h4 h5 h6 h9 ga
     go_wp2
     go_region
     go_wp2
     have o3 := (owns_set1 O.out g (x + y)).1
     rw [HS1.out] at o3
     go_roundw
     case rel => exact ⟨k + 1, by omega, by go_num, (hbl.setCell (Nat.le_refl _) _).drew, o3.drew⟩
     case measure => simp [intOf]; omega
   · obtain rfl : k = c.length := by omega
     go_wp2
     go_ret
     exact ⟨_, rfl, O.out, hbl⟩
end Go.Proofs.YtijofgaekmahkaaGreatDoor
