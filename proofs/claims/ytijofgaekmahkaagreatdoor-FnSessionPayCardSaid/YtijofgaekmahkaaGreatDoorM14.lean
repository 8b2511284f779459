/- Joined texts: Walks: the first number that is not 0, how pairs and rules are compared, pairs in order. Walk: all conflicts, in the program; is a list of rules clear. Conditions: none. -/
import Derived.Test.YtijofgaekmahkaaGreatDoorM13
import Derived.Test.YtijofgaekmahkaaGreatDoorShelf
import Derived.StillTailTactics
import Derived.Lib.OwnBridge
import Derived.Shelf.SlSortCmp.NoneTotal
import Derived.Deep.Cut
namespace Go.Proofs.YtijofgaekmahkaaGreatDoor
open Go.RowKit
def orL : List Int → Int
 | [] => 0
 | x :: t => if x = 0 then orL t else x
theorem orL_zero : ∀ l : List Int, (∀ j, j < l.length → iG l j = 0) → orL l = 0
 | [], _ => rfl
 | x :: t, h => by
   have h0 := h 0 (by simp)
   have : x = 0 := by simpa [iG] using h0
   rw [orL, if_pos this]
   exact orL_zero t fun j hj => by have := h (j + 1) (by simpa using hj); simpa [iG] using this
theorem orL_at : ∀ (l : List Int) (k : Nat), k < l.length → (∀ j, j < k → iG l j = 0) → iG l k ≠ 0 → orL l = iG l k
 | [], k, hk, _, _ => by simp at hk
 | x :: t, 0, _, _, hne => by
   have : x ≠ 0 := by simpa [iG] using hne
   rw [orL, if_neg this]
   simp [iG]
 | x :: t, k + 1, hk, h, hne => by
   have h0 := h 0 (by omega)
   have h1 : x = 0 := by simpa [iG] using h0
   rw [orL, if_pos h1]
   have e : iG (x :: t) (k + 1) = iG t k := by simp [iG]
   rw [e] at hne ⊢
   exact orL_at t k (by simpa using hk) (fun j hj => by have := h (j + 1) (by omega); simpa [iG] using this) hne
set_option maxHeartbeats 1000000 in
theorem or_any (l : List Int) (v : Value) (w : World) (hv : Rd w 1 v l.length (it l)) :
   Calls Tryz.prog 82 #[v] w fun e w' => e = .returned (.int .i64 (orL l)) ∧ w' = w := by
 have hm := hv.len
 unfold maxLen at hm
 obtain ⟨ao, cap, rfl, _, _, hr⟩ := hv.ints
 have HR := Lib.hid hr
 clear hr hv
 go_enter Tryz.func82, Tryz.ntmps82
 go_wp2
 go_loop [8] (fun i => ∃ k : Nat, k ≤ l.length ∧ i = .int .i64 k ∧ Hid (∀ j, j < k → iG l j = 0)) (fun i => l.length - (intOf i).toNat)
 case atStart => exact ⟨0, Nat.zero_le _, rfl, fun j hj => absurd hj (Nat.not_lt_zero _)⟩
 case round =>
   obtain ⟨k, hk, rfl, hall⟩ := hrel
   by_cases hlt : k < l.length
   · obtain ⟨b, off, rfl, hb, hcell⟩ := HR.out (by omega)
     have h0 := hcell k hlt
     clear hcell
     by_cases he : iG l k = 0
     · have heb : (iG l k != 0) = false := by simp [he]
       have HE := Lib.hid he
       clear he
       go_wp2
       go_round
       case rel => exact ⟨k+1, by omega, by go_num, all_snoc hall.out HE.out⟩
       case measure => simp [intOf]; omega
     · have heb : (iG l k != 0) = true := by simp [he]
       have fin := Lib.hid (orL_at l k hlt hall.out he)
       clear he
       go_wp2
       go_ret
       exact ⟨by rw [fin.out] <;> rfl, rfl⟩
   · obtain rfl : k = l.length := by omega
     have fin := Lib.hid (orL_zero l hall.out)
     go_wp2
     go_ret
     exact ⟨by rw [fin.out] <;> rfl, rfl⟩
def cfP (x y : Int × Int) : Int := orL [Lib.compareInt x.1 y.1, Lib.compareInt x.2 y.2]
theorem cmp_lt (x y : Int) : Lib.compareInt x y < 0 ↔ x < y := by unfold Lib.compareInt; split <;> (try split) <;> omega
theorem cmp_zero (x y : Int) : Lib.compareInt x y = 0 ↔ x = y := by unfold Lib.compareInt; split <;> (try split) <;> omega
theorem cfP_lt (x y : Int × Int) : decide (cfP x y < 0) = ltP x y := by
 have h1 := cmp_lt x.1 y.1
 have h2 := cmp_zero x.1 y.1
 have h3 := cmp_lt x.2 y.2
 have h4 := cmp_zero x.2 y.2
 unfold cfP ltP orL orL orL
 split
 · rename_i e
   have e1 := h2.1 e
   rw [if_pos e1]
   split
   · rename_i e2
     have := h4.1 e2
     simp; omega
   · exact decide_eq_decide.2 h3
 · rename_i e
   have e1 : ¬ x.1 = y.1 := fun q => e (h2.2 q)
   rw [if_neg e1]
   exact decide_eq_decide.2 h1
theorem lit2 (W : World) (a b : Int) (t : Nat) : Rd (W.alloc (.cells #[.int .i64 a, .int .i64 b] t)) 1 (.slice (some ⟨W.heap.size, 0, none⟩) 2 2) [a, b].length (it [a, b]) :=
 Rd.of_owns (World.ownsRow_lit (e := t) W #[.int .i64 a, .int .i64 b] 2 (Nat.le_refl W.heap.size) (by unfold maxLen; omega) rfl)
theorem lit3 (W : World) (a b c : Int) (t : Nat) : Rd (W.alloc (.cells #[.int .i64 a, .int .i64 b, .int .i64 c] t)) 1 (.slice (some ⟨W.heap.size, 0, none⟩) 3 3) [a, b, c].length (it [a, b, c]) :=
 Rd.of_owns (World.ownsRow_lit (e := t) W #[.int .i64 a, .int .i64 b, .int .i64 c] 3 (Nat.le_refl W.heap.size) (by unfold maxLen; omega) rfl)
set_option maxHeartbeats 2000000 in
set_option maxRecDepth 100000 in
theorem closureP (x y : Int × Int) (g1 g2 : Nat) (W : World) (h1 : W.heap[g1]? = some (.cells #[.int .i64 x.1, .int .i64 x.2] 3 (0, 0))) (h2 : W.heap[g2]? = some (.cells #[.int .i64 y.1, .int .i64 y.2] 3 (0, 0))) :
   Calls Tryz.prog 81 #[.slice (some ⟨g1, 0, none⟩) 2 2, .slice (some ⟨g2, 0, none⟩) 2 2] W fun e w' => e = .returned (.int .i64 (cfP x y)) ∧ ∃ q os, w' = Sort.grow (W.drewN q) os := by
 obtain ⟨⟨c0, c1⟩, _⟩ := row2 h1
 obtain ⟨⟨d0, d1⟩, _⟩ := row2 h2
 have l1 := (Array.getElem?_eq_some_iff.1 h1).1
 have l2 := (Array.getElem?_eq_some_iff.1 h2).1
 have K1 := Tryz.cmp_Compare_int x.1 y.1 W.drew
 have K2 := Tryz.cmp_Compare_int x.2 y.2 W.drew
 change Calls Tryz.prog 83 _ _ _ at K1 K2
 have fin : Hid (cfP x y = orL [Lib.compareInt x.1 y.1, Lib.compareInt x.2 y.2]) := rfl
 generalize Lib.compareInt x.1 y.1 = a at K1 fin
 generalize Lib.compareInt x.2 y.2 = b at K2 fin
 clear h1 h2
 go_enter Tryz.func81, Tryz.ntmps81
 go_wp2
 go_still_tail 14, (by kernel_rfl)
 still_call K1
 repeat still_step
 still_call K2
 repeat still_step
 try refine wpStill_nil ?_
 change wpList _ _ _ _ _ W.drew
 go_wp2_with fail
 refine (or_any [a, b] _ _ (lit2 W.drew a b 3)).mono ?_
 rintro e w9 ⟨rfl, h9⟩
 replace h9 := h9.symm
 subst h9
 rw [← fin.out]
 go_wp2
 go_ret
 exact ⟨rfl, 1, #[.cells #[.int .i64 a, .int .i64 b] 3], by rw [← Sort.alloc_eq_grow]; rfl⟩
theorem sw_heap {α : Type} [Inhabited α] (enc : α → Value) (W : World) (g m k : Nat) (d : Array α) (os : Array Obj) (hne : k ≠ g) (hk : k < W.heap.size) : (sortWorld enc W g 0 m d os).heap[k]? = W.heap[k]? := by
 unfold sortWorld
 rw [Sort.heap_grow_old _ _ (by simp; exact hk)]
 simp [Sort.putRow, Sort.mapBlock, Sort.ahead, Array.getElem?_modify, Ne.symm hne]
theorem sw_below {α : Type} [Inhabited α] (enc : α → Value) {B : Nat} {w W : World} (g m : Nat) (d : Array α) (os : Array Obj) (h : Below B w W) (hg : B ≤ g) (hB : B ≤ W.heap.size) : Below B w (sortWorld enc W g 0 m d os) := by
 have h1 := Lib.below_putRow (enc := enc) (q := m) (d := d) h hg
 unfold sortWorld
 refine ⟨h1.os, h1.tape, h1.output, Nat.le_trans h1.size (by simp), fun k hk => ?_⟩
 rw [Sort.heap_grow_old _ _ (by simp; omega)]
 exact h1.block k hk
theorem get_all {α β : Type} (L : List α) (f : α → β) : (List.finRange L.length).map (fun i => f (L.get i)) = L.map f := by
 apply List.ext_getElem
 · simp
 · intro i h1 h2
   simp
theorem nd_inj {α : Type} {l : List α} (h : l.Nodup) {i j : Nat} {hi : i < l.length} {hj : j < l.length} (e : l[i] = l[j]) : i = j := by
 rcases Nat.lt_trichotomy i j with c | c | c
 · exact absurd e (List.pairwise_iff_getElem.1 h i j hi hj c)
 · exact c
 · exact absurd e.symm (List.pairwise_iff_getElem.1 h j i hj hi c)
theorem sortPairs_any (base : Nat) (W : World) (o : Value) (L : List Px) (h : PxAt base W o L) (hnd : (L.map Px.p).Nodup) (hb : base ≤ W.heap.size) (hlen : L.length ≤ 1000000) :
   Calls Tryz.prog 80 #[o, .func (.func 81) #[] #[]] W fun e w' => e = .returned (.tuple #[]) ∧ ∃ L' : List Px, L'.Perm L ∧ (L'.map Px.p).Pairwise (fun x y => ltP y x = false) ∧ PxAt base w' o L' ∧ Below base W w' := by
 by_cases hn : L = []
 · subst hn
   obtain ⟨ao, cap, rfl, _⟩ := owns_shape h.own
   have K := Tryz.slices_SortFunc_none (α := Nat) ao cap (.func (.func 81) #[] #[]) W
   refine K.mono ?_
   rintro e w' ⟨rfl, rfl⟩
   exact ⟨rfl, [], List.Perm.refl _, .nil, h, Below.refl _ _⟩
 · have hpos : 0 < L.length := List.length_pos_iff.2 hn
   haveI : Inhabited (Fin L.length) := ⟨⟨0, hpos⟩⟩
   have hz : (List.finRange L.length).length = L.length := List.length_finRange
   have own : W.ownsRow base 34 1 o L.length ((List.finRange L.length).map fun i => (L.get i).u) := by
     rw [get_all L Px.u]
     exact h.own
   have hv : o ≠ .slice none 0 0 := by
     rintro rfl
     obtain ⟨ao, cap, e, _⟩ := owns_shape h.own
     have : (0 : Nat) = L.length := by injection e
     omega
   obtain ⟨g, cap, rfl, hbg, hlt, hle, hmx, _, hH⟩ := Lib.holds_of_ownsRow own hv
   have hblk : ∀ i : Fin L.length, ∃ q, (L.get i).u = .slice (some ⟨q, 0, none⟩) 2 2 ∧ q ≠ g ∧ W.heap[q]? = some (.cells #[.int .i64 (L.get i).p.1, .int .i64 (L.get i).p.2] 3 (0, 0)) := fun i => by
     obtain ⟨q, h1, _, h3⟩ := h.pr _ (List.get_mem L i)
     exact ⟨q, h1, fun e => owns_ne_ty h.own h3 ne_ii g rfl e.symm, h3⟩
   have hlt2 : ∀ x y : Fin L.length, Go.Proofs.ltOf (fun i j : Fin L.length => cfP (L.get i).p (L.get j).p) x y = ltP (L.get x).p (L.get y).p := fun x y => cfP_lt _ _
   have K := Tryz.slices_SortFunc_total (α := Fin L.length) (fun i => (L.get i).u) (fun i => by obtain ⟨q, e, _⟩ := hblk i; show ((L.get i).u).oneCell' = true; rw [e]; rfl) (fun i j => cfP (L.get i).p (L.get j).p)
     ⟨fun x => by rw [hlt2, ltP_no]; omega, fun x y z h1 h2 => by rw [hlt2, ltP_iff] at *; omega, fun x y z h1 h2 => by rw [hlt2, ltP_no] at *; omega⟩
     81 #[] g 0 cap (List.finRange L.length).toArray W (enters_of Tryz.func81 (by kernel_rfl) rfl)
     (fun m os dk _ x y => by
       obtain ⟨q1, e1, n1, b1⟩ := hblk x
       obtain ⟨q2, e2, n2, b2⟩ := hblk y
       have c := closureP (L.get x).p (L.get y).p q1 q2 (sortWorld (fun i : Fin L.length => (L.get i).u) W g 0 m dk os)
         ((sw_heap _ W g m q1 dk os n1 (Array.getElem?_eq_some_iff.1 b1).1).trans b1) ((sw_heap _ W g m q2 dk os n2 (Array.getElem?_eq_some_iff.1 b2).1).trans b2)
       show Calls Tryz.prog _ (#[(L.get x).u, (L.get y).u] ++ #[]) _ _
       rw [e1, e2]
       exact c)
     hH hlt (by simp; omega)
     (fun x y h1 h2 => by
       rw [hlt2, ltP_no] at h1 h2
       have e : (L.get x).p = (L.get y).p := Prod.ext (by omega) (by omega)
       have hx : (L.map Px.p)[x.val]'(by simp) = (L.map Px.p)[y.val]'(by simp) := by simpa using e
       exact Fin.ext (nd_inj hnd hx))
   have hsz : (List.finRange L.length).toArray.size = L.length := by simp
   rw [hsz] at K
   refine K.mono ?_
   rintro e w' ⟨rfl, m, os, rfl⟩
   obtain ⟨ys, hys⟩ : ∃ ys : List (Fin L.length), ys = ((List.finRange L.length).toArray.toList.mergeSort fun x y => !(Go.Proofs.ltOf (fun i j : Fin L.length => cfP (L.get i).p (L.get j).p)) y x) := ⟨_, rfl⟩
   rw [← hys]
   have hperm : ys.Perm (List.finRange L.length) := by rw [hys]; exact List.mergeSort_perm _ _
   have hsort : ys.Pairwise fun x y => ltP (L.get y).p (L.get x).p = false := by
     rw [hys]
     refine (List.pairwise_mergeSort (le := fun x y => !(Go.Proofs.ltOf (fun i j : Fin L.length => cfP (L.get i).p (L.get j).p)) y x) ?_ ?_ _).imp ?_
     · intro a b c h1 h2
       simp only [hlt2, Bool.not_eq_true', ltP_no] at *
       omega
     · intro a b
       simp only [hlt2]
       cases h1 : ltP (L.get b).p (L.get a).p
       · rfl
       · cases h2 : ltP (L.get a).p (L.get b).p
         · rfl
         · rw [ltP_iff] at h1 h2; omega
     · intro a b h1
       simpa only [hlt2, Bool.not_eq_true'] using h1
   have hyl : ys.length = L.length := by rw [hperm.length_eq, hz]
   have o2 := Lib.ownsRow_putRow (q := m) (ys := ys) (k := L.length) own hyl (Nat.le_refl _)
   rw [List.take_of_length_le (by omega)] at o2
   refine ⟨rfl, ys.map L.get, ?_, ?_, ⟨?_, ?_⟩, sw_below _ g m _ os (Below.refl _ _) hbg hb⟩
   · have := hperm.map L.get
     have e : (List.finRange L.length).map L.get = L := (get_all L id).trans (List.map_id L)
     rw [e] at this
     exact this
   · rw [List.map_map]
     exact List.pairwise_map.2 hsort
   · rw [List.length_map, hyl, List.map_map]
     have b2 : Below (Sort.putRow (fun i : Fin L.length => (L.get i).u) (Sort.ahead W m) g 0 ys.toArray).heap.size (Sort.putRow (fun i : Fin L.length => (L.get i).u) (Sort.ahead W m) g 0 ys.toArray) (sortWorld (fun i : Fin L.length => (L.get i).u) W g 0 m ys.toArray os) :=
       ⟨rfl, rfl, rfl, by unfold sortWorld; simp, fun k hk => Sort.heap_grow_old _ _ hk⟩
     exact ownsRow_below o2 b2 (Nat.le_refl _)
   · intro x hx
     obtain ⟨i, _, rfl⟩ := List.mem_map.1 hx
     obtain ⟨q, h1, h2, h3⟩ := h.pr _ (List.get_mem L i)
     exact ⟨q, h1, h2, (sw_heap _ W g m q _ os (fun e => owns_ne_ty h.own h3 ne_ii g rfl e.symm) (Array.getElem?_eq_some_iff.1 h3).1).trans h3⟩
end Go.Proofs.YtijofgaekmahkaaGreatDoor

namespace Go.Proofs.YtijofgaekmahkaaGreatDoor
open Go.RowKit
theorem fnd_yes {l : List Rx} {k j : Nat} {x y : Rx} (hx : x = xT l k) (hy : y = xT l j) (h1 : rcfQ x.r y.r = true) (h2 : x.r.num < y.r.num) : fndB (rls l) k (j + 1) = fndB (rls l) k j ++ [(x.r.num, y.r.num)] := by
 have e : ¬ x.r.num = y.r.num := by omega
 rw [rcf_ne e] at h1
 subst hx; subst hy
 rw [← rls_at, ← rls_at] at h1 h2 ⊢
 rw [fndB, if_pos ⟨h1, h2⟩]
theorem fnd_no {l : List Rx} {k j : Nat} {x y : Rx} (hx : x = xT l k) (hy : y = xT l j) (h : rcfQ x.r y.r = false ∨ ¬ x.r.num < y.r.num) : fndB (rls l) k (j + 1) = fndB (rls l) k j := by
 have hn : ¬ (cnfQ x.r y.r = true ∧ x.r.num < y.r.num) := fun ⟨h1, h2⟩ => by
   have e : ¬ x.r.num = y.r.num := by omega
   rw [rcf_ne e] at h
   rcases h with h | h
   · rw [h] at h1; exact Bool.noConfusion h1
   · exact h h2
 subst hx; subst hy
 rw [← rls_at, ← rls_at] at hn
 rw [fndB, if_neg hn, List.append_nil]
theorem fndB_len (l : List Rl) (i : Nat) : ∀ k, (fndB l i k).length ≤ k
 | 0 => by simp [fndB]
 | k + 1 => by
   have := fndB_len l i k
   unfold fndB
   rw [List.length_append]
   split <;> simp <;> omega
theorem box_at {W : World} {g : Nat} {r : Rl} {v : Value} {t : TypeId} (h : W.heap[g]? = some (.cells (ruL r v).toArray t (0, 0))) : RuAt W g r v :=
 ⟨(Array.getElem?_eq_some_iff.1 h).1, fun i u hu => by rw [cell_of_row _ _ i _ _ _ h]; simpa using hu⟩
theorem ne_ri : (43 : Nat) ≠ 34 := by decide
set_option maxHeartbeats 16000000 in
set_option maxRecDepth 100000 in
theorem allConf_any (l : List Rx) (v : Value) (w : World) (hv : RdR w v l) (hrs : okRs (rls l) = true) :
   Calls Tryz.prog 42 #[v] w fun e w' => ∃ (o : Value) (L : List Px), e = .returned o ∧ L.map Px.p = cnfL (rls l) ∧ PxAt w.heap.size w' o L ∧ Below w.heap.size w w' := by
 have HV := Lib.hid hv
 have hok : ∀ x ∈ l, okRu x.r = true := fun x hx => okRs_mem hrs x.r (List.mem_map.2 ⟨x, hx, rfl⟩)
 have HK := Lib.hid hok
 have HRS := Lib.hid hrs
 have hsix : l.length ≤ 6 := by have := (okRs_pr hrs).2.2; rw [rls_len] at this; exact this
 obtain ⟨ao, cap, rfl, hcap, _, hr⟩ := hv.open
 have HR := Lib.hid hr
 clear hr hv hok hrs
 obtain ⟨i0, hi, hz0, hz1, hz2⟩ := info_parts Tryz.info34z
 have HI := Lib.hid hi
 have HZ0 := Lib.hid hz0
 have HZ1 := Lib.hid hz1
 have HZ2 := Lib.hid hz2
 clear hi hz0 hz1 hz2
 have O0 := Lib.hid (World.ownsRow_made w #[] 0 (Nat.le_refl _) (by simp) (by simp) : (w.alloc (.cells #[] 34)).ownsRow w.heap.size 34 1 (.slice (some ⟨w.heap.size, 0, none⟩) 0 0) 0 [])
 have B0 : Below w.heap.size w (w.alloc (.cells #[] 34)) := (Below.refl _ w).alloc (Nat.le_refl _) _
 have HB0 := Lib.hid B0
 clear B0
 go_enter Tryz.func42, Tryz.ntmps42
 go_wp2_with (go_at_call 34; refine (implRules_any l _ _ (HV.out.below HB0.out (Nat.le_refl _)) HK.out).mono ?_; rintro e w1 ⟨rfl, x1⟩; rw [HRS.out]; have B1 := HB0.out.trans (x1.mono HB0.out.size); have P1 := Lib.hid (⟨ownsRow_below O0.out x1 (Nat.le_refl _), fun x hx => by cases hx⟩ : PxAt w.heap.size w1 (.slice (some ⟨w.heap.size, 0, none⟩) 0 0) []); clear x1)
 go_loopw [3, 17] (fun o_ i_ wr => ∃ (k : Nat) (L : List Px), k ≤ l.length ∧ i_ = .int .i64 k ∧ Hid (L.map Px.p = fndA (rls l) k) ∧ Hid (PxAt w.heap.size wr o_ L) ∧ Below w.heap.size w wr) (fun _ i_ _ => l.length - (intOf i_).toNat)
 case atStart => exact ⟨0, [], Nat.zero_le _, rfl, rfl, P1, B1⟩
 case round =>
   clear P1 B1
   obtain ⟨k, L, hk, rfl, HL, PL, hbl⟩ := hrel
   obtain ⟨so, scap, hso, _⟩ := owns_shape PL.out.own
   subst hso
   by_cases hlt : k < l.length
   · obtain ⟨b, off, rfl, hb, hcell⟩ := HR.out (by omega)
     have HC := Lib.hid hcell
     have fk := hcell k hlt
     have hx := xT_mem hlt
     have hpx := HV.out.2 _ hx
     have hkx := HK.out _ hx
     obtain ⟨po, pcap, hpe, _⟩ := hpx.pairs
     obtain ⟨x, hxe⟩ : ∃ x, x = xT l k := ⟨_, rfl⟩
     rw [← hxe] at fk hpx hkx hpe
     rw [hpe] at fk hpx
     have KX := Lib.hid hkx
     have HPX := Lib.hid hpx
     have HXE := Lib.hid hxe
     have hbw : b < wr.heap.size := Nat.lt_of_lt_of_le hb hbl.size
     have hk0 : (0 : Int) ≤ (k : Int) := by omega
     have hk1 : (k : Int) ≤ (cap : Int) := by omega
     have c0 := (hbl.cell (p := ⟨b, off + k*11, none⟩) hb).trans (fk 0 _ rfl)
     have c1 := (hbl.cell (p := ⟨b, off + k*11+1, none⟩) hb).trans (fk 1 _ rfl)
     have c2 := (hbl.cell (p := ⟨b, off + k*11+2, none⟩) hb).trans (fk 2 _ rfl)
     have c3 := (hbl.cell (p := ⟨b, off + k*11+3, none⟩) hb).trans (fk 3 _ rfl)
     have c4 := (hbl.cell (p := ⟨b, off + k*11+4, none⟩) hb).trans (fk 4 _ rfl)
     have c5 := (hbl.cell (p := ⟨b, off + k*11+5, none⟩) hb).trans (fk 5 _ rfl)
     have c6 := (hbl.cell (p := ⟨b, off + k*11+6, none⟩) hb).trans (fk 6 _ rfl)
     have c7 := (hbl.cell (p := ⟨b, off + k*11+7, none⟩) hb).trans (fk 7 _ rfl)
     have c8 := (hbl.cell (p := ⟨b, off + k*11+8, none⟩) hb).trans (fk 8 _ rfl)
     have c9 := (hbl.cell (p := ⟨b, off + k*11+9, none⟩) hb).trans (fk 9 _ rfl)
     have c10 := (hbl.cell (p := ⟨b, off + k*11+10, none⟩) hb).trans (fk 10 _ rfl)
     have a1 : (wr.alloc (.cells #[.int .i64 x.r.num, .int .i64 x.r.lvl, .int .i64 x.r.rank, .int .i64 x.r.group, .int .i64 x.r.kind, .int .i64 x.r.value, .int .i64 x.r.cap, .int .i64 x.r.lo, .int .i64 x.r.hi, .slice po x.r.counts.length pcap, .int .i64 x.r.coupon] 43)).heap[wr.heap.size]? = some (.cells #[.int .i64 x.r.num, .int .i64 x.r.lvl, .int .i64 x.r.rank, .int .i64 x.r.group, .int .i64 x.r.kind, .int .i64 x.r.value, .int .i64 x.r.cap, .int .i64 x.r.lo, .int .i64 x.r.hi, .slice po x.r.counts.length pcap, .int .i64 x.r.coupon] 43 (0, 0)) := heap_alloc_new wr _
     have hb2 := hbl.alloc hbl.size (.cells #[.int .i64 x.r.num, .int .i64 x.r.lvl, .int .i64 x.r.rank, .int .i64 x.r.group, .int .i64 x.r.kind, .int .i64 x.r.value, .int .i64 x.r.cap, .int .i64 x.r.lo, .int .i64 x.r.hi, .slice po x.r.counts.length pcap, .int .i64 x.r.coupon] 43)
     have p2 := PL.out.below ((Below.refl _ wr).alloc (Nat.le_refl _) (.cells #[.int .i64 x.r.num, .int .i64 x.r.lvl, .int .i64 x.r.rank, .int .i64 x.r.group, .int .i64 x.r.kind, .int .i64 x.r.value, .int .i64 x.r.cap, .int .i64 x.r.lo, .int .i64 x.r.hi, .slice po x.r.counts.length pcap, .int .i64 x.r.coupon] 43)) (Nat.le_refl _)
     obtain ⟨W, hW⟩ : ∃ W, W = wr.alloc (.cells #[.int .i64 x.r.num, .int .i64 x.r.lvl, .int .i64 x.r.rank, .int .i64 x.r.group, .int .i64 x.r.kind, .int .i64 x.r.value, .int .i64 x.r.cap, .int .i64 x.r.lo, .int .i64 x.r.hi, .slice po x.r.counts.length pcap, .int .i64 x.r.coupon] 43) := ⟨_, rfl⟩
     rw [← hW] at a1 hb2 p2
     have HW := Lib.hid hW
     have A1 := Lib.hid a1
     have HB2 := Lib.hid hb2
     have P2 := Lib.hid p2
     clear hcell hx hpx hkx hpe hxe fk a1 hb2 hW p2 hbl PL
     go_upto_region 7 with fail
     rw [← HW.out]
     clear HW c0 c1 c2 c3 c4 c5 c6 c7 c8 c9 c10
     go_wp2
     go_loopw [3, 23] (fun o_ j_ w2 => ∃ (j : Nat) (L : List Px), j ≤ l.length ∧ j_ = .int .i64 j ∧ Hid (L.map Px.p = fndA (rls l) k ++ fndB (rls l) k j) ∧ Hid (PxAt w.heap.size w2 o_ L) ∧ Below w.heap.size w w2 ∧ Hid (w2.heap[wr.heap.size]? = some (.cells #[.int .i64 x.r.num, .int .i64 x.r.lvl, .int .i64 x.r.rank, .int .i64 x.r.group, .int .i64 x.r.kind, .int .i64 x.r.value, .int .i64 x.r.cap, .int .i64 x.r.lo, .int .i64 x.r.hi, .slice po x.r.counts.length pcap, .int .i64 x.r.coupon] 43 (0, 0)))) (fun _ j_ _ => l.length - (intOf j_).toNat)
     case atStart => exact ⟨0, L, Nat.zero_le _, rfl, by rw [Hid, HL.out]; simp [fndB], P2, HB2.out, A1⟩
     case round =>
       clear HL P2 HB2 A1
       obtain ⟨j, L, hj, rfl, HL, PL, hbl, A1⟩ := hrel
       obtain ⟨so, scap, hso, _⟩ := owns_shape PL.out.own
       subst hso
       by_cases hjl : j < l.length
       · have hlen : L.length ≤ 100 := by
           have h1 := congrArg List.length HL.out
           rw [List.length_map, List.length_append] at h1
           have h2 := fnd_len (rls l) k
           have h3 := fndB_len (rls l) k j
           rw [rls_len] at h2
           have h4 := Nat.mul_le_mul (Nat.le_of_lt hlt) hsix
           omega
         have fj := HC.out j hjl
         obtain ⟨y, hye⟩ : ∃ y, y = xT l j := ⟨_, rfl⟩
         have hpy := HV.out.2 _ (xT_mem hjl)
         have hky := HK.out _ (xT_mem hjl)
         obtain ⟨qo, qcap, hqe, _⟩ := hpy.pairs
         rw [← hye] at fj hqe hpy hky
         rw [hqe] at fj hpy
         have KY := Lib.hid hky
         have HPY := Lib.hid hpy
         have HYE := Lib.hid hye
         have hbw2 : b < wr.heap.size := Nat.lt_of_lt_of_le hb hbl.size
         have hj0 : (0 : Int) ≤ (j : Int) := by omega
         have hj1 : (j : Int) ≤ (cap : Int) := by omega
         have c0 := (hbl.cell (p := ⟨b, off + j*11, none⟩) hb).trans (fj 0 _ rfl)
         have c1 := (hbl.cell (p := ⟨b, off + j*11+1, none⟩) hb).trans (fj 1 _ rfl)
         have c2 := (hbl.cell (p := ⟨b, off + j*11+2, none⟩) hb).trans (fj 2 _ rfl)
         have c3 := (hbl.cell (p := ⟨b, off + j*11+3, none⟩) hb).trans (fj 3 _ rfl)
         have c4 := (hbl.cell (p := ⟨b, off + j*11+4, none⟩) hb).trans (fj 4 _ rfl)
         have c5 := (hbl.cell (p := ⟨b, off + j*11+5, none⟩) hb).trans (fj 5 _ rfl)
         have c6 := (hbl.cell (p := ⟨b, off + j*11+6, none⟩) hb).trans (fj 6 _ rfl)
         have c7 := (hbl.cell (p := ⟨b, off + j*11+7, none⟩) hb).trans (fj 7 _ rfl)
         have c8 := (hbl.cell (p := ⟨b, off + j*11+8, none⟩) hb).trans (fj 8 _ rfl)
         have c9 := (hbl.cell (p := ⟨b, off + j*11+9, none⟩) hb).trans (fj 9 _ rfl)
         have c10 := (hbl.cell (p := ⟨b, off + j*11+10, none⟩) hb).trans (fj 10 _ rfl)
         have d1 : (wr.alloc (.cells #[.int .i64 y.r.num, .int .i64 y.r.lvl, .int .i64 y.r.rank, .int .i64 y.r.group, .int .i64 y.r.kind, .int .i64 y.r.value, .int .i64 y.r.cap, .int .i64 y.r.lo, .int .i64 y.r.hi, .slice qo y.r.counts.length qcap, .int .i64 y.r.coupon] 43)).heap[wr.heap.size]? = some (.cells #[.int .i64 y.r.num, .int .i64 y.r.lvl, .int .i64 y.r.rank, .int .i64 y.r.group, .int .i64 y.r.kind, .int .i64 y.r.value, .int .i64 y.r.cap, .int .i64 y.r.lo, .int .i64 y.r.hi, .slice qo y.r.counts.length qcap, .int .i64 y.r.coupon] 43 (0, 0)) := heap_alloc_new wr _
         have a1 := heap_keep (x := (.cells #[.int .i64 y.r.num, .int .i64 y.r.lvl, .int .i64 y.r.rank, .int .i64 y.r.group, .int .i64 y.r.kind, .int .i64 y.r.value, .int .i64 y.r.cap, .int .i64 y.r.lo, .int .i64 y.r.hi, .slice qo y.r.counts.length qcap, .int .i64 y.r.coupon] 43)) A1.out
         have hb2 := hbl.alloc hbl.size (.cells #[.int .i64 y.r.num, .int .i64 y.r.lvl, .int .i64 y.r.rank, .int .i64 y.r.group, .int .i64 y.r.kind, .int .i64 y.r.value, .int .i64 y.r.cap, .int .i64 y.r.lo, .int .i64 y.r.hi, .slice qo y.r.counts.length qcap, .int .i64 y.r.coupon] 43)
         have p2 := PL.out.below ((Below.refl _ wr).alloc (Nat.le_refl _) (.cells #[.int .i64 y.r.num, .int .i64 y.r.lvl, .int .i64 y.r.rank, .int .i64 y.r.group, .int .i64 y.r.kind, .int .i64 y.r.value, .int .i64 y.r.cap, .int .i64 y.r.lo, .int .i64 y.r.hi, .slice qo y.r.counts.length qcap, .int .i64 y.r.coupon] 43)) (Nat.le_refl _)
         obtain ⟨W, hW⟩ : ∃ W, W = wr.alloc (.cells #[.int .i64 y.r.num, .int .i64 y.r.lvl, .int .i64 y.r.rank, .int .i64 y.r.group, .int .i64 y.r.kind, .int .i64 y.r.value, .int .i64 y.r.cap, .int .i64 y.r.lo, .int .i64 y.r.hi, .slice qo y.r.counts.length qcap, .int .i64 y.r.coupon] 43) := ⟨_, rfl⟩
         rw [← hW] at d1 a1 hb2 p2
         have HW := Lib.hid hW
         have D1 := Lib.hid d1
         have A2 := Lib.hid a1
         have HB2 := Lib.hid hb2
         have P2 := Lib.hid p2
         clear hpy hky hqe hye fj d1 a1 hb2 hW p2 hbl PL A1
         go_upto_region 10 with fail
         rw [← HW.out]
         clear HW c0 c1 c2 c3 c4 c5 c6 c7 c8 c9 c10
         have bx := box_at (r := x.r) (v := .slice po x.r.counts.length pcap) A2.out
         have bz := box_at (r := y.r) (v := .slice qo y.r.counts.length qcap) D1.out
         have c0 := bx.c0
         have d0 := bz.c0
         have c1 := bx.c1
         have d1 := bz.c1
         have c2 := bx.c2
         have d2 := bz.c2
         have c3 := bx.c3
         have d3 := bz.c3
         have c4 := bx.c4
         have d4 := bz.c4
         have c5 := bx.c5
         have d5 := bz.c5
         have c6 := bx.c6
         have d6 := bz.c6
         have c7 := bx.c7
         have d7 := bz.c7
         have c8 := bx.c8
         have d8 := bz.c8
         have c9 := bx.c9
         have d9 := bz.c9
         have c10 := bx.c10
         have d10 := bz.c10
         clear bx bz
         go_upto_region 11 with (go_at_call 79; refine (rulesConflict_any x.r y.r _ _ _ (HPX.out.below HB2.out (Nat.le_refl _)) (HPY.out.below HB2.out (Nat.le_refl _)) KX.out KY.out).mono ?_; rintro e w3 ⟨t9, ya, yn, yc, za, zn, zc, rfl, x3⟩; have B3 := Lib.hid ((HB2.out.trans (x3.mono HB2.out.size)).alloc (HB2.out.trans (x3.mono HB2.out.size)).size (.cells #[.int .i64 t9, .slice ya yn yc, .slice za zn zc] 110)); have X4 := Lib.hid (x3.alloc x3.size (.cells #[.int .i64 t9, .slice ya yn yc, .slice za zn zc] 110)))
         have HX4 := Lib.hid (show Below W.heap.size W (w3.alloc (.cells #[.int .i64 t9, .slice ya yn yc, .slice za zn zc] 110)) from X4.out)
         obtain ⟨W3, hW3⟩ : ∃ W3, W3 = w3.alloc (.cells #[.int .i64 t9, .slice ya yn yc, .slice za zn zc] 110) := ⟨_, rfl⟩
         rw [← hW3] at HX4 B3
         clear X4
         rw [← hW3]
         have HW3 := Lib.hid hW3
         have A3 := Lib.hid ((HX4.out.block _ (Array.getElem?_eq_some_iff.1 A2.out).1).trans A2.out)
         have D3 := Lib.hid ((HX4.out.block _ (Array.getElem?_eq_some_iff.1 D1.out).1).trans D1.out)
         have P3 := Lib.hid (P2.out.below HX4.out (Nat.le_refl _))
         clear hW3 P2 HB2 A2 D1 c0 d0 c1 d1 c2 d2 c3 d3 c4 d4 c5 d5 c6 d6 c7 d7 c8 d8 c9 d9 c10 d10
         have c0 := (box_at (r := x.r) (v := .slice po x.r.counts.length pcap) A3.out).c0
         have d0 := (box_at (r := y.r) (v := .slice qo y.r.counts.length qcap) D3.out).c0
         cases hq : rcfQ x.r y.r
         · have fin := Lib.hid (fnd_no HXE.out HYE.out (.inl hq))
           clear hq
           go_wp2
           go_roundw
           case rel => exact ⟨j + 1, L, by omega, by go_num, by rw [Hid, fin.out]; exact HL.out, P3, B3.out, A3⟩
           case measure => simp [intOf]; omega
         · by_cases hn : x.r.num < y.r.num
           · have fin := Lib.hid (fnd_yes HXE.out HYE.out hq hn)
             clear hq
             have hle2 : decide (x.r.num < y.r.num) = true := by simp [hn]
             go_wp2_with (at_builtin; refine app_val rfl (.tmp 41) (.tmp 47) 84 rfl w.heap.size 34 i0 _ 24 Tryz.underlying84 HI.out HZ0.out HZ1.out HZ2.out (by omega) rfl _ L.length (L.map Px.u) (.slice (some ⟨W3.heap.size, 0, none⟩) 2 2) rfl rfl ((P3.out.own.alloc (.cells #[.int .i64 x.r.num, .int .i64 y.r.num] 3)).alloc _) (W3.heap.size + 1) rfl (by have h9 := cell_of_row _ _ 0 _ _ _ (heap_alloc_new (W3.alloc (.cells #[.int .i64 x.r.num, .int .i64 y.r.num] 3)) (.cells #[.slice (some ⟨W3.heap.size, 0, none⟩) 2 2] 34)); rw [World.size_alloc] at h9; exact h9) (by omega) (by simp; have := B3.out.size; omega) ?_; intro v' W1 h1 h2 h3; have AA : Below W3.heap.size W3 ((W3.alloc (.cells #[.int .i64 x.r.num, .int .i64 y.r.num] 3)).alloc (.cells #[.slice (some ⟨W3.heap.size, 0, none⟩) 2 2] 34)) := ((Below.refl _ _).alloc (Nat.le_refl _) _).alloc (by simp) _; have P4 := Lib.hid ((P3.out.below AA (Nat.le_refl _)).app (x := ⟨(x.r.num, y.r.num), .slice (some ⟨W3.heap.size, 0, none⟩) 2 2⟩) h2 h1 ⟨W3.heap.size, rfl, B3.out.size, heap_keep (heap_alloc_new W3 _)⟩); have A4 := Lib.hid (grown_blk ((P3.out.below AA (Nat.le_refl _)).own) h2 ((AA.block _ (Array.getElem?_eq_some_iff.1 A3.out).1).trans A3.out) ne_ri); have B4 := Lib.hid (below_row (B3.out.trans (AA.mono B3.out.size)) h2 (fun q hq => (P3.out.own.lt q hq).1)); clear h1 h2 h3 AA)
             go_roundw
             case rel => exact ⟨j + 1, _, by omega, by go_num, by rw [Hid, fin.out, List.map_append, HL.out, List.append_assoc]; rfl, P4, B4.out, A4⟩
             case measure => simp [intOf]; omega
           · have fin := Lib.hid (fnd_no HXE.out HYE.out (.inr hn))
             clear hq
             have hle2 : decide (x.r.num < y.r.num) = false := by simp [hn]
             go_wp2
             go_roundw
             case rel => exact ⟨j + 1, L, by omega, by go_num, by rw [Hid, fin.out]; exact HL.out, P3, B3.out, A3⟩
             case measure => simp [intOf]; omega
       · have hj2 : j = l.length := by omega
         have HJ := Lib.hid hj2
         have hle2 : decide ((j : Int) < (l.length : Int)) = false := by simp; omega
         clear hj2
         go_wp2
         go_roundw
         case rel => exact ⟨k + 1, L, by omega, by go_num, by rw [Hid, HL.out, HJ.out, fndA, rls_len], PL, hbl⟩
         case measure => simp [intOf]; omega
   · have hk9 : k = l.length := by omega
     have hle : decide ((k : Int) < (l.length : Int)) = false := by simp; omega
     have HL2 : Hid (L.map Px.p = fndA (rls l) (rls l).length) := by rw [Hid, HL.out, hk9, rls_len]
     have hnd : (L.map Px.p).Nodup := by rw [HL2.out]; exact fndA_nodup HRS.out _ (Nat.le_refl _)
     have hlen : L.length ≤ 1000000 := by
       have h1 := congrArg List.length HL2.out
       rw [List.length_map] at h1
       have h2 := fnd_len (rls l) (rls l).length
       rw [rls_len] at h1 h2
       have h4 := Nat.mul_le_mul hsix hsix
       omega
     have HND := Lib.hid hnd
     have HLE := Lib.hid hlen
     clear hnd hlen hk9
     go_wp2_with (go_at_call 80; refine (sortPairs_any w.heap.size _ _ L PL.out HND.out hbl.size HLE.out).mono ?_; rintro e w3 ⟨rfl, L2, hp2, hs2, p2, x2⟩; have fin := Lib.hid (sorted_cnfL HRS.out (m := L2.map Px.p) (by rw [← HL2.out]; exact hp2.map _) hs2); have P9 := Lib.hid p2; have B9 := Lib.hid (hbl.trans x2); clear hp2 hs2 p2 x2)
     go_ret
     exact ⟨_, L2, rfl, fin.out, P9.out, B9.out⟩
end Go.Proofs.YtijofgaekmahkaaGreatDoor
