/- Joined texts: Walks: do two guards meet, both ways. Walks: an amount that is split, in the program. Walks: totals; amounts less what a rule gives; the notes of a rule, in the reference. Conditions: none. -/
import Derived.Test.YtijofgaekmahkaaGreatDoorM09
import Derived.RegionTactic
import Derived.Deep.Cut
import Derived.Deep.RegionLaw
namespace Go.Proofs.YtijofgaekmahkaaGreatDoor
open Go.RowKit
theorem app_one {P : Program} {w : World} {ops : Array Oper} {rest : List Oper} {o : Oper} {a : Act} {Q : Exit → Act → World → Prop} (hgd : o.guard = none) (s x : Operand) (t : TypeId)
   (ho : o.op = .call { callee := .builtin .append, args := #[s, x], argTypes := #[t, t] }) (base : Nat) (e : TypeId) (i : TypeInfo) (z : Value) (ht : P.underlying t = some (.slice e)) (hi : P.info? e = some i) (hz : i.zero = some z)
   (hs : i.size = 1) (hby : i.bytes = 8) (hzs : z.cells.size = 1) (v : Value) (l : List Int) (p : Int) (hv : a.eval s = v) (hown : w.ownsRow base e 1 v l.length (it l)) (g : Nat)
   (hx : a.eval x = .slice (some ⟨g, 0, none⟩) 1 1) (hc : w.cell? ⟨g, 0, none⟩ = some (.int .i64 p)) (hlen : l.length ≤ 1099511627776) (hbase : base ≤ w.heap.size)
   (h : ∀ v' w1, w1.ownsRow base e 1 v' (l ++ [p]).length (it (l ++ [p])) → w.grownBy w1 v.ownBlock → Near w v v' → wpList P ops Q rest (a.put o.dst v') w1) : wpList P ops Q (o :: rest) a w := by
 refine wpList_append_near hgd s x t ho base e i z 1 8 ht hi hz hs hby hzs (by decide) v l.length (it l) hv hown ⟨g, 0, none⟩ 1 1 [.int .i64 p] hx rfl (fun j u hj => ?_) (fun u hu => ?_) (by unfold maxLen; omega) (by omega) hbase ?_
 · cases j with
   | zero => simp only [List.getElem?_cons_zero, Option.some.injEq] at hj; subst hj; exact hc
   | succ j => simp at hj
 · simp only [List.mem_singleton] at hu; subst hu; rfl
 · intro v' w1 h1 h2 h3
   refine h v' w1 ?_ h2 h3
   rw [List.length_append]
   simpa [it] using h1
structure Mt (w : World) (P : Nat) (r q : Rl) (u v : Value) (W : World) (x : Int) (vc vp : Value) (l1 l2 : List Int) : Prop where
 a : W.heap[w.heap.size]? = some (.cells #[.int .i64 r.lo, .int .i64 r.hi, u, .int .i64 r.coupon] 41 (0, 0))
 b : W.heap[w.heap.size + 1]? = some (.cells #[.int .i64 q.lo, .int .i64 q.hi, v, .int .i64 q.coupon] 41 (0, 0))
 r : W.heap[w.heap.size + 1 + 1]? = some (.cells #[.int .i64 0, .slice none 0 0, .slice none 0 0] 110 (0, 0))
 p : W.heap[P]? = some (.cells #[.int .i64 x, vc, vp] 110 (0, 0))
 o1 : W.ownsRow w.heap.size 3 1 vc l1.length (it l1)
 o2 : W.ownsRow w.heap.size 3 1 vp l2.length (it l2)
 d : ∀ k k', vc.ownBlock = some k → vp.ownBlock = some k' → k ≠ k'
 ne : w.heap.size + 1 + 1 < P
 bel : Below w.heap.size w W
theorem Mt.below {w W W' : World} {P : Nat} {r q : Rl} {u v : Value} {x : Int} {vc vp : Value} {l1 l2 : List Int} (h : Mt w P r q u v W x vc vp l1 l2) (hb : Below W.heap.size W W') : Mt w P r q u v W' x vc vp l1 l2 :=
 ⟨(hb.block _ (Array.getElem?_eq_some_iff.1 h.a).1).trans h.a, (hb.block _ (Array.getElem?_eq_some_iff.1 h.b).1).trans h.b, (hb.block _ (Array.getElem?_eq_some_iff.1 h.r).1).trans h.r, (hb.block _ (Array.getElem?_eq_some_iff.1 h.p).1).trans h.p,
   ownsRow_below h.o1 hb (Nat.le_refl _), ownsRow_below h.o2 hb (Nat.le_refl _), h.d, h.ne, h.bel.trans (hb.mono h.bel.size)⟩
theorem Mt.alloc {w W : World} {P : Nat} {r q : Rl} {u v : Value} {x : Int} {vc vp : Value} {l1 l2 : List Int} (h : Mt w P r q u v W x vc vp l1 l2) (o : Obj) : Mt w P r q u v (W.alloc o) x vc vp l1 l2 :=
 h.below ((Below.refl _ W).alloc (Nat.le_refl _) o)
theorem Mt.lt {w W : World} {P : Nat} {r q : Rl} {u v : Value} {x : Int} {vc vp : Value} {l1 l2 : List Int} (h : Mt w P r q u v W x vc vp l1 l2) : P < W.heap.size := (Array.getElem?_eq_some_iff.1 h.p).1
theorem ne_gi : (41 : Nat) ≠ 3 := by decide
theorem ne_pi : (110 : Nat) ≠ 3 := by decide
theorem grown_blk {W W1 : World} {base e sz n b t : Nat} {v : Value} {xs : List Value} {cs : Array Value} (ho : W.ownsRow base e sz v n xs) (hg : W.grownBy W1 v.ownBlock) (hb : W.heap[b]? = some (.cells cs t (0, 0))) (ht : t ≠ e) : W1.heap[b]? = some (.cells cs t (0, 0)) :=
 (hg.block b (Array.getElem?_eq_some_iff.1 hb).1 (fun e' => owns_ne_ty ho hb ht b e'.symm rfl)).trans hb
theorem near_apart {W : World} {base2 e2 s2 n2 : Nat} {v v' z : Value} {ys : List Value} (hz : W.ownsRow base2 e2 s2 z n2 ys) (hn : Near W v v') (hd : ∀ k k', v.ownBlock = some k → z.ownBlock = some k' → k ≠ k') : ∀ k k', v'.ownBlock = some k → z.ownBlock = some k' → k ≠ k' := by
 intro k k' h1 h2
 rcases hn with h | ⟨g, h, hg⟩
 · exact hd k k' (h ▸ h1) h2
 · have := (hz.lt k' h2).2
   rw [h] at h1
   simp only [Option.some.injEq] at h1
   omega
theorem below_grow' {w W W1 : World} {e sz n : Nat} {v : Value} {xs : List Value} (hb : Below w.heap.size w W) (ho : W.ownsRow w.heap.size e sz v n xs) (hg : W.grownBy W1 v.ownBlock) : Below w.heap.size w W1 :=
 below_row hb hg (fun k hk => (ho.lt k hk).1)
theorem Mt.app1 {w W W1 : World} {P : Nat} {r q : Rl} {u v : Value} {x : Int} {vc vp vc' : Value} {l1 l2 l1' : List Int} (h : Mt w P r q u v W x vc vp l1 l2) (hg : W.grownBy W1 vc.ownBlock) (ho : W1.ownsRow w.heap.size 3 1 vc' l1'.length (it l1')) (hn : Near W vc vc') :
   Mt w P r q u v (W1.setCell ⟨P, 1, none⟩ vc') x vc' vp l1' l2 := by
 have hp := grown_blk h.o1 hg h.p ne_pi
 have hne := h.ne
 refine ⟨heap_set (grown_blk h.o1 hg h.a ne_gi) (by omega), heap_set (grown_blk h.o1 hg h.b ne_gi) (by omega), heap_set (grown_blk h.o1 hg h.r ne_pi) (by omega), Joins.block_setCell hp _, owns_away ho (owns_ne_ty ho hp ne_pi) _, ?_, near_apart h.o2 hn h.d, h.ne, (below_grow' h.bel h.o1 hg).setCell (by show w.heap.size ≤ P; omega) _⟩
 have o2 := owns_apart h.o2 hg (fun k k' e1 e2 e => h.d k' k e2 e1 e.symm)
 exact owns_away o2 (owns_ne_ty o2 hp ne_pi) _
theorem Mt.app2 {w W W1 : World} {P : Nat} {r q : Rl} {u v : Value} {x : Int} {vc vp vp' : Value} {l1 l2 l2' : List Int} (h : Mt w P r q u v W x vc vp l1 l2) (hg : W.grownBy W1 vp.ownBlock) (ho : W1.ownsRow w.heap.size 3 1 vp' l2'.length (it l2')) (hn : Near W vp vp') :
   Mt w P r q u v (W1.setCell ⟨P, 2, none⟩ vp') x vc vp' l1 l2' := by
 have hp := grown_blk h.o2 hg h.p ne_pi
 have hne := h.ne
 have dd := near_apart h.o1 hn (fun k k' e1 e2 e => h.d k' k e2 e1 e.symm)
 refine ⟨heap_set (grown_blk h.o2 hg h.a ne_gi) (by omega), heap_set (grown_blk h.o2 hg h.b ne_gi) (by omega), heap_set (grown_blk h.o2 hg h.r ne_pi) (by omega), Joins.block_setCell hp _, ?_, owns_away ho (owns_ne_ty ho hp ne_pi) _, fun k k' e1 e2 e => dd k' k e2 e1 e.symm, h.ne, (below_grow' h.bel h.o2 hg).setCell (by show w.heap.size ≤ P; omega) _⟩
 have o1 := owns_apart h.o1 hg h.d
 exact owns_away o1 (owns_ne_ty o1 hp ne_pi) _
theorem Mt.set0 {w W : World} {P : Nat} {r q : Rl} {u v : Value} {x : Int} {vc vp : Value} {l1 l2 : List Int} (h : Mt w P r q u v W x vc vp l1 l2) (y : Int) : Mt w P r q u v (W.setCell ⟨P, 0, none⟩ (.int .i64 y)) y vc vp l1 l2 := by
 have hne := h.ne
 exact ⟨heap_set h.a (by omega), heap_set h.b (by omega), heap_set h.r (by omega), Joins.block_setCell h.p _, owns_away h.o1 (owns_ne_ty h.o1 h.p ne_pi) _, owns_away h.o2 (owns_ne_ty h.o2 h.p ne_pi) _, h.d, h.ne, h.bel.setCell (by show w.heap.size ≤ P; omega) _⟩
theorem row3z {w : World} {g : Nat} {x0 x1 x2 : Value} {t : TypeId} (h : w.heap[g]? = some (.cells #[x0, x1, x2] t)) :
   (w.cell? ⟨g, 0, none⟩ = some x0 ∧ w.cell? ⟨g, 1, none⟩ = some x1 ∧ w.cell? ⟨g, 2, none⟩ = some x2) ∧ w.frozen? ⟨g, 0, none⟩ = false ∧ w.frozen? ⟨g, 1, none⟩ = false ∧ w.frozen? ⟨g, 2, none⟩ = false :=
 ⟨⟨cell_of_row w _ 0 _ _ _ h, cell_of_row w _ 1 _ _ _ h, cell_of_row w _ 2 _ _ _ h⟩, frozen_of_row w _ 0 _ _ h, frozen_of_row w _ 1 _ _ h, frozen_of_row w _ 2 _ _ h⟩
end Go.Proofs.YtijofgaekmahkaaGreatDoor

namespace Go.Proofs.YtijofgaekmahkaaGreatDoor
open Go.RowKit
theorem Tryz.info3z : (Tryz.prog.info? 3).map (fun i => (i.zero, i.size, i.bytes)) = some (some (.int .i64 0), 1, 8) := by kernel_rfl
theorem made_it (n : Nat) : (madeCells #[Value.int .i64 0] (n * 1)).toList = it (List.replicate n 0) := by
 apply List.ext_getElem?
 intro j
 by_cases hj : j < n
 · simp [madeCells, it, hj, Nat.mod_one]
 · rw [List.getElem?_eq_none (by simp [madeCells]; omega), List.getElem?_eq_none (by simp [it]; omega)]
theorem owns_off {w : World} {base e sz n g i : Nat} {v : Value} {xs : List Value} (h : w.ownsRow base e sz v n xs) (hne : ∀ k, v.ownBlock = some k → k ≠ g) (x : Value) : (w.setCell ⟨g, i, none⟩ x).ownsRow base e sz v n xs := by
 refine ⟨h.1, ?_⟩
 rcases h.2 with hn | ⟨b, cap, cur, rfl, h1, h2, rest⟩
 · exact .inl hn
 · refine .inr ⟨b, cap, cur, rfl, h1, ?_, rest⟩
   rw [heap_setCell_other w ⟨g, i, none⟩ b _ (fun e => hne b rfl e)]
   exact h2
def celS (w : World) (g : Nat) : Nat → Int
 | 0 => 0
 | k + 1 => celS w g k + (match w.cell? ⟨g, k, none⟩ with | some (.int _ x) => x | _ => 0)
theorem celS_owns {w : World} {base e g n cap : Nat} {m : List Int} (h : w.ownsRow base e 1 (.slice (some ⟨g, 0, none⟩) n cap) n (it m)) : ∀ k, k ≤ n → celS w g k = sumT m k
 | 0, _ => rfl
 | k + 1, hk => by
   unfold celS sumT
   rw [celS_owns h k (by omega), (owns_at1 h k (by omega)).1]
def leftM (a : Int) (g n : Nat) (w : World) : Nat := (a - celS w g n).toNat
set_option maxHeartbeats 8000000 in
set_option maxRecDepth 100000 in
theorem implAppo_any (a : Int) (ws : List Int) (v : Value) (w : World) (hv : Rd w 1 v ws.length (it ws)) (hl1 : 1 ≤ ws.length) (hl8 : ws.length ≤ 8) (ha0 : 0 ≤ a) (ha1 : a ≤ 1000000) (hs : a ≤ sumT ws ws.length) (hb : ∀ j, j < ws.length → 0 ≤ iG ws j ∧ iG ws j ≤ 1000000) :
   Calls Tryz.prog 117 #[.int .i64 a, v] w fun e w' => ∃ o, e = .returned o ∧ w'.ownsRow w.heap.size 3 1 o ws.length (it (appo a ws)) ∧ Below w.heap.size w w' := by
 have HV := Lib.hid hv
 obtain ⟨ao, cap, rfl, _, _, hr⟩ := hv.ints
 have HR := Lib.hid hr
 have HB := Lib.hid hb
 obtain ⟨i0, hi, hz0, hz1, hz2⟩ := info_parts Tryz.info3z
 have HI := Lib.hid hi
 have HZ0 := Lib.hid hz0
 have HZ1 := Lib.hid hz1
 have HZ2 := Lib.hid hz2
 have hmo : wi a 0 1000000 = true := wi_true.2 ⟨ha0, ha1⟩
 have hwi : wi (ws.length : Int) 1 8 = true := wi_true.2 ⟨by omega, by omega⟩
 obtain ⟨S, hS⟩ : ∃ S, S = sumT ws ws.length := ⟨_, rfl⟩
 have hSb := sumT_bd hb ws.length (Nat.le_refl _)
 rw [← hS] at hSb hs
 have HS := Lib.hid hS
 clear hi hz0 hz1 hz2 hv hr hb hS
 go_enter Tryz.func117, Tryz.ntmps117
 go_wp2_with (first | (go_at_call 107; refine (money_any _ _).mono ?_; rintro e w9 ⟨rfl, h9⟩; replace h9 := h9.symm; subst h9) | (go_at_call 35; refine (within_any _ _ _ _).mono ?_; rintro e w9 ⟨rfl, h9⟩; replace h9 := h9.symm; subst h9))
 go_loop [26] (fun i => ∃ k : Nat, k ≤ ws.length ∧ i = .int .i64 k) (fun i => ws.length - (intOf i).toNat)
 case atStart => exact ⟨0, Nat.zero_le _, rfl⟩
 case round =>
   obtain ⟨k, hk, rfl⟩ := hrel
   by_cases hlt : k < ws.length
   · obtain ⟨b, off, rfl, hb, hcell⟩ := HR.out (by omega)
     have h0 := hcell k hlt
     have h1 : wi (iG ws k) 0 1000000 = true := wi_true.2 (HB.out k hlt)
     clear hcell
     go_wp2_with (go_at_call 107; refine (money_any _ _).mono ?_; rintro e w9 ⟨rfl, h9⟩; replace h9 := h9.symm; subst h9)
     go_round
     case rel => exact ⟨k+1, by omega, by go_num⟩
     case measure => simp [intOf]; omega
   · obtain rfl : k = ws.length := by omega
     by_cases hz : S = 0
     · have hzb : (S == 0) = true := by simp [hz]
       have fin : Hid (appo a ws = List.replicate ws.length 0) := by unfold Hid appo; rw [← HS.out, if_pos hz]
       clear hz
       go_wp2_with (first | (go_at_call 69; refine (total_any ws _ _ (HV.out.below B1 (Nat.le_refl _)) (by omega) HB.out).mono ?_; rintro e w9 ⟨rfl, h9⟩; replace h9 := h9.symm; subst h9; rw [← HS.out]) | (refine wpList_make_full _ rfl _ _ 34 rfl w.heap.size 3 i0 _ 1 Tryz.underlying34 HI.out HZ0.out HZ1.out _ _ _ _ ws.length rfl rfl rfl rfl (by rw [HZ2.out]; omega) (by unfold maxLen; omega) (Nat.le_refl _) ?_; intro w1 hown hgr; have O1 : Hid (w1.ownsRow w.heap.size 3 1 (.slice (some ⟨w.heap.size, 0, none⟩) ws.length ws.length) ws.length (it (List.replicate ws.length 0))) := (by rw [← made_it]; exact hown); have B1 := below_of_grownBy hgr; rw [← fin.out] at O1; clear hown hgr))
       go_ret
       exact ⟨_, rfl, O1.out, B1⟩
     · have hzb : (S == 0) = false := by rw [beq_eq_false_iff_ne]; exact hz
       have hp : 0 < S := by omega
       have fin : Hid (appo a ws = bump (a - sumT (apF a ws) ws.length).toNat (apF a ws) (apR a ws)) := by unfold Hid appo; rw [← HS.out, if_neg hz]
       have inv := ap_inv (ws := ws) ha0 (by rw [← HS.out]; exact hs) (by rw [← HS.out]; exact hp) (fun k hk => (HB.out k hk).1)
       rw [← HS.out] at inv
       have INV := Lib.hid inv
       clear inv hz
       go_upto_region 13 with (first | (go_at_call 69; refine (total_any ws _ _ (HV.out.below B1 (Nat.le_refl _)) (by omega) HB.out).mono ?_; rintro e w9 ⟨rfl, h9⟩; replace h9 := h9.symm; subst h9; rw [← HS.out]) | (refine wpList_make_full _ rfl _ _ 34 rfl w.heap.size 3 i0 _ 1 Tryz.underlying34 HI.out HZ0.out HZ1.out _ _ _ _ ws.length rfl rfl rfl rfl (by rw [HZ2.out]; omega) (by unfold maxLen; omega) (Nat.le_refl _) ?_; intro w1 hown hgr; have O1 : Hid (w1.ownsRow w.heap.size 3 1 (.slice (some ⟨w.heap.size, 0, none⟩) ws.length ws.length) ws.length (it (List.replicate ws.length 0))) := (by rw [← made_it]; exact hown); have B1 := below_of_grownBy hgr; have z1 : w.heap.size < w1.heap.size := (hown.lt _ rfl).2; clear hown hgr))
       go_wp2_with (refine wpList_make_full _ rfl _ _ 34 rfl w1.heap.size 3 i0 _ 1 Tryz.underlying34 HI.out HZ0.out HZ1.out _ _ _ _ ws.length rfl rfl rfl rfl (by rw [HZ2.out]; omega) (by unfold maxLen; omega) (Nat.le_refl _) ?_; intro w2 hown hgr; have B2 := B1.trans ((below_of_grownBy hgr).mono B1.size); have O2 := Lib.hid (ownsRow_below O1.out (below_of_grownBy hgr) (Nat.le_refl _)); have R2 : Hid (w2.ownsRow w1.heap.size 3 1 (.slice (some ⟨w1.heap.size, 0, none⟩) ws.length ws.length) ws.length (it (List.replicate ws.length 0))) := (by rw [← made_it]; exact hown); clear hown hgr O1)
       go_loopw [48] (fun i wr => ∃ k : Nat, k ≤ ws.length ∧ i = .int .i64 k ∧ Below w.heap.size w wr ∧ Hid (wr.ownsRow w.heap.size 3 1 (.slice (some ⟨w.heap.size, 0, none⟩) ws.length ws.length) ws.length (it (fillI (apF a ws) k))) ∧ Hid (wr.ownsRow w1.heap.size 3 1 (.slice (some ⟨w1.heap.size, 0, none⟩) ws.length ws.length) ws.length (it (fillI (apR a ws) k)))) (fun i _ => ws.length - (intOf i).toNat)
       case atStart => exact ⟨0, Nat.zero_le _, rfl, B2, by rw [fillI_zero, apF_len]; exact O2, by rw [fillI_zero, apR_len]; exact R2⟩
       case round =>
         clear B2 O2 R2
         obtain ⟨k, hk, rfl, hbl, OF, OR⟩ := hrel
         by_cases hlt : k < ws.length
         · obtain ⟨b, off, rfl, hb, hcell⟩ := HR.out (by omega)
           have g0 := (hbl.cell (p := ⟨b, off + k, none⟩) hb).trans (hcell k hlt)
           have hbw : b < wr.heap.size := Nat.lt_of_lt_of_le hb hbl.size
           have z2 : w1.heap.size < wr.heap.size := (OR.out.lt _ rfl).2
           obtain ⟨c0, f0⟩ := owns_at1 OF.out k hlt
           obtain ⟨c1, f1⟩ := owns_at1 OR.out k hlt
           have sF := fillI_succ (apF a ws) k (by rw [apF_len]; exact hlt)
           have sR := fillI_succ (apR a ws) k (by rw [apR_len]; exact hlt)
           rw [apF_get a hlt, ← HS.out] at sF
           rw [apR_get a hlt, ← HS.out] at sR
           have SF := Lib.hid sF
           have SR := Lib.hid sR
           obtain ⟨x, hx⟩ : ∃ x, x = iG ws k := ⟨_, rfl⟩
           have hxb := HB.out k hlt
           rw [← hx] at g0 hxb SF SR
           clear hx hcell sF sR
           obtain ⟨x0, x1⟩ := hxb
           have m0 := mul_bd (a := a) (b := x) (m := 1000000) (n := 1000000) ha0 ha1 x0 x1
           have e1 : IntKind.i64.wrap (a * x) = a * x := IntWalk.i64_in _ (by omega)
           have q0 : 0 ≤ (a * x).tdiv S ∧ (a * x).tdiv S ≤ 1000000000000 := by
             rw [Int.tdiv_eq_ediv_of_nonneg m0.1]
             exact ⟨Int.ediv_nonneg m0.1 (by omega), Int.le_trans (Int.ediv_le_self _ m0.1) m0.2⟩
           have r0 : 0 ≤ (a * x).tmod S ∧ (a * x).tmod S ≤ 1000000000000 := by
             rw [Int.tmod_eq_emod_of_nonneg m0.1]
             have := Int.emod_nonneg (a * x) (Int.ne_of_gt hp)
             have := Int.emod_lt_of_pos (a * x) hp
             omega
           have e2 : IntKind.i64.wrap ((a * x).tdiv S) = (a * x).tdiv S := IntWalk.i64_in _ (by omega)
           have e3 : IntKind.i64.wrap ((a * x).tmod S) = (a * x).tmod S := IntWalk.i64_in _ (by omega)
           have hSne : ¬ S = 0 := by omega
           have n1 : ¬ b = w.heap.size := by omega
           have n2 : ¬ b = w1.heap.size := by omega
           have n3 : ¬ w1.heap.size = w.heap.size := by omega
           have n4 : ¬ w.heap.size = w1.heap.size := by omega
           clear m0 q0 r0
           go_wp2
           have o3 := owns_off (g := w1.heap.size) (i := k) (owns_set1 OF.out k ((a * x).tdiv S)).1 (fun j hj => by have : w.heap.size = j := Option.some.inj hj; omega) (.int .i64 ((a * x).tmod S))
           have o4 := (owns_set1 (owns_off (g := w.heap.size) (i := k) OR.out (fun j hj => by have : w1.heap.size = j := Option.some.inj hj; omega) (.int .i64 ((a * x).tdiv S))) k ((a * x).tmod S)).1
           rw [SF.out] at o3
           rw [SR.out] at o4
           go_roundw
           case rel => exact ⟨k + 1, by omega, by go_num, (hbl.setCell (Nat.le_refl _) _).setCell (Nat.le_of_lt z1) _, o3, o4⟩
           case measure => simp [intOf]; omega
         · obtain rfl : k = ws.length := by omega
           have eF : fillI (apF a ws) ws.length = apF a ws := by have := fillI_end (apF a ws); rw [apF_len] at this; exact this
           have eR : fillI (apR a ws) ws.length = apR a ws := by have := fillI_end (apR a ws); rw [apR_len] at this; exact this
           rw [eF] at OF
           rw [eR] at OR
           clear eF eR
           go_wp2
           go_loopw [12] (fun b_ wr2 => ∃ (m : Nat) (out rs : List Int), Hid (bump m out rs = appo a ws ∧ ApInv ws S m out rs ∧ sumT out ws.length = a - m) ∧ Below w.heap.size w wr2 ∧ Hid (wr2.ownsRow w.heap.size 3 1 (.slice (some ⟨w.heap.size, 0, none⟩) ws.length ws.length) ws.length (it out)) ∧ Hid (wr2.ownsRow w1.heap.size 3 1 (.slice (some ⟨w1.heap.size, 0, none⟩) ws.length ws.length) ws.length (it rs))) (fun _ wr2 => leftM a w.heap.size ws.length wr2)
           case atStart => exact ⟨_, _, _, ⟨fin.out.symm, INV.out.2, by have := INV.out.1; omega⟩, hbl, OF, OR⟩
           case round =>
             clear hbl OF OR
             obtain ⟨m, out, rs, H, hbl, OF, OR⟩ := hrel
             have hlo := H.out.2.1.lo
             have hob : ∀ j, j < out.length → 0 ≤ iG out j ∧ iG out j ≤ 1000000 := fun j hj => by
               have h1 := H.out.2.1.o j (by omega)
               have h2 := HB.out j (by omega)
               omega
             have HOB := Lib.hid hob
             have hsum := H.out.2.2
             have hme : leftM a w.heap.size ws.length wr = m := by
               unfold leftM
               rw [celS_owns OF.out _ (Nat.le_refl _), hsum]
               omega
             have HLO := Lib.hid hlo
             have hrd := Rd.of_owns OF.out
             rw [← hlo] at hrd
             have RD := Lib.hid hrd
             have htot : sumT out out.length = a - m := by rw [hlo]; exact hsum
             have HT := Lib.hid htot
             clear hlo hob hsum hrd htot
             cases m with
             | zero =>
               have e0 : a - ((0 : Nat) : Int) = a := by omega
               go_wp2_with (go_at_call 69; refine (total_any out _ _ (by rw [← HLO.out]; exact RD.out) (by rw [HLO.out]; omega) HOB.out).mono ?_; rintro e w9 ⟨rfl, h9⟩; replace h9 := h9.symm; subst h9; rw [HT.out, e0])
               go_ret
               exact ⟨_, rfl, by rw [← H.out.1]; exact OF.out, hbl⟩
             | succ m =>
               have hltb : decide (a - ((m : Int) + 1) < a) = true := by simp; omega
               go_wp2_with (go_at_call 69; refine (total_any out _ _ (by rw [← HLO.out]; exact RD.out) (by rw [HLO.out]; omega) HOB.out).mono ?_; rintro e w9 ⟨rfl, h9⟩; replace h9 := h9.symm; subst h9; rw [HT.out])
               clear HT RD HOB
               have H2 := H.out.2.1.step hp
               obtain ⟨hm, hinv⟩ := H2
               have HM := Lib.hid hm
               have HINV := Lib.hid hinv
               have hlr := H.out.2.1.lr
               have HLR := Lib.hid hlr
               clear hm hinv hlr
               go_loopw [12, 76] (fun b_ i_ w6 => ∃ k : Nat, k ≤ ws.length ∧ i_ = .int .i64 k ∧ b_ = .int .i64 (argM rs k : Nat) ∧ Below wr.heap.size wr w6) (fun _ i_ _ => ws.length - (intOf i_).toNat)
               case atStart => exact ⟨0, Nat.zero_le _, rfl, rfl, Below.refl _ _⟩
               case round =>
                 obtain ⟨k, hk, rfl, rfl, hb6⟩ := hrel
                 have OR6 := Lib.hid (ownsRow_below OR.out hb6 (Nat.le_refl _))
                 by_cases hlt2 : k < ws.length
                 · have hmk := argM_le rs k
                   have hml : argM rs k < ws.length := by omega
                   obtain ⟨c0, f0⟩ := owns_at1 OR6.out k hlt2
                   obtain ⟨c1, f1⟩ := owns_at1 OR6.out (argM rs k) hml
                   clear hmk
                   by_cases hgt : iG rs (argM rs k) < iG rs k
                   · have fin2 := Lib.hid (argM_yes hgt)
                     go_wp2
                     go_quiet (fail)
                     go_wp2
                     go_roundw
                     case rel => exact ⟨k + 1, by omega, by go_num, by rw [fin2.out], below_drewN hb6 _⟩
                     case measure => simp [intOf]; omega
                   · have fin2 := Lib.hid (argM_no hgt)
                     have hgb : decide (iG rs (argM rs k) < iG rs k) = false := by simpa using hgt
                     go_wp2
                     go_quiet (fail)
                     go_wp2
                     go_roundw
                     case rel => exact ⟨k + 1, by omega, by go_num, by rw [fin2.out], below_drewN hb6 _⟩
                     case measure => simp [intOf]; omega
                 · obtain rfl : k = ws.length := by omega
                   have OF6 := Lib.hid (ownsRow_below OF.out hb6 (Nat.le_refl _))
                   have BB := hbl.trans (hb6.mono hbl.size)
                   rw [HLR.out] at HM HINV
                   obtain ⟨q, hq⟩ : ∃ q, q = argM rs ws.length := ⟨_, rfl⟩
                   have hbe : bump (m + 1) out rs = bump m (out.set q (iG out q + 1)) (rs.set q (-1)) := by
                     show bump m (out.set (argM rs rs.length) (iG out (argM rs rs.length) + 1)) (rs.set (argM rs rs.length) (-1)) = _
                     rw [HLR.out, ← hq]
                   have HBE := Lib.hid hbe
                   rw [← hq] at HM HINV ⊢
                   clear hq hbe
                   have hqn := HM.out
                   obtain ⟨c0, f0⟩ := owns_at1 OF6.out q hqn
                   obtain ⟨c1, f1⟩ := owns_at1 OR6.out q hqn
                   have hxo := H.out.2.1.o q hqn
                   have hxb := HB.out q hqn
                   have e1 : IntKind.i64.wrap (iG out q + 1) = iG out q + 1 := IntWalk.i64_in _ (by omega)
                   have hsm := sumT_put (l := out) (i := q) (x := iG out q + 1) (by rw [HLO.out]; exact hqn)
                   rw [HLO.out, H.out.2.2] at hsm
                   have HSM := Lib.hid hsm
                   obtain ⟨x, hx⟩ : ∃ x, x = iG out q := ⟨_, rfl⟩
                   rw [← hx] at e1 c0 HBE HINV HSM
                   clear hxo hxb hsm hx
                   have n3 : ¬ w1.heap.size = w.heap.size := by omega
                   have n4 : ¬ w.heap.size = w1.heap.size := by omega
                   go_wp2
                   have o3 := owns_off (g := w1.heap.size) (i := q) (owns_set1 OF6.out q (x + 1)).1 (fun j hj => by have : w.heap.size = j := Option.some.inj hj; omega) (.int .i64 (-1))
                   have o4 := (owns_set1 (owns_off (g := w.heap.size) (i := q) OR6.out (fun j hj => by have : w1.heap.size = j := Option.some.inj hj; omega) (.int .i64 (x + 1))) q (-1)).1
                   go_roundw
                   case rel => exact ⟨m, _, _, ⟨by rw [← HBE.out]; exact H.out.1, HINV.out, by have := HSM.out; omega⟩, (BB.setCell (Nat.le_refl _) _).setCell (Nat.le_of_lt z1) _, o3, o4⟩
                   case measure =>
                     have h1 := celS_owns o3 ws.length (Nat.le_refl _)
                     have h2 := HSM.out
                     unfold leftM at hme ⊢
                     rw [h1, hme]
                     omega
end Go.Proofs.YtijofgaekmahkaaGreatDoor

namespace Go.Proofs.YtijofgaekmahkaaGreatDoor
open Go.RowKit
set_option maxHeartbeats 1000000 in
theorem implTot_any (s : List Art) (u : Value) (c : List (Int × Int)) (v : Value) (w : World) (hs : Rd w 4 u s.length (ar s)) (hv : Rd w 2 v c.length (pr c)) :
   Calls Tryz.prog 38 #[u, v] w fun e w' => e = .returned (.int .i64 (fTot s c)) ∧ Below w.heap.size w w' := by
 have HV := Lib.hid hv
 have HS := Lib.hid hs
 clear hv hs
 cases hp : vCart s c
 · have fin := Lib.hid (fTot_no hp)
   go_enter Tryz.func38, Tryz.ntmps38
   go_wp2_with (go_at_call 61; refine (implCart_any s _ c _ _ HS.out HV.out).mono ?_; rintro e w1 ⟨rfl, hb1⟩)
   go_ret
   exact ⟨by rw [fin.out] <;> rfl, hb1⟩
 · have fin := Lib.hid (fTot_yes hp)
   have hbd : ∀ j, j < (amK s c c.length).length → 0 ≤ iG (amK s c c.length) j ∧ iG (amK s c c.length) j ≤ 1000000 := fun j hj => by
     rw [amK_len] at hj
     rw [amK_get s c _ j hj]
     have := amt_bd hp hj
     omega
   have hle : (amK s c c.length).length ≤ 1000000 := by
     rw [amK_len]
     have := (vLines_all (vCart_pr hp).2).2
     omega
   have hsum : sumT (amK s c c.length) (amK s c c.length).length = totK s c c.length := by
     rw [sumT_am s c c.length _ (Nat.le_of_eq (amK_len s c _)), amK_len]
   go_enter Tryz.func38, Tryz.ntmps38
   go_wp2_with (first | (go_at_call 61; (with_reducible refine (implCart_any s _ c _ _ HS.out HV.out).mono ?_); rintro e w1 ⟨rfl, hb1⟩) | (go_at_call 70; (with_reducible refine (implAmounts_any s _ c _ _ (HS.out.below hb1 (Nat.le_refl _)) (HV.out.below hb1 (Nat.le_refl _)) hp).mono ?_); rintro e w2 ⟨o, rfl, ho, hb2⟩) | (go_at_call 69; (with_reducible refine (total_any _ _ _ (Rd.of_owns ho) hle hbd).mono ?_); rintro e w3 ⟨rfl, rfl⟩; rw [hsum]))
   go_ret
   exact ⟨by rw [fin.out] <;> rfl, hb1.trans (hb2.mono hb1.size)⟩
set_option maxHeartbeats 2000000 in
theorem specTot_any (s : List Art) (u : Value) (c : List (Int × Int)) (v : Value) (w : World) (hs : Rd w 4 u s.length (ar s)) (hv : Rd w 2 v c.length (pr c)) (hp : vCart s c = true) :
   Calls Tryz.prog 50 #[u, v] w fun e w' => e = .returned (.int .i64 (fTot s c)) ∧ Below w.heap.size w w' := by
 have HV := Lib.hid hv
 have HS := Lib.hid hs
 have hm := hs.len
 unfold maxLen at hm
 obtain ⟨so, scap, rfl, _⟩ := hs.arts
 have HP2 := Lib.hid (vCart_pr hp)
 have HP := Lib.hid hp
 clear hv hs
 have fin := Lib.hid (fTot_yes hp)
 have hbd : ∀ j, j < (amK s c c.length).length → 0 ≤ iG (amK s c c.length) j ∧ iG (amK s c c.length) j ≤ 1000000 := fun j hj => by
   rw [amK_len] at hj
   rw [amK_get s c _ j hj]
   have := amt_bd hp hj
   omega
 have hle : (amK s c c.length).length ≤ 1000000 := by
   rw [amK_len]
   have := (vLines_all (vCart_pr hp).2).2
   omega
 have hsum : sumT (amK s c c.length) (amK s c c.length).length = totK s c c.length := by
   rw [sumT_am s c c.length _ (Nat.le_of_eq (amK_len s c _)), amK_len]
 have HBD := Lib.hid hbd
 have HLE := Lib.hid hle
 have HSU := Lib.hid hsum
 clear hbd hle hsum hp
 go_enter Tryz.func50, Tryz.ntmps50
 go_wp2_with (first
   | (go_at_call 89; refine (specShop_in s _ _ HS.out).mono ?_; rintro e w1 ⟨rfl, x1⟩; rw [HP2.out.1]; have B1 := Lib.hid x1; clear x1)
   | (go_at_call 90; refine (specCart_in so s.length scap c _ _ (HV.out.below B1.out (Nat.le_refl _)) (by omega)).mono ?_; rintro e w2 ⟨rfl, x2⟩; rw [HP2.out.2]; have B2 := Lib.hid (B1.out.trans (x2.mono B1.out.size)); clear x2)
   | (go_at_call 92; refine (specAmounts_any s _ c _ _ (HS.out.below B2.out (Nat.le_refl _)) (HV.out.below B2.out (Nat.le_refl _)) HP.out).mono ?_; rintro e w3 ⟨o, rfl, ho, x3⟩; have B3 := Lib.hid (B2.out.trans (x3.mono B2.out.size)); have O3 := Lib.hid ho; clear ho x3)
   | (go_at_call 91; refine (ssum_any _ _ _ (Rd.of_owns O3.out) HLE.out HBD.out).mono ?_; rintro e w4 ⟨rfl, h4⟩; replace h4 := h4.symm; subst h4; rw [HSU.out]))
 go_ret
 exact ⟨by rw [fin.out] <;> rfl, B3.out⟩
theorem step_near {P : Program} {ops : Array Oper} {o : Oper} {a : Act} {w : World} {K : Act → World → Prop} {Q : Exit → Act → World → Prop} {E : Prop}
   (hgd : o.guard = none) (s x : Operand) (t : TypeId) (ho : o.op = .call { callee := .builtin .append, args := #[s, x], argTypes := #[t, t] })
   (base : Nat) (e : TypeId) (i : TypeInfo) (z : Value) (size bytes : Nat) (ht : P.underlying t = some (.slice e)) (hi : P.info? e = some i) (hz : i.zero = some z)
   (hsize : i.size = size) (hby : i.bytes = bytes) (hzs : z.cells.size = size) (hsz : 0 < size) (v : Value) (n : Nat) (xs : List Value) (hs : a.eval s = v) (hown : w.ownsRow base e size v n xs)
   (ad : Addr) (m c : Nat) (news : List Value) (hx : a.eval x = .slice (some ad) m c) (hl : news.length = m * size) (hnews : ∀ j u, news[j]? = some u → w.cell? (ad.add j) = some u) (h1 : ∀ u ∈ news, u.oneCell' = true)
   (h63 : n + m ≤ maxLen) (hbytes : (n + m) * bytes ≤ 140737488355328) (hbase : base ≤ w.heap.size)
   (h : ∀ v' w', w'.ownsRow base e size v' (n + m) (xs ++ news) → w.grownBy w' v.ownBlock → Near w v v' → K (a.put o.dst v') w') :
   if Region.wanted o (yielded ops a.tmps) = true then Oper.wp P o a w K Q else E := by
 have hw : Region.wanted o (yielded ops a.tmps) = true := by simp [Region.wanted, hgd]
 rw [if_pos hw]
 obtain ⟨v', w', hr, h2, h3, h4⟩ := run_append_near (P := P) w base t o.type e i z size bytes ht hi hz hsize hby hzs hsz v n xs hown ad m c news hl hnews h1 h63 hbytes hbase
 unfold Oper.wp execOp
 simp only [ho, resolve, invoke, builtin, Sem.run_bind, Sem.run_pure, Result.andThen_ok, List.map_toArray, List.map_cons, List.map_nil, hs, hx, hr]
 exact h v' w' h2 h3 h4
theorem one_atZ {w : World} {g : Nat} {x : Value} (h : w.cell? ⟨g, 0, none⟩ = some x) : ∀ j u, [x][j]? = some u → w.cell? ((⟨g, 0, none⟩ : Addr).add j) = some u := fun j u hu => by
 cases j with
 | zero => simp only [List.getElem?_cons_zero, Option.some.injEq] at hu; subst hu; exact h
 | succ j => simp at hu
theorem take_iG {l : List Int} {k : Nat} (hk : k < l.length) : l.take (k + 1) = l.take k ++ [iG l k] := by
 rw [List.take_add_one]
 have : l[k]?.toList = [iG l k] := by simp [iG, List.getD, hk]
 rw [this]
set_option maxHeartbeats 4000000 in
set_option maxRecDepth 100000 in
theorem less_any (l m : List Int) (u v : Value) (w : World) (hu : Rd w 1 u l.length (it l)) (hv : Rd w 1 v m.length (it m)) (hlm : m.length = l.length) (hl8 : l.length ≤ 8) (hb : ∀ k, k < l.length → 0 ≤ iG m k ∧ iG m k ≤ iG l k ∧ iG l k ≤ 1000000) :
   Calls Tryz.prog 168 #[u, v] w fun e w' => ∃ o, e = .returned o ∧ w'.ownsRow w.heap.size 3 1 o l.length (it (subL l m)) ∧ Below w.heap.size w w' := by
 have hm := hu.len
 unfold maxLen at hm
 obtain ⟨ao, cap, rfl, _, _, hr⟩ := hu.ints
 obtain ⟨bo, capb, rfl, _, _, hrb⟩ := hv.ints
 rw [hlm] at hrb ⊢
 have HR := Lib.hid hr
 have HRB := Lib.hid hrb
 have HB := Lib.hid hb
 obtain ⟨i0, hi, hz0, hz1, hz2⟩ := info_parts Tryz.info3z
 have HI := Lib.hid hi
 have HZ0 := Lib.hid hz0
 have HZ1 := Lib.hid hz1
 have HZ2 := Lib.hid hz2
 have O0 := Lib.hid (World.ownsRow_made w #[] 0 (Nat.le_refl _) (by simp) (by simp) : (w.alloc (.cells #[] 3)).ownsRow w.heap.size 3 1 (.slice (some ⟨w.heap.size, 0, none⟩) 0 0) 0 (it []))
 have b0 : Below w.heap.size w (w.alloc (.cells #[] 3)) := (Below.refl _ w).alloc (Nat.le_refl _) _
 have B0 := Lib.hid b0
 clear hi hz0 hz1 hz2 hu hv hr hrb hb b0
 go_enter Tryz.func168, Tryz.ntmps168
 go_wp2
 go_loopw [5, 6] (fun o_ i_ wr => ∃ k : Nat, k ≤ l.length ∧ i_ = .int .i64 k ∧ Hid (wr.ownsRow w.heap.size 3 1 o_ k (it ((subL l m).take k))) ∧ Below w.heap.size w wr) (fun _ i_ _ => l.length - (intOf i_).toNat)
 case atStart => exact ⟨0, Nat.zero_le _, rfl, O0, B0.out⟩
 case round =>
   clear O0 B0
   obtain ⟨k, hk, rfl, O, hbl⟩ := hrel
   obtain ⟨oo, ocap, hso, _⟩ := owns_shape O.out
   subst hso
   by_cases hlt : k < l.length
   · obtain ⟨b, off, rfl, hb, hcell⟩ := HR.out (by omega)
     obtain ⟨b2, off2, rfl, hb2, hcell2⟩ := HRB.out (by omega)
     have g0 := (hbl.cell (p := ⟨b, off + k, none⟩) hb).trans (hcell k hlt)
     have g1 := (hbl.cell (p := ⟨b2, off2 + k, none⟩) hb2).trans (hcell2 k hlt)
     have hbw : b < wr.heap.size := Nat.lt_of_lt_of_le hb hbl.size
     have hbw2 : b2 < wr.heap.size := Nat.lt_of_lt_of_le hb2 hbl.size
     have hx := HB.out k hlt
     have hsn : (subL l m).take (k + 1) = (subL l m).take k ++ [iG l k - iG m k] := by rw [take_iG (by rw [subL_len]; exact hlt), subL_get hlt]
     have hln : ((subL l m).take k).length = k := by rw [List.length_take, subL_len]; omega
     have ew : IntKind.i64.wrap (iG l k - iG m k) = iG l k - iG m k := IntWalk.i64_in _ (by omega)
     have O2 : Hid (wr.ownsRow w.heap.size 3 1 (.slice oo k ocap) ((subL l m).take k).length (it ((subL l m).take k))) := by rw [Hid, hln]; exact O.out
     have HSN := Lib.hid hsn
     have HLN := Lib.hid hln
     have HBL := Lib.hid ((hbl.alloc hbl.size (.cells #[.int .i64 (iG l k - iG m k)] 3)).drew)
     have ha : ((wr.alloc (.cells #[.int .i64 (iG l k - iG m k)] 3)).drew).heap[wr.heap.size]? = some (.cells #[.int .i64 (iG l k - iG m k)] 3 (0, 0)) := heap_alloc_new wr _
     have HA := Lib.hid ha
     obtain ⟨d, hd⟩ : ∃ d, d = iG l k - iG m k := ⟨_, rfl⟩
     have hk0 : (0 : Int) ≤ (k : Int) := by omega
     have hk1 : (k : Int) < (l.length : Int) := by omega
     clear hcell hcell2 hsn hln ha
     go_wp2
     go_region_law (first
       | (refine step_near rfl (.tmp 14) (.tmp 24) 34 rfl w.heap.size 3 i0 _ 1 8 Tryz.underlying34 HI.out HZ0.out HZ1.out HZ2.out rfl (by decide) _ k (it ((subL l m).take k)) rfl (O.out.alloc _).drew ⟨wr.heap.size, 0, none⟩ 1 1 [.int .i64 (iG l k - iG m k)] rfl rfl (one_atZ (cell_of_row _ _ 0 _ _ _ HA.out)) (by simp [Value.oneCell']) (by unfold maxLen; omega) (by omega) HBL.out.size ?_; intro vA wA hoA hgA _; have hoB : wA.ownsRow w.heap.size 3 1 vA (k + 1) (it ((subL l m).take (k + 1))) := (by rw [HSN.out, it, List.map_append]; exact hoA); obtain ⟨qo, qc, hq9, _⟩ := owns_shape hoB; subst hq9; have OB := Lib.hid hoB; have BOB := below_row HBL.out hgA (fun k hk => (O.out.lt k hk).1); clear hoA hoB hgA)
       | (refine step_near rfl (.tmp 14) (.tmp 24) 34 rfl w.heap.size 3 i0 _ 1 8 Tryz.underlying34 HI.out HZ0.out HZ1.out HZ2.out rfl (by decide) _ k (it ((subL l m).take k)) rfl (O.out.drew.alloc _) ⟨wr.heap.size, 0, none⟩ 1 1 [.int .i64 (iG l k - iG m k)] rfl rfl (one_atZ (cell_of_row _ _ 0 _ _ _ HA.out)) (by simp [Value.oneCell']) (by unfold maxLen; omega) (by omega) HBL.out.size ?_; intro vA wA hoA hgA _; have hoB : wA.ownsRow w.heap.size 3 1 vA (k + 1) (it ((subL l m).take (k + 1))) := (by rw [HSN.out, it, List.map_append]; exact hoA); obtain ⟨qo, qc, hq9, _⟩ := owns_shape hoB; subst hq9; have OB := Lib.hid hoB; have BOB := below_row HBL.out hgA (fun k hk => (O.out.lt k hk).1); clear hoA hoB hgA))
     all_goals go_wp2
     all_goals go_roundw
     all_goals first
       | exact ⟨k + 1, by omega, by go_num, OB, BOB⟩
       | (simp [intOf]; omega)
   · have hk9 : k = l.length := by omega
     have hle : decide ((k : Int) < (l.length : Int)) = false := by simp; omega
     have O9 : Hid (wr.ownsRow w.heap.size 3 1 (.slice oo k ocap) l.length (it (subL l m))) := by have h9 := O.out; have h8 : (subL l m).take k = subL l m := List.take_of_length_le (by rw [subL_len]; omega); rw [h8] at h9; rw [Hid, ← hk9]; exact h9
     clear hk9
     go_wp2
     go_ret
     exact ⟨_, rfl, O9.out, hbl⟩
end Go.Proofs.YtijofgaekmahkaaGreatDoor
