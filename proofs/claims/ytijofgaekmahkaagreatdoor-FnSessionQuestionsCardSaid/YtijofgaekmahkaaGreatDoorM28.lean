/- Joined texts: Walks: the reference's ParseRule, whatever the text. Conditions: none. -/
import Derived.Test.YtijofgaekmahkaaGreatDoorM27
namespace Go.Proofs.YtijofgaekmahkaaGreatDoor
open Go.RowKit
theorem heap_bel {W W' : World} {g : Nat} {o : Obj} (h : W.heap[g]? = some o) (hb : Below W.heap.size W W') : W'.heap[g]? = some o := (hb.block g (Array.getElem?_eq_some_iff.1 h).1).trans h
theorem As.below {w W W' : World} {S g b : Nat} {r : Rl} {ws : List (List UInt8)} (A : As w S g b r ws W) (hb : Below W.heap.size W W') : As w S g b r ws W' := by
 obtain ⟨a0, b0, a1, b1, a2, b2, h1, h2⟩ := A.F
 exact ⟨A.ord, heap_bel A.K hb, heap_bel A.G hb, ⟨a0, b0, a1, b1, a2, b2, h1, heap_bel h2 hb⟩, A.sw.below hb, A.bel.trans (hb.mono A.bel.size), A.sh⟩
theorem cell_far (w : World) {K g : Nat} (h : g ≠ K) (i j : Nat) (x y : Value) (l : Nat) : ((w.setCell ⟨K, i, none⟩ x).setCell ⟨K, j, none⟩ y).cell? ⟨g, l, none⟩ = w.cell? ⟨g, l, none⟩ :=
 World.cell?_of_block ((heap_setCell_other _ ⟨K, j, none⟩ g _ h).trans (heap_setCell_other _ ⟨K, i, none⟩ g _ h))
theorem Sw.of_owns {w : World} {base : Nat} {v : Value} {ws : List (List UInt8)} (h : w.ownsRow base 9 1 v ws.length (sw ws)) (hne : ws ≠ []) :
   ∃ bk cap, v = .slice (some ⟨bk, 0, none⟩) ws.length cap ∧ base ≤ bk ∧ bk < w.heap.size ∧ ws.length ≤ cap ∧ cap ≤ maxLen ∧ ∀ j x, ws[j]? = some x → w.cell? ⟨bk, j, none⟩ = some (.string ⟨x.toArray⟩) := by
 obtain ⟨ao, cap, rfl, ⟨h1, h2⟩, hg⟩ := owns_shape_cap h
 have hl : 0 < ws.length := List.length_pos_iff.2 hne
 obtain ⟨g, rfl, hb⟩ := hg hl
 refine ⟨g, cap, rfl, hb, (h.lt g rfl).2, h1, by unfold maxLen; omega, fun j x hj => ?_⟩
 have hj2 := (List.getElem?_eq_some_iff.1 hj).1
 rw [h.cellAt j (by omega)]
 unfold sw
 rw [List.getElem?_map, hj]
 rfl
theorem sh_if2 {b : Bool} {ws : List (List UInt8)} (h : Sh ws) : Sh (if b = true then ws.tail else ws) := by cases b <;> first | exact h | exact h.tail
theorem sh_knd {ws : List (List UInt8)} (h : Sh ws) : Sh (kndT ws) := by unfold kndT; exact sh_if2 h
theorem As.start {w w1 : World} {T : List UInt8} {bk cap : Nat} (h0 : w1.heap[w.heap.size]? = some (.cells #[.int .i64 0, .int .i64 0, .int .i64 0, .int .i64 0, .int .i64 0, .int .i64 0, .int .i64 0, .int .i64 0, .int .i64 0, .slice none 0 0, .int .i64 0] 43 (0, 0))) (hb : bk < w1.heap.size) (hc : ∀ j x, (spl 32 T)[j]? = some x → w1.cell? ⟨bk, j, none⟩ = some (.string ⟨x.toArray⟩))
   (hB : Below w.heap.size w w1) (hl : T.length ≤ 1000000000) (hz : (spl 32 T).length ≤ cap) (hm : cap ≤ maxLen) :
   As w w1.heap.size (w1.heap.size + 1) (w1.heap.size + 1 + 1) r00 (spl 32 T) (((w1.alloc (.cells #[.slice (some ⟨bk, 0, none⟩) (spl 32 T).length cap, .int .i64 0] 148)).alloc (.cells #[.int .i64 0, .int .i64 1000000, .int .i64 0, .int .i64 1000000, .int .i64 0, .int .i64 1000000] 38)).alloc (.cells #[.int .i64 0, .int .i64 0, .int .i64 0, .int .i64 (-1), .int .i64 0, .int .i64 0, .int .i64 0, .int .i64 0, .int .i64 1000000, .slice (some ⟨w1.heap.size + 1, 0, none⟩) 3 3, .int .i64 0] 43)) := by
 obtain ⟨e0, e1, e2, z3, b3⟩ := three_blocks w1 (.cells #[.slice (some ⟨bk, 0, none⟩) (spl 32 T).length cap, .int .i64 0] 148) (.cells #[.int .i64 0, .int .i64 1000000, .int .i64 0, .int .i64 1000000, .int .i64 0, .int .i64 1000000] 38) (.cells #[.int .i64 0, .int .i64 0, .int .i64 0, .int .i64 (-1), .int .i64 0, .int .i64 0, .int .i64 0, .int .i64 0, .int .i64 1000000, .slice (some ⟨w1.heap.size + 1, 0, none⟩) 3 3, .int .i64 0] 43)
 have hlt := (Array.getElem?_eq_some_iff.1 h0).1
 exact ⟨⟨hlt, by omega, by omega⟩, (b3.block _ hlt).trans h0, e2, ⟨_, _, _, _, _, _, rfl, e1⟩, ⟨bk, (spl 32 T).length, cap, 0, e0, hb, hz, hm, Nat.zero_add _, fun j x hj => by rw [Nat.zero_add]; exact (b3.cell (p := ⟨bk, j, none⟩) hb).trans (hc j x hj)⟩,
   hB.trans (b3.mono hB.size), fun x hx => Nat.le_trans ((spl_len 32 T).2 x hx) hl⟩
set_option maxHeartbeats 16000000 in
set_option maxRecDepth 100000 in
theorem specParse (T : List UInt8) (w : World) (hl : T.length ≤ 1000000000) :
   Calls Tryz.prog 84 #[.string ⟨T.toArray⟩] w (Parsed T w) := by
 obtain ⟨e0, e1, z2, b2⟩ := two_blocks w (.cells #[.int .i64 0, .int .i64 0, .int .i64 0, .int .i64 0, .int .i64 0, .int .i64 0, .int .i64 0, .int .i64 0, .int .i64 0, .slice none 0 0, .int .i64 0] 43) (.cells #[.int .i64 0, .int .i64 1000000] 38)
 have B0 := Lib.hid b2
 have HK := Lib.hid e0
 have HA := Lib.hid e1
 clear e0 e1 b2
 go_enter Tryz.func84, Tryz.ntmps84
 go_wp2_with fail
 refine (splitAt_any T 32 _ hl).mono ?_
 rintro e w1 ⟨v, rfl, ho, hb⟩
 have E1 := Lib.hid ((hb.block w.heap.size (by omega)).trans HK.out)
 have A1 := (hb.block (w.heap.size + 1) (by omega)).trans HA.out
 obtain ⟨⟨a0, a1⟩, _⟩ := row2 A1
 have z1 : w.heap.size + 1 < w1.heap.size := by have := hb.size; omega
 have B1 := Lib.hid (B0.out.trans (hb.mono (by omega)))
 obtain ⟨bk, cap, rfl, _, hs, hc1, hc2, hc⟩ := Sw.of_owns ho (spl_ne 32 T)
 have A0 := Lib.hid (As.start (w := w) (T := T) E1.out hs hc B1.out hl hc1 hc2)
 have HG0 : Hid (Gh T (fun r0 => spl 32 T = dec r0.num :: wLevel :: dec r0.lvl :: wRank :: dec r0.rank :: kindW r0.kind :: dec r0.value :: rest1 r0 ∧ True)) := fun r0 ok ht => ⟨by rw [← ht, spl_text, restW_rest ok]; rfl, trivial⟩
 have zw : w.heap.size ≤ w.heap.size := Nat.le_refl _
 clear hc hs hb ho E1 HK HA B0 A1 B1 hc1 hc2
 obtain ⟨ws, hws⟩ : ∃ ws, ws = spl 32 T := ⟨_, rfl⟩
 rw [← hws] at A0 HG0 ⊢
 clear hws
 go_wp2_with fail
 refine (swNumber_any _ ws _ A0.out.sw A0.out.sh).mono ?_
 rintro e W1 ⟨rfl, st⟩
 have a := A0.out.step st A0.out.sh.tail
 have gg := gs_num (n := Rl.num) (rest := fun r0 => wLevel :: dec r0.lvl :: wRank :: dec r0.rank :: kindW r0.kind :: dec r0.value :: rest1 r0) (P := fun _ => True) HG0.out num_b
 clear st A0 HG0 a0 a1
 revert a gg
 generalize numV ws = n1
 generalize ws.tail = ws1
 intro a gg
 obtain ⟨cg, pg⟩ := a.at 0 _ rfl
 have A1 := Lib.hid (a.num n1)
 have G1 := Lib.hid gg
 clear a gg
 go_wp2_with fail
 refine (swWord_any _ ws1 wLevel _ A1.out.sw).mono ?_
 rintro e W2 ⟨rfl, st⟩
 have a := A1.out.step st (sh_if2 A1.out.sh)
 cases hb : isW ws1 wLevel
 · have fin := Lib.hid (gs_not G1.out hb)
   have K9 := Lib.hid a.K
   have B9 := Lib.hid a.bel
   clear st a G1 A1 cg pg hb
   go_upto_region 6 with fail
   refine wp_zero3 (t := 26) (pd := 2) (ty := 43) rfl rfl rfl rfl rfl (.bool false) rfl rfl w.heap.size #[.int .i64 0, .int .i64 0, .int .i64 0, .int .i64 0, .int .i64 0, .int .i64 0, .int .i64 0, .int .i64 0, .int .i64 0, .slice none 0 0, .int .i64 0] #[.int .i64 0, .int .i64 0, .int .i64 0, .int .i64 0, .int .i64 0, .int .i64 0, .int .i64 0, .int .i64 0, .int .i64 0, .slice none 0 0, .int .i64 0] 43 11 row43 rfl rfl built_rule (by kernel_rfl) K9.out (by kernel_rfl) (by simp [Value.oneCell']) ?_
   have KR := Lib.hid (setRow_heap W2 w.heap.size _ #[.int .i64 0, .int .i64 0, .int .i64 0, .int .i64 0, .int .i64 0, .int .i64 0, .int .i64 0, .int .i64 0, .int .i64 0, .slice none 0 0, .int .i64 0] 43 (0, 0) K9.out)
   have BR := Lib.hid (setRow_below B9.out zw B9.out.size #[.int .i64 0, .int .i64 0, .int .i64 0, .int .i64 0, .int .i64 0, .int .i64 0, .int .i64 0, .int .i64 0, .int .i64 0, .slice none 0 0, .int .i64 0])
   revert KR BR
   generalize W2.setRow w.heap.size _ = W10
   intro KR BR
   go_wp
   refine bodyPost_ret (results_row_tmp (p := 2) (q := 3) (ty := 43) (by kernel_rfl) row43 _ _ w.heap.size 43 #[.int .i64 0, .int .i64 0, .int .i64 0, .int .i64 0, .int .i64 0, .int .i64 0, .int .i64 0, .int .i64 0, .int .i64 0, .slice none 0 0, .int .i64 0] rfl (by kernel_rfl) KR.out) rfl ?_
   exact ⟨.inr ⟨fin.out, rfl⟩, BR.out⟩
 have gg := gs_is (rest := fun r0 => dec r0.lvl :: wRank :: dec r0.rank :: kindW r0.kind :: dec r0.value :: rest1 r0) G1.out hb
 rw [hb, if_pos rfl] at a
 clear st A1 cg pg G1 hb
 revert a gg
 generalize ws1.tail = ws2
 intro a gg
 have A2 := Lib.hid a
 have G2 := Lib.hid gg
 clear a gg
 go_wp2_with fail
 refine (swNumber_any _ ws2 _ A2.out.sw A2.out.sh).mono ?_
 rintro e W3 ⟨rfl, st⟩
 have a := A2.out.step st A2.out.sh.tail
 have gg := gs_num (n := Rl.lvl) (rest := fun r0 => wRank :: dec r0.rank :: kindW r0.kind :: dec r0.value :: rest1 r0) G2.out lvl_b
 clear st A2 G2
 revert a gg
 generalize numV ws2 = n3
 generalize ws2.tail = ws3
 intro a gg
 obtain ⟨cg, pg⟩ := a.at 1 _ rfl
 have A3 := Lib.hid (a.lvl n3)
 have G3 := Lib.hid gg
 clear a gg
 go_wp2_with fail
 refine (swWord_any _ ws3 wRank _ A3.out.sw).mono ?_
 rintro e W4 ⟨rfl, st⟩
 have a := A3.out.step st (sh_if2 A3.out.sh)
 cases hb : isW ws3 wRank
 · have fin := Lib.hid (gs_not G3.out hb)
   have K9 := Lib.hid a.K
   have B9 := Lib.hid a.bel
   clear st a G3 A3 cg pg hb
   go_upto_region 9 with fail
   refine wp_zero3 (t := 33) (pd := 2) (ty := 43) rfl rfl rfl rfl rfl (.bool false) rfl rfl w.heap.size #[.int .i64 0, .int .i64 0, .int .i64 0, .int .i64 0, .int .i64 0, .int .i64 0, .int .i64 0, .int .i64 0, .int .i64 0, .slice none 0 0, .int .i64 0] #[.int .i64 0, .int .i64 0, .int .i64 0, .int .i64 0, .int .i64 0, .int .i64 0, .int .i64 0, .int .i64 0, .int .i64 0, .slice none 0 0, .int .i64 0] 43 11 row43 rfl rfl built_rule (by kernel_rfl) K9.out (by kernel_rfl) (by simp [Value.oneCell']) ?_
   have KR := Lib.hid (setRow_heap W4 w.heap.size _ #[.int .i64 0, .int .i64 0, .int .i64 0, .int .i64 0, .int .i64 0, .int .i64 0, .int .i64 0, .int .i64 0, .int .i64 0, .slice none 0 0, .int .i64 0] 43 (0, 0) K9.out)
   have BR := Lib.hid (setRow_below B9.out zw B9.out.size #[.int .i64 0, .int .i64 0, .int .i64 0, .int .i64 0, .int .i64 0, .int .i64 0, .int .i64 0, .int .i64 0, .int .i64 0, .slice none 0 0, .int .i64 0])
   revert KR BR
   generalize W4.setRow w.heap.size _ = W10
   intro KR BR
   go_wp
   refine bodyPost_ret (results_row_tmp (p := 2) (q := 3) (ty := 43) (by kernel_rfl) row43 _ _ w.heap.size 43 #[.int .i64 0, .int .i64 0, .int .i64 0, .int .i64 0, .int .i64 0, .int .i64 0, .int .i64 0, .int .i64 0, .int .i64 0, .slice none 0 0, .int .i64 0] rfl (by kernel_rfl) KR.out) rfl ?_
   exact ⟨.inr ⟨fin.out, rfl⟩, BR.out⟩
 have gg := gs_is (rest := fun r0 => dec r0.rank :: kindW r0.kind :: dec r0.value :: rest1 r0) G3.out hb
 rw [hb, if_pos rfl] at a
 clear st A3 cg pg G3 hb
 revert a gg
 generalize ws3.tail = ws4
 intro a gg
 have A4 := Lib.hid a
 have G4 := Lib.hid gg
 clear a gg
 go_wp2_with fail
 refine (swNumber_any _ ws4 _ A4.out.sw A4.out.sh).mono ?_
 rintro e W5 ⟨rfl, st⟩
 have a := A4.out.step st A4.out.sh.tail
 have gg := gs_num (n := Rl.rank) (rest := fun r0 => kindW r0.kind :: dec r0.value :: rest1 r0) G4.out rank_b
 clear st A4 G4
 revert a gg
 generalize numV ws4 = n5
 generalize ws4.tail = ws5
 intro a gg
 obtain ⟨cg, pg⟩ := a.at 2 _ rfl
 have A5 := Lib.hid (a.rank n5)
 have G5 := Lib.hid gg
 clear a gg
 go_wp2_with fail
 refine (swKind_any _ ws5 _ A5.out.sw).mono ?_
 rintro e W6 ⟨rfl, st⟩
 have a := A5.out.step st (sh_knd A5.out.sh)
 have gg := gs_kind (rest := fun r0 => dec r0.value :: rest1 r0) G5.out
 clear st A5 G5 cg pg
 revert a gg
 generalize kndV ws5 = n6
 generalize kndT ws5 = ws6
 intro a gg
 obtain ⟨cg, pg⟩ := a.at 4 _ rfl
 have A6 := Lib.hid (a.kind n6)
 have G6 := Lib.hid gg
 clear a gg
 go_wp2_with fail
 refine (swNumber_any _ ws6 _ A6.out.sw A6.out.sh).mono ?_
 rintro e W7 ⟨rfl, st⟩
 have a := A6.out.step st A6.out.sh.tail
 have gg := gs_num (n := Rl.value) (rest := fun r0 => rest1 r0) G6.out val_b
 clear st A6 G6
 revert a gg
 generalize numV ws6 = n7
 generalize ws6.tail = ws7
 intro a gg
 obtain ⟨cg, pg⟩ := a.at 5 _ rfl
 have A7 := Lib.hid (a.value n7)
 have G7 := Lib.hid gg
 clear a gg
 obtain ⟨r, ws, AS, KS⟩ : ∃ r ws, Hid (As w w1.heap.size (w1.heap.size + 1) (w1.heap.size + 1 + 1) r ws (W7.setCell ⟨w1.heap.size + 1 + 1, 5, none⟩ (.int .i64 n7))) ∧ Hid (J1 T r ws) :=
   ⟨_, _, A7, G7.out.imp fun r0 ok _ ⟨h1, h2, h3, h4, h5, h6, _⟩ => ⟨h1, by subst h2 h3 h4 h5 h6; rfl⟩⟩
 clear A7 G7
 go_wp2_with fail
 refine (swWord_any _ ws wGroup _ AS.out.sw).mono ?_
 rintro e W6 ⟨rfl, st⟩
 have a := AS.out.step st (sh_if2 AS.out.sh)
 have AX := Lib.hid a
 clear st AS a
 go_upto_if 44 with fail
 go_cut [] from 7 (fun wr => ∃ r ws, Hid (As w w1.heap.size (w1.heap.size + 1) (w1.heap.size + 1 + 1) r ws wr) ∧ Hid (J2 T r ws))
 case first =>
   have a := AX.out
   cases hb : isW ws wGroup
   · rw [hb, if_neg (by decide)] at a
     have a := Lib.hid a
     have kk := Lib.hid (j1_no KS.out hb)
     clear KS AX
     go_wp2
     go_meet
     case rel => exact ⟨r, ws, a, kk⟩
   · rw [hb, if_pos rfl] at a
     have kk := Lib.hid (j1_yes KS.out hb)
     clear KS AX
     go_wp2_with fail
     refine (swNumber_any _ ws.tail _ a.sw a.sh).mono ?_
     rintro e W7 ⟨rfl, st⟩
     have a := a.step st a.sh.tail
     obtain ⟨cg, pg⟩ := a.at 3 _ rfl
     obtain ⟨n, hn⟩ : ∃ n, n = numV ws.tail := ⟨_, rfl⟩
     rw [← hn] at kk ⊢
     have a := Lib.hid (a.group n)
     clear st hn
     go_wp2
     go_meet
     case rel => exact ⟨_, _, a, kk⟩
 clear AX KS cg pg
 obtain ⟨r, ws, AS, KS⟩ := hcut
 go_wp2_with fail
 refine (swWord_any _ ws wCap _ AS.out.sw).mono ?_
 rintro e W6 ⟨rfl, st⟩
 have a := AS.out.step st (sh_if2 AS.out.sh)
 have AX := Lib.hid a
 clear st AS a
 go_upto_if 49 with fail
 go_cut [] from 7 (fun wr => ∃ r ws, Hid (As w w1.heap.size (w1.heap.size + 1) (w1.heap.size + 1 + 1) r ws wr) ∧ Hid (J3 T r ws))
 case first =>
   have a := AX.out
   cases hb : isW ws wCap
   · rw [hb, if_neg (by decide)] at a
     have a := Lib.hid a
     have kk := Lib.hid (j2_no KS.out hb)
     clear KS AX
     go_wp2
     go_meet
     case rel => exact ⟨r, ws, a, kk⟩
   · rw [hb, if_pos rfl] at a
     have kk := Lib.hid (j2_yes KS.out hb)
     clear KS AX
     go_wp2_with fail
     refine (swNumber_any _ ws.tail _ a.sw a.sh).mono ?_
     rintro e W7 ⟨rfl, st⟩
     have a := a.step st a.sh.tail
     obtain ⟨cg, pg⟩ := a.at 6 _ rfl
     obtain ⟨n, hn⟩ : ∃ n, n = numV ws.tail := ⟨_, rfl⟩
     rw [← hn] at kk ⊢
     have a := Lib.hid (a.cap n)
     clear st hn
     go_wp2
     go_meet
     case rel => exact ⟨_, _, a, kk⟩
 clear AX KS
 obtain ⟨r, ws, AS, KS⟩ := hcut
 go_wp2_with fail
 refine (swWord_any _ ws wTotal _ AS.out.sw).mono ?_
 rintro e W6 ⟨rfl, st⟩
 have a := AS.out.step st (sh_if2 AS.out.sh)
 have AX := Lib.hid a
 clear st AS a
 go_upto_if 54 with fail
 go_cut [] from 7 (fun wr => ∃ r ws, Hid (As w w1.heap.size (w1.heap.size + 1) (w1.heap.size + 1 + 1) r ws wr) ∧ Hid (J4 T r ws))
 case first =>
   have a := AX.out
   cases hb : isW ws wTotal
   · rw [hb, if_neg (by decide)] at a
     have a := Lib.hid a
     have kk := Lib.hid (j3_no KS.out hb)
     clear KS AX
     go_wp2
     go_meet
     case rel => exact ⟨r, ws, a, kk⟩
   · rw [hb, if_pos rfl] at a
     have kk := Lib.hid (j3_yes KS.out hb)
     clear KS AX
     go_wp2_with fail
     refine (swSpan_any _ ws.tail _ a.sw a.sh).mono ?_
     rintro e W7 ⟨rfl, st⟩
     have a := a.step st a.sh.tail
     obtain ⟨cg, pg⟩ := a.at 7 _ rfl
     obtain ⟨cg2, pg2⟩ := a.at 8 _ rfl
     obtain ⟨n, hn⟩ : ∃ n, n = (spnV ws.tail).1 := ⟨_, rfl⟩
     obtain ⟨n2, hn2⟩ : ∃ n, n = (spnV ws.tail).2 := ⟨_, rfl⟩
     rw [← hn, ← hn2] at kk ⊢
     have a := Lib.hid ((a.lo n).hi n2)
     clear st hn hn2
     go_wp2
     go_meet
     case rel => exact ⟨_, _, a, kk⟩
 clear AX KS
 obtain ⟨r, ws, AS, KS⟩ := hcut
 refine (by assumption : ∀ (a : Act) (w' : World), Code.wp _ _ _ a w' → _) _ _ ?_
 refine wp_seq_k (fun K9 hK9 => ?_)
 go_cut [] from 7 (fun wr => ∃ r ws, Hid (As w w1.heap.size (w1.heap.size + 1) (w1.heap.size + 1 + 1) r ws wr) ∧ Hid (J5 T r ws))
 case first =>
   go_wp2
   go_loopw [3] (fun fv wr => fv = .bool false ∧ ∃ r ws, Hid (As w w1.heap.size (w1.heap.size + 1) (w1.heap.size + 1 + 1) r ws wr) ∧ Hid (JC T r ws)) (fun _ wr => swLen wr w1.heap.size)
   case atStart => exact ⟨rfl, r, ws, AS, Lib.hid (j4_start KS.out)⟩
   case round =>
     clear AS KS
     obtain ⟨rfl, r, ws, AS, KS⟩ := hrel
     have hsl := Lib.hid AS.out.sw.len
     go_wp2_with fail
     refine (swWord_any _ ws wCount _ AS.out.sw).mono ?_
     rintro e W6 ⟨rfl, st⟩
     have a := AS.out.step st (sh_if2 AS.out.sh)
     clear st AS
     cases hb : isW ws wCount
     · rw [hb, if_neg (by decide)] at a
       have a := Lib.hid a
       have kk := Lib.hid (jc_end KS.out hb)
       clear KS
       go_wp2
       go_meet
       case rel => exact ⟨r, ws, a, kk⟩
     · rw [hb, if_pos rfl] at a
       have ks := jc_step KS.out hb
       have hlen := Lib.hid (isW_len hb)
       clear KS
       go_wp2_with fail
       refine (swNumber_any _ ws.tail _ a.sw a.sh).mono ?_
       rintro e W7 ⟨rfl, st⟩
       have a := a.step st a.sh.tail
       clear st
       revert a ks
       generalize numV ws.tail = n
       intro ks a
       cases hw : wi n 0 2
       · have fin := Lib.hid (jc_out hw ks)
         have K9 := Lib.hid a.K
         have B9 := Lib.hid a.bel
         clear a ks
         go_wp2_with fail
         refine (inRange_any _ _ _ _).mono ?_
         rintro e w9 ⟨rfl, hw9⟩
         subst hw9
         rw [hw]
         go_upto_region 22 with fail
         refine wp_zero3 (t := 66) (pd := 2) (ty := 43) rfl rfl rfl rfl rfl (.bool false) rfl rfl w.heap.size #[.int .i64 0, .int .i64 0, .int .i64 0, .int .i64 0, .int .i64 0, .int .i64 0, .int .i64 0, .int .i64 0, .int .i64 0, .slice none 0 0, .int .i64 0] #[.int .i64 0, .int .i64 0, .int .i64 0, .int .i64 0, .int .i64 0, .int .i64 0, .int .i64 0, .int .i64 0, .int .i64 0, .slice none 0 0, .int .i64 0] 43 11 row43 rfl rfl built_rule (by kernel_rfl) K9.out (by kernel_rfl) (by simp [Value.oneCell']) ?_
         have KR := Lib.hid (setRow_heap w9 w.heap.size _ #[.int .i64 0, .int .i64 0, .int .i64 0, .int .i64 0, .int .i64 0, .int .i64 0, .int .i64 0, .int .i64 0, .int .i64 0, .slice none 0 0, .int .i64 0] 43 (0, 0) K9.out)
         have BR := Lib.hid (setRow_below B9.out zw B9.out.size #[.int .i64 0, .int .i64 0, .int .i64 0, .int .i64 0, .int .i64 0, .int .i64 0, .int .i64 0, .int .i64 0, .int .i64 0, .slice none 0 0, .int .i64 0])
         revert KR BR
         generalize w9.setRow w.heap.size _ = W10
         intro KR BR
         go_wp
         refine bodyPost_ret (results_row_tmp (p := 2) (q := 3) (ty := 43) (by kernel_rfl) row43 _ _ w.heap.size 43 #[.int .i64 0, .int .i64 0, .int .i64 0, .int .i64 0, .int .i64 0, .int .i64 0, .int .i64 0, .int .i64 0, .int .i64 0, .slice none 0 0, .int .i64 0] rfl (by kernel_rfl) KR.out) rfl ?_
         exact ⟨.inr ⟨fin.out, rfl⟩, BR.out⟩
       · have hw2 := hw
         rw [wi_true] at hw2
         obtain ⟨j, rfl⟩ := Int.eq_ofNat_of_zero_le hw2.1
         have hj : j < 3 := by omega
         have A7 := Lib.hid a
         have ks := Lib.hid ks
         clear a
         go_wp2_with (go_at_call 54; refine (inRange_any _ _ _ _).mono ?_; rintro e w9 ⟨rfl, hw9⟩; subst hw9; rw [hw])
         obtain ⟨p, hp⟩ : ∃ p, p = spnV ws.tail.tail := ⟨_, rfl⟩
         rw [← hp] at ks
         have HP := Lib.hid hp
         have A7d := Lib.hid (A7.out.below (Below.refl _ w9).drew)
         obtain ⟨c9, _⟩ := A7.out.at 9 _ rfl
         have hgb : w1.heap.size + 1 + 1 ≠ w1.heap.size + 1 := by omega
         have hj0 : (0 : Int) ≤ (j : Int) := by omega
         have hj3 : (j : Int) < (3 : Int) := by omega
         clear hp A7
         go_region_held3 (fun w' => w'.cell? ⟨w1.heap.size + 1 + 1, 9, none⟩ = some (.slice (some ⟨w1.heap.size + 1, 0, none⟩) 3 3))
           (first
             | exact c9
             | exact (cell_far _ hgb _ _ _ _ 9).trans c9
             | (go_keep; done))
           ((first
             | (go_at_call 127; refine (swSpan_any _ ws.tail.tail _ A7d.out.sw A7d.out.sh).mono ?_; rintro e W8 ⟨rfl, st⟩; rw [← HP.out]; have A8 := A7d.out.step st A7d.out.sh.tail; obtain ⟨c9, _⟩ := A8.at 9 _ rfl; obtain ⟨x0, y0, x1, y1, x2, y2, _, h2⟩ := A8.F; obtain ⟨_, _, i0, i1, j0, j1⟩ := six_at h2 hj; have A8 := Lib.hid A8; clear st h2)))
         all_goals
           have A9 := Lib.hid (A8.out.count j hj p.1 p.2)
           have hm := Lib.hid A9.out.sw.len
           have kk := Lib.hid (jc_in (j := j) rfl ks.out)
           clear A8 c9 i0 i1 j0 j1
           go_roundw
           case rel => exact ⟨_, _, _, _, _, _, _, _, _, _, _, _, _, _, _, _, _, ⟨rfl, _, _, A9, kk⟩, rfl⟩
           case measure => rw [hm.out, hsl.out]; exact hlen.out
 clear AS KS
 obtain ⟨r, ws, AS, KS⟩ := hcut
 go_wp2_with fail
 refine (swWord_any _ ws wCoupon _ AS.out.sw).mono ?_
 rintro e W6 ⟨rfl, st⟩
 have a := AS.out.step st (sh_if2 AS.out.sh)
 have AX := Lib.hid a
 clear st AS a
 go_upto_if 75 with fail
 go_cut [] from 7 (fun wr => ∃ r ws, Hid (As w w1.heap.size (w1.heap.size + 1) (w1.heap.size + 1 + 1) r ws wr) ∧ Hid (J6 T r))
 case first =>
   have a := AX.out
   cases hb : isW ws wCoupon
   · rw [hb, if_neg (by decide)] at a
     have a := Lib.hid a
     have kk := Lib.hid (j5_no KS.out hb)
     clear KS AX
     go_wp2
     go_meet
     case rel => exact ⟨r, ws, a, kk⟩
   · rw [hb, if_pos rfl] at a
     have kk := Lib.hid (j5_yes KS.out hb)
     clear KS AX
     go_wp2_with fail
     refine (swNumber_any _ ws.tail _ a.sw a.sh).mono ?_
     rintro e W7 ⟨rfl, st⟩
     have a := a.step st a.sh.tail
     obtain ⟨cg, pg⟩ := a.at 10 _ rfl
     obtain ⟨n, hn⟩ : ∃ n, n = numV ws.tail := ⟨_, rfl⟩
     rw [← hn] at kk ⊢
     have a := Lib.hid (a.coupon n)
     clear st hn
     go_wp2
     go_meet
     case rel => exact ⟨_, _, a, kk⟩
 clear AX KS
 obtain ⟨r, ws, AS, KS⟩ := hcut
 have A := AS.out
 obtain ⟨o1, o2, o3⟩ := A.ord
 obtain ⟨⟨c0, c1, c2, c3, c4, c5, c6, c7, c8, c9, c10⟩, _⟩ := row11 A.G
 obtain ⟨a0, b0, a1, b1, a3, b3, h1, h2⟩ := A.F
 have RD : Rd wc 2 (.slice (some ⟨w1.heap.size + 1, 0, none⟩) 3 3) r.counts.length (pr r.counts) := by rw [h1]; exact Rd.of_owns (six_owns h2 (Nat.zero_le _))
 have RD := Lib.hid RD
 have H1 := Lib.hid h1
 have H2 := Lib.hid h2
 clear h1 h2 A
 cases hok : okRu r
 · have fin : Hid (∀ r0, okRu r0 = true → textR r0 ≠ T) := fun r0 h3 h4 => by
     have := KS.out r0 h3 h4
     subst this
     rw [hok] at h3
     cases h3
   go_wp2_with fail
   refine (specRule_in r _ _ RD.out).mono ?_
   rintro e W9 ⟨rfl, hb⟩
   rw [hok]
   have K9 := Lib.hid ((hb.block w.heap.size (Array.getElem?_eq_some_iff.1 AS.out.K).1).trans AS.out.K)
   have B9 := Lib.hid (AS.out.bel.trans (hb.mono AS.out.bel.size))
   clear c0 c1 c2 c3 c4 c5 c6 c7 c8 c9 c10 hb KS AS hok
   go_upto_region 27 with fail
   refine wp_zero3 (t := 89) (pd := 2) (ty := 43) rfl rfl rfl rfl rfl (.bool false) rfl rfl w.heap.size #[.int .i64 0, .int .i64 0, .int .i64 0, .int .i64 0, .int .i64 0, .int .i64 0, .int .i64 0, .int .i64 0, .int .i64 0, .slice none 0 0, .int .i64 0] #[.int .i64 0, .int .i64 0, .int .i64 0, .int .i64 0, .int .i64 0, .int .i64 0, .int .i64 0, .int .i64 0, .int .i64 0, .slice none 0 0, .int .i64 0] 43 11 row43 rfl rfl built_rule (by kernel_rfl) K9.out (by kernel_rfl) (by simp [Value.oneCell']) ?_
   have KR := Lib.hid (setRow_heap W9 w.heap.size _ #[.int .i64 0, .int .i64 0, .int .i64 0, .int .i64 0, .int .i64 0, .int .i64 0, .int .i64 0, .int .i64 0, .int .i64 0, .slice none 0 0, .int .i64 0] 43 (0, 0) K9.out)
   have BR := Lib.hid (setRow_below B9.out zw B9.out.size #[.int .i64 0, .int .i64 0, .int .i64 0, .int .i64 0, .int .i64 0, .int .i64 0, .int .i64 0, .int .i64 0, .int .i64 0, .slice none 0 0, .int .i64 0])
   revert KR BR
   generalize W9.setRow w.heap.size _ = W10
   intro KR BR
   go_wp
   refine bodyPost_ret (results_row_tmp (p := 2) (q := 3) (ty := 43) (by kernel_rfl) row43 _ _ w.heap.size 43 #[.int .i64 0, .int .i64 0, .int .i64 0, .int .i64 0, .int .i64 0, .int .i64 0, .int .i64 0, .int .i64 0, .int .i64 0, .slice none 0 0, .int .i64 0] rfl (by kernel_rfl) KR.out) rfl ?_
   exact ⟨.inr ⟨fin.out, rfl⟩, BR.out⟩
 · go_wp2_with fail
   refine (specRule_in r _ _ RD.out).mono ?_
   rintro e W8 ⟨rfl, hb⟩
   rw [hok]
   have k8 := (hb.block w.heap.size (Array.getElem?_eq_some_iff.1 AS.out.K).1).trans AS.out.K
   have g8 := (hb.block (w1.heap.size + 1 + 1) (Array.getElem?_eq_some_iff.1 AS.out.G).1).trans AS.out.G
   have f8 := (hb.block (w1.heap.size + 1) (Array.getElem?_eq_some_iff.1 H2.out).1).trans H2.out
   have B8 := Lib.hid (AS.out.bel.trans (hb.mono AS.out.bel.size))
   have R8 := Lib.hid (RD.out.below hb (Nat.le_refl _))
   have K8 := Lib.hid k8
   have G8 := Lib.hid g8
   have F8 := Lib.hid f8
   clear c0 c1 c2 c3 c4 c5 c6 c7 c8 c9 c10 hb k8 f8 RD AS H2
   obtain ⟨⟨c0, c1, c2, c3, c4, c5, c6, c7, c8, c9, c10⟩, _⟩ := row11 g8
   clear g8
   go_wp2_with fail
   refine (formatRule_any r _ _ R8.out hok).mono ?_
   rintro e W9 ⟨rfl, hb⟩
   have k9 := (hb.block w.heap.size (Array.getElem?_eq_some_iff.1 K8.out).1).trans K8.out
   have g9 := (hb.block (w1.heap.size + 1 + 1) (Array.getElem?_eq_some_iff.1 G8.out).1).trans G8.out
   have f9 := (hb.block (w1.heap.size + 1) (Array.getElem?_eq_some_iff.1 F8.out).1).trans F8.out
   have B9 := Lib.hid (B8.out.trans (hb.mono B8.out.size))
   have K9 := Lib.hid k9
   have G9 := Lib.hid g9
   have F9 := Lib.hid f9
   clear c0 c1 c2 c3 c4 c5 c6 c7 c8 c9 c10 hb k9 g9 f9 R8 K8 G8 F8 B8
   by_cases hf : textR r = T
   · have fin : Hid (okRu r = true ∧ textR r = T ∧ (∀ r0, okRu r0 = true → textR r0 = T → r0 = r)) := ⟨hok, hf, fun r0 h3 h4 => (KS.out r0 h3 h4).symm⟩
     have hb9 : (textR r == T) = true := by simpa using hf
     clear hf hok KS
     go_upto_region 28 with fail
     refine wp_copy3 (t := 90) (pd := 2) (ps := 6) (ty := 43) rfl rfl rfl rfl rfl (.bool true) rfl rfl (w1.heap.size + 1 + 1) w.heap.size #[.int .i64 r.num, .int .i64 r.lvl, .int .i64 r.rank, .int .i64 r.group, .int .i64 r.kind, .int .i64 r.value, .int .i64 r.cap, .int .i64 r.lo, .int .i64 r.hi, .slice (some ⟨w1.heap.size + 1, 0, none⟩) 3 3, .int .i64 r.coupon] #[.int .i64 0, .int .i64 0, .int .i64 0, .int .i64 0, .int .i64 0, .int .i64 0, .int .i64 0, .int .i64 0, .int .i64 0, .slice none 0 0, .int .i64 0] 43 43 11 row43 rfl rfl (by kernel_rfl) G9.out (by kernel_rfl) K9.out (by kernel_rfl) (by simp [Value.oneCell']) ?_
     have KR := Lib.hid (setRow_heap W9 w.heap.size _ #[.int .i64 r.num, .int .i64 r.lvl, .int .i64 r.rank, .int .i64 r.group, .int .i64 r.kind, .int .i64 r.value, .int .i64 r.cap, .int .i64 r.lo, .int .i64 r.hi, .slice (some ⟨w1.heap.size + 1, 0, none⟩) 3 3, .int .i64 r.coupon] 43 (0, 0) K9.out)
     have BR := Lib.hid (setRow_below B9.out zw B9.out.size #[.int .i64 r.num, .int .i64 r.lvl, .int .i64 r.rank, .int .i64 r.group, .int .i64 r.kind, .int .i64 r.value, .int .i64 r.cap, .int .i64 r.lo, .int .i64 r.hi, .slice (some ⟨w1.heap.size + 1, 0, none⟩) 3 3, .int .i64 r.coupon])
     have O9 : W9.ownsRow w.heap.size 38 2 (.slice (some ⟨w1.heap.size + 1, 0, none⟩) 3 3) r.counts.length (pr r.counts) := by rw [H1.out]; exact six_owns F9.out (by omega)
     have NV : ∀ k, (Value.slice (some ⟨w1.heap.size + 1, 0, none⟩) 3 3).ownBlock = some k → k ≠ w.heap.size := fun k hk => by have : w1.heap.size + 1 = k := Option.some.inj hk; omega
     have OR := Lib.hid (owns_row0 O9 NV #[.int .i64 r.num, .int .i64 r.lvl, .int .i64 r.rank, .int .i64 r.group, .int .i64 r.kind, .int .i64 r.value, .int .i64 r.cap, .int .i64 r.lo, .int .i64 r.hi, .slice (some ⟨w1.heap.size + 1, 0, none⟩) 3 3, .int .i64 r.coupon])
     clear O9 NV
     revert KR BR OR
     generalize W9.setRow w.heap.size _ = W10
     intro KR BR OR
     go_wp
     refine bodyPost_ret (results_row_tmp (p := 2) (q := 3) (ty := 43) (by kernel_rfl) row43 _ _ w.heap.size 43 #[.int .i64 r.num, .int .i64 r.lvl, .int .i64 r.rank, .int .i64 r.group, .int .i64 r.kind, .int .i64 r.value, .int .i64 r.cap, .int .i64 r.lo, .int .i64 r.hi, .slice (some ⟨w1.heap.size + 1, 0, none⟩) 3 3, .int .i64 r.coupon] rfl (by kernel_rfl) KR.out) rfl ?_
     exact ⟨.inl ⟨r, .slice (some ⟨w1.heap.size + 1, 0, none⟩) 3 3, fin.out.1, fin.out.2.1, fin.out.2.2, rfl, OR.out⟩, BR.out⟩
   · have fin : Hid (∀ r0, okRu r0 = true → textR r0 ≠ T) := fun r0 h3 h4 => hf (by rw [KS.out r0 h3 h4]; exact h4)
     have hb9 : (textR r == T) = false := by simpa using hf
     clear hf hok KS
     go_upto_region 27 with fail
     refine wp_zero3 (t := 89) (pd := 2) (ty := 43) rfl rfl rfl rfl rfl (.bool false) rfl rfl w.heap.size #[.int .i64 0, .int .i64 0, .int .i64 0, .int .i64 0, .int .i64 0, .int .i64 0, .int .i64 0, .int .i64 0, .int .i64 0, .slice none 0 0, .int .i64 0] #[.int .i64 0, .int .i64 0, .int .i64 0, .int .i64 0, .int .i64 0, .int .i64 0, .int .i64 0, .int .i64 0, .int .i64 0, .slice none 0 0, .int .i64 0] 43 11 row43 rfl rfl built_rule (by kernel_rfl) K9.out (by kernel_rfl) (by simp [Value.oneCell']) ?_
     have KR := Lib.hid (setRow_heap W9 w.heap.size _ #[.int .i64 0, .int .i64 0, .int .i64 0, .int .i64 0, .int .i64 0, .int .i64 0, .int .i64 0, .int .i64 0, .int .i64 0, .slice none 0 0, .int .i64 0] 43 (0, 0) K9.out)
     have BR := Lib.hid (setRow_below B9.out zw B9.out.size #[.int .i64 0, .int .i64 0, .int .i64 0, .int .i64 0, .int .i64 0, .int .i64 0, .int .i64 0, .int .i64 0, .int .i64 0, .slice none 0 0, .int .i64 0])
     revert KR BR
     generalize W9.setRow w.heap.size _ = W10
     intro KR BR
     go_wp
     refine bodyPost_ret (results_row_tmp (p := 2) (q := 3) (ty := 43) (by kernel_rfl) row43 _ _ w.heap.size 43 #[.int .i64 0, .int .i64 0, .int .i64 0, .int .i64 0, .int .i64 0, .int .i64 0, .int .i64 0, .int .i64 0, .int .i64 0, .slice none 0 0, .int .i64 0] rfl (by kernel_rfl) KR.out) rfl ?_
     exact ⟨.inr ⟨fin.out, rfl⟩, BR.out⟩
end Go.Proofs.YtijofgaekmahkaaGreatDoor
