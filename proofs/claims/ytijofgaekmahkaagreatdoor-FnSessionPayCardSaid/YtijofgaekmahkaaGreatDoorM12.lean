/- Joined texts: Walks: do two guards meet, in the reference. Walks: are two rules in conflict, both ways. Conditions: none. -/
import Derived.Test.YtijofgaekmahkaaGreatDoorM11
namespace Go.Proofs.YtijofgaekmahkaaGreatDoor
open Go.RowKit
theorem mt_start2 {w w3 : World} (r q : Rl) (u v : Value) (x : Int) (h0 : w3.heap[w.heap.size]? = some (.cells #[.int .i64 r.lo, .int .i64 r.hi, u, .int .i64 r.coupon] 41 (0, 0))) (h1 : w3.heap[w.heap.size + 1]? = some (.cells #[.int .i64 q.lo, .int .i64 q.hi, v, .int .i64 q.coupon] 41 (0, 0)))
   (h2 : w3.heap[w.heap.size + 1 + 1]? = some (.cells #[.int .i64 0, .slice none 0 0, .slice none 0 0] 110 (0, 0))) (hb : Below w.heap.size w w3) :
   Mt w (w3.heap.size + 1 + 1) r q u v (((w3.alloc (.cells #[] 3)).alloc (.cells #[] 3)).alloc (.cells #[.int .i64 x, .slice (some ⟨w3.heap.size, 0, none⟩) 0 0, .slice (some ⟨w3.heap.size + 1, 0, none⟩) 0 0] 110)) x (.slice (some ⟨w3.heap.size, 0, none⟩) 0 0) (.slice (some ⟨w3.heap.size + 1, 0, none⟩) 0 0) [] [] := by
 obtain ⟨e0, e1, e2, z3, b3⟩ := three_blocks w3 (.cells #[] 3) (.cells #[] 3) (.cells #[.int .i64 x, .slice (some ⟨w3.heap.size, 0, none⟩) 0 0, .slice (some ⟨w3.heap.size + 1, 0, none⟩) 0 0] 110)
 have l2 := (Array.getElem?_eq_some_iff.1 h2).1
 exact ⟨(b3.block _ (by omega)).trans h0, (b3.block _ (by omega)).trans h1, (b3.block _ (by omega)).trans h2, e2, ⟨rfl, .inr ⟨_, 0, #[], rfl, by omega, e0, Nat.le_refl _, Nat.zero_le _, rfl, rfl⟩⟩, ⟨rfl, .inr ⟨_, 0, #[], rfl, by omega, e1, Nat.le_refl _, Nat.zero_le _, rfl, rfl⟩⟩,
   fun k k' h h' => by have a : w3.heap.size = k := Option.some.inj h; have b : w3.heap.size + 1 = k' := Option.some.inj h'; omega, by omega, hb.trans (b3.mono hb.size)⟩
set_option maxHeartbeats 8000000 in
set_option maxRecDepth 100000 in
theorem both_any (r q : Rl) (u v : Value) (w : World) (hu : Rd w 2 u r.counts.length (pr r.counts)) (hv : Rd w 2 v q.counts.length (pr q.counts)) (hg : okGd r = true) (hq : okGd q = true) :
   Calls Tryz.prog 196 #[gdV r u, gdV q v] w fun e w' => ∃ (t : Int) (a1 : Option Addr) (n1 c1 : Nat) (a2 : Option Addr) (n2 c2 : Nat), e = .returned (.tuple #[.agg #[.int .i64 t, .slice a1 n1 c1, .slice a2 n2 c2], .bool (metQ r q)]) ∧ Below w.heap.size w w' := by
 unfold gdV
 have HU := Lib.hid hu
 have HV := Lib.hid hv
 have HG := Lib.hid hg
 have HQ := Lib.hid hq
 obtain ⟨gr1, gr2, gr3⟩ := okGd_pr hg
 obtain ⟨gq1, gq2, gq3⟩ := okGd_pr hq
 have GR1 := Lib.hid gr1
 have GR2 := Lib.hid gr2
 have GR3 := Lib.hid gr3
 have GQ1 := Lib.hid gq1
 have GQ2 := Lib.hid gq2
 have GQ3 := Lib.hid gq3
 obtain ⟨uo, ucap, rfl, _, _, hru⟩ := hu.pairs
 have HRU := Lib.hid hru
 obtain ⟨vo, vcap, rfl, _, _, hrv⟩ := hv.pairs
 have HRV := Lib.hid hrv
 clear hu hv hg hq gr1 gr2 gq1 gq2 hru hrv
 rw [gr3] at HRU HU ⊢
 rw [gq3] at HRV HV ⊢
 clear gr3 gq3
 obtain ⟨i0, hi, hz0, hz1, hz2⟩ := info_parts Tryz.info3z
 have HI := Lib.hid hi
 have HZ0 := Lib.hid hz0
 have HZ1 := Lib.hid hz1
 have HZ2 := Lib.hid hz2
 clear hi hz0 hz1 hz2
 obtain ⟨e0, e1, e2, z3, b3⟩ := three_blocks w (.cells #[.int .i64 r.lo, .int .i64 r.hi, .slice uo 3 ucap, .int .i64 r.coupon] 41) (.cells #[.int .i64 q.lo, .int .i64 q.hi, .slice vo 3 vcap, .int .i64 q.coupon] 41) (.cells #[.int .i64 0, .slice none 0 0, .slice none 0 0] 110)
 obtain ⟨W, hW⟩ : ∃ W, W = ((w.alloc (.cells #[.int .i64 r.lo, .int .i64 r.hi, .slice uo 3 ucap, .int .i64 r.coupon] 41)).alloc (.cells #[.int .i64 q.lo, .int .i64 q.hi, .slice vo 3 vcap, .int .i64 q.coupon] 41)).alloc (.cells #[.int .i64 0, .slice none 0 0, .slice none 0 0] 110) := ⟨_, rfl⟩
 rw [← hW] at e0 e1 e2 z3 b3
 have E0 := Lib.hid e0
 have E1 := Lib.hid e1
 have E2 := Lib.hid e2
 have HB := Lib.hid b3
 have HW := Lib.hid hW
 obtain ⟨⟨c0, c1, c2, c3⟩, _⟩ := row4 e0
 obtain ⟨⟨d0, d1, d2, d3⟩, _⟩ := row4 e1
 clear e0 e1 e2 b3 hW
 go_enter Tryz.func196, Tryz.ntmps196
 go_upto_region 1 with fail
 rw [← HW.out]
 clear HW
 obtain ⟨P, hP⟩ : ∃ P, P = W.heap.size + 1 + 1 := ⟨_, rfl⟩
 have M0 := mt_start2 r q (.slice uo 3 ucap) (.slice vo 3 vcap) 0 E0.out E1.out E2.out HB.out
 have Z3 := Lib.hid z3
 rw [← hP] at M0
 obtain ⟨W1, hW1⟩ : ∃ W1, W1 = ((W.alloc (.cells #[] 3)).alloc (.cells #[] 3)).alloc (.cells #[.int .i64 0, .slice (some ⟨W.heap.size, 0, none⟩) 0 0, .slice (some ⟨W.heap.size + 1, 0, none⟩) 0 0] 110) := ⟨_, rfl⟩
 rw [← hW1] at M0
 have HW1 := Lib.hid hW1
 have HPP := Lib.hid hP
 have MM0 := Lib.hid M0
 clear hW1 M0 c0 c1 c2 c3 d0 d1 d2 d3 z3 hP
 go_upto_region 2 with fail
 rw [← HW1.out, ← HPP.out]
 obtain ⟨⟨c0, c1, c2, c3⟩, _⟩ := row4 MM0.out.a
 obtain ⟨⟨d0, d1, d2, d3⟩, _⟩ := row4 MM0.out.b
 clear HW1
 go_wp2_with fail
 refine (specMeet_any r.lo r.hi q.lo q.hi _).mono ?_
 rintro e w3 ⟨rfl, x3⟩
 obtain ⟨lo, hlo⟩ : ∃ y, y = max r.lo q.lo := ⟨_, rfl⟩
 obtain ⟨hi, hhi⟩ : ∃ y, y = min r.hi q.hi := ⟨_, rfl⟩
 rw [← hlo, ← hhi]
 have M1 := (MM0.out.below x3).alloc (.cells #[.int .i64 lo, .int .i64 hi] 38)
 obtain ⟨⟨p0, _, _⟩, f0, _, _⟩ := row3z M1.p
 have MM := Lib.hid (M1.set0 lo)
 clear c0 c1 c2 c3 d0 d1 d2 d3 hlo hhi M1
 go_upto_region 4 with fail
 clear p0 f0
 go_wp2
 go_loopw [8, 9] (fun ok_ i_ wr => ∃ (k : Nat) (d : Bool) (x : Int) (vc vp : Value) (l1 l2 : List Int), k ≤ 3 ∧ i_ = .int .i64 k ∧ ok_ = .bool d ∧ Hid (d = metK r q k) ∧ l1.length ≤ k ∧ l2.length ≤ 0 ∧ Hid (Mt w P r q (.slice uo 3 ucap) (.slice vo 3 vcap) wr x vc vp l1 l2)) (fun _ i_ _ => 3 - (intOf i_).toNat)
 case atStart => exact ⟨0, _, _, _, _, _, _, Nat.zero_le _, rfl, rfl, rfl, Nat.le_refl _, Nat.le_refl _, MM⟩
 case round =>
   clear MM
   obtain ⟨k, d, x0, vc, vp, l1, l2, hk, rfl, rfl, HD, hl1, hl2, M⟩ := hrel
   have hw0 : w.heap.size < wr.heap.size := (Array.getElem?_eq_some_iff.1 M.out.a).1
   have hw1 : w.heap.size + 1 < wr.heap.size := (Array.getElem?_eq_some_iff.1 M.out.b).1
   by_cases hlt : k < 3
   · obtain ⟨b, off, rfl, hb, hcell⟩ := HRU.out (by omega)
     obtain ⟨b2, off2, rfl, hb2, hcell2⟩ := HRV.out (by omega)
     have hx := hcell k hlt
     have hy := hcell2 k hlt
     have g0 := (M.out.bel.cell (p := ⟨b, off + k*2, none⟩) hb).trans hx.1
     have g1 := (M.out.bel.cell (p := ⟨b, off + k*2+1, none⟩) hb).trans hx.2
     have g2 := (M.out.bel.cell (p := ⟨b2, off2 + k*2, none⟩) hb2).trans hy.1
     have g3 := (M.out.bel.cell (p := ⟨b2, off2 + k*2+1, none⟩) hb2).trans hy.2
     have hbw : b < wr.heap.size := Nat.lt_of_lt_of_le hb M.out.bel.size
     have hbw2 : b2 < wr.heap.size := Nat.lt_of_lt_of_le hb2 M.out.bel.size
     obtain ⟨⟨_, _, c2, _⟩, _⟩ := row4 M.out.a
     obtain ⟨⟨_, _, d2, _⟩, _⟩ := row4 M.out.b
     have KK : ∀ w' : World, Below wr.heap.size wr w' → w'.cell? ⟨w.heap.size, 2, none⟩ = some (.slice (some ⟨b, off, none⟩) 3 ucap) ∧ w'.cell? ⟨w.heap.size + 1, 2, none⟩ = some (.slice (some ⟨b2, off2, none⟩) 3 vcap) ∧ w'.cell? ⟨b, off + k*2, none⟩ = some (.int .i64 (pA r.counts k)) ∧ w'.cell? ⟨b, off + k*2+1, none⟩ = some (.int .i64 (pB r.counts k)) ∧ w'.cell? ⟨b2, off2 + k*2, none⟩ = some (.int .i64 (pA q.counts k)) ∧ w'.cell? ⟨b2, off2 + k*2+1, none⟩ = some (.int .i64 (pB q.counts k)) ∧ Below wr.heap.size wr w' :=
       fun w' h => ⟨(h.cell (p := ⟨w.heap.size, 2, none⟩) hw0).trans c2, (h.cell (p := ⟨w.heap.size + 1, 2, none⟩) hw1).trans d2, (h.cell (p := ⟨b, off + k*2, none⟩) hbw).trans g0, (h.cell (p := ⟨b, off + k*2+1, none⟩) hbw).trans g1, (h.cell (p := ⟨b2, off2 + k*2, none⟩) hbw2).trans g2, (h.cell (p := ⟨b2, off2 + k*2+1, none⟩) hbw2).trans g3, h⟩
     have KP := Lib.hid KK
     have hk0 : (0 : Int) ≤ (k : Int) := by omega
     have hk1 : (k : Int) < (3 : Int) := by omega
     clear hx hy hcell hcell2 KK
     have hst : metK r q (k + 1) = (metK r q k && meeQ (pA r.counts k) (pB r.counts k) (pA q.counts k) (pB q.counts k)) := rfl
     rw [← HD.out] at hst
     have HS := Lib.hid hst
     have b0 : Below wr.heap.size wr wr.drew := (Below.refl _ wr).drew
     have b1 : Below wr.heap.size wr (wr.drew.alloc (.cells #[.int .i64 0, .int .i64 0] 38)) := b0.alloc (Nat.le_refl _) _
     have a1 : (wr.drew.alloc (.cells #[.int .i64 0, .int .i64 0] 38)).heap[wr.heap.size]? = some (.cells #[.int .i64 0, .int .i64 0] 38 (0, 0)) := heap_alloc_new wr.drew _
     have s1 : wr.heap.size < (wr.drew.alloc (.cells #[.int .i64 0, .int .i64 0] 38)).heap.size := by rw [World.size_alloc]; exact Nat.lt_succ_self _
     have A1 := Lib.hid a1
     have B0 := Lib.hid b0
     have B1 := Lib.hid b1
     clear hst a1 b0 b1
     go_upto_region 7 with fail
     go_cut [10, 11] from 27 to 55 (fun p_ f_ wx => ∃ g : Nat, p_ = .pointer (some ⟨g, 0, none⟩) ∧ f_ = .bool (meeQ (pA r.counts k) (pB r.counts k) (pA q.counts k) (pB q.counts k)) ∧ wx.cell? ⟨g, 0, none⟩ = some (.int .i64 (max (pA r.counts k) (pA q.counts k))) ∧ Below wr.heap.size wr wx)
     case first =>
       clear g0 g1 g2 g3 c2 d2
       go_region_held3 (fun w' => w'.cell? ⟨w.heap.size, 2, none⟩ = some (.slice (some ⟨b, off, none⟩) 3 ucap) ∧ w'.cell? ⟨w.heap.size + 1, 2, none⟩ = some (.slice (some ⟨b2, off2, none⟩) 3 vcap) ∧ w'.cell? ⟨b, off + k*2, none⟩ = some (.int .i64 (pA r.counts k)) ∧ w'.cell? ⟨b, off + k*2+1, none⟩ = some (.int .i64 (pB r.counts k)) ∧ w'.cell? ⟨b2, off2 + k*2, none⟩ = some (.int .i64 (pA q.counts k)) ∧ w'.cell? ⟨b2, off2 + k*2+1, none⟩ = some (.int .i64 (pB q.counts k)) ∧ Below wr.heap.size wr w')
         (first
           | assumption
           | exact KP.out _ B0.out
           | exact KP.out _ B1.out
           | exact KP.out _ b9
           | (exact KP.out _ (b9.alloc b9.size _))
           | (exact KP.out _ ((b9.setCell (Nat.le_refl _) _).setCell (Nat.le_refl _) _))
           | (exact KP.out _ (((b9.alloc b9.size _).setCell b9.size _).setCell b9.size _)))
         ((first
           | (go_at_call 210; (with_reducible refine (specMeet_any (pA r.counts k) (pB r.counts k) (pA q.counts k) (pB q.counts k) _).mono ?_); rintro e w9 ⟨rfl, x9⟩; first | (have b9 : Below wr.heap.size wr w9 := B0.out.trans (x9.mono B0.out.size)) | (have b9 : Below wr.heap.size wr w9 := B1.out.trans (x9.mono B1.out.size); obtain ⟨⟨y0, y1⟩, y2, y3⟩ := row2 ((x9.block wr.heap.size s1).trans A1.out)))))
       all_goals go_wp2
       all_goals go_meet
       all_goals first
         | exact ⟨wr.heap.size, rfl, rfl, (row2 (Joins.block_setCell (i := 1) (Joins.block_setCell (i := 0) ((x9.block wr.heap.size s1).trans A1.out) _) _)).1.1, (b9.setCell (Nat.le_refl _) _).setCell (Nat.le_refl _) _⟩
         | exact ⟨w9.heap.size, rfl, rfl, cell_of_row _ _ 0 _ _ _ (heap_alloc_new w9 _), b9.alloc b9.size _⟩
     case rest =>
       obtain ⟨g, rfl, rfl, cg, bc⟩ := hcut
       have M2 := M.out.below bc
       have cp := (row3z M2.p).1.2.1
       have ca : ∀ o, (wc.alloc o).cell? ⟨P, 1, none⟩ = some vc := fun o => (row3z (M2.alloc o).p).1.2.1
       have M2 := Lib.hid M2
       have SZ := M2.out.bel.size
       obtain ⟨lo, hlo⟩ : ∃ y, y = (max (pA r.counts k) (pA q.counts k)) := ⟨_, rfl⟩
       rw [← hlo] at cg
       clear hlo B0 B1 A1 KP
       cases hm : meeQ (pA r.counts k) (pB r.counts k) (pA q.counts k) (pB q.counts k)
       all_goals rw [hm] at HS
       all_goals cases d
       all_goals go_wp2_with (at_builtin; refine app_one rfl (.tmp 50) (.tmp 53) 34 rfl w.heap.size 3 i0 _ Tryz.underlying34 HI.out HZ0.out HZ1.out HZ2.out rfl _ l1 lo rfl (M2.out.alloc _).o1 wc.heap.size rfl (cell_of_row _ _ 0 _ _ _ (heap_alloc_new wc _)) (by omega) (M2.out.alloc _).bel.size ?_; intro v' W1 h1 h2 h3; obtain ⟨so, scap, rfl, _⟩ := owns_shape h1; have n1 := (M2.out.alloc _).app1 h2 h1 h3; obtain ⟨⟨_, n2, _⟩, _, n3, _⟩ := row3z (grown_blk (M2.out.alloc _).o1 h2 (M2.out.alloc _).p ne_pi); rw [show (l1 ++ [lo]).length = l1.length + 1 by simp] at n1; have N1 := Lib.hid n1; clear n1 h1 h2 h3)
       all_goals (go_roundw; (exact ⟨k + 1, _, x0, _, vp, l1 ++ [lo], l2, by omega, by go_num, rfl, by rw [Hid, HS.out] <;> rfl, by rw [List.length_append, List.length_singleton]; omega, hl2, N1⟩); (simp [intOf]; omega))
   · have hk3 : ¬ (k : Int) < 3 := by omega
     have HM : Hid (metQ r q = d) := by rw [Hid, HD.out, show k = 3 by omega]; rfl
     go_wp2
     go_loopw [12] (fun i_ wr => ∃ (n : Nat) (vp : Value) (l2 : List Int), 1 ≤ n ∧ n ≤ 10 ∧ i_ = .int .i64 n ∧ l2.length ≤ n ∧ Hid (Mt w P r q (.slice uo 3 ucap) (.slice vo 3 vcap) wr x0 vc vp l1 l2)) (fun i_ _ => 10 - (intOf i_).toNat)
     case atStart => exact ⟨1, vp, l2, Nat.le_refl _, by omega, rfl, by omega, M⟩
     case round =>
       clear M hl2
       obtain ⟨n, vp, l2, hn1, hn2, rfl, hl2, M⟩ := hrel
       obtain ⟨⟨_, _, _, c3⟩, _⟩ := row4 M.out.a
       obtain ⟨⟨_, _, _, d3⟩, _⟩ := row4 M.out.b
       have cp : ∀ o, (wr.alloc o).cell? ⟨P, 2, none⟩ = some vp := fun o => (row3z (M.out.alloc o).p).1.2.2
       have cp0 := (row3z M.out.p).1.2.2
       by_cases hlt : n ≤ 9
       · have hle : (n : Int) ≤ 9 := by omega
         cases e1 : (r.coupon == (n : Int))
         · cases e2 : (q.coupon == (n : Int))
           · go_wp2
             go_roundw
             case rel => exact ⟨n + 1, vp, l2, by omega, by omega, by go_num, by omega, M⟩
             case measure => simp [intOf]; omega
           · go_wp2_with (at_builtin; refine app_one rfl (.tmp 71) (.tmp 73) 34 rfl w.heap.size 3 i0 _ Tryz.underlying34 HI.out HZ0.out HZ1.out HZ2.out rfl _ l2 (n : Int) rfl (M.out.alloc _).o2 wr.heap.size rfl (cell_of_row _ _ 0 _ _ _ (heap_alloc_new wr _)) (by omega) (M.out.alloc _).bel.size ?_; intro v' W1 h1 h2 h3; obtain ⟨so, scap, rfl, _⟩ := owns_shape h1; have n1 := (M.out.alloc _).app2 h2 h1 h3; obtain ⟨⟨_, _, n2⟩, _, _, n3⟩ := row3z (grown_blk (M.out.alloc _).o2 h2 (M.out.alloc _).p ne_pi); rw [show (l2 ++ [(n : Int)]).length = l2.length + 1 by simp] at n1; have N1 := Lib.hid n1; clear n1 h1 h2 h3)
             go_roundw
             case rel => exact ⟨n + 1, _, l2 ++ [(n : Int)], by omega, by omega, by go_num, by rw [List.length_append, List.length_singleton]; omega, N1⟩
             case measure => simp [intOf]; omega
         · go_wp2_with (at_builtin; refine app_one rfl (.tmp 71) (.tmp 73) 34 rfl w.heap.size 3 i0 _ Tryz.underlying34 HI.out HZ0.out HZ1.out HZ2.out rfl _ l2 (n : Int) rfl (M.out.alloc _).o2 wr.heap.size rfl (cell_of_row _ _ 0 _ _ _ (heap_alloc_new wr _)) (by omega) (M.out.alloc _).bel.size ?_; intro v' W1 h1 h2 h3; obtain ⟨so, scap, rfl, _⟩ := owns_shape h1; have n1 := (M.out.alloc _).app2 h2 h1 h3; obtain ⟨⟨_, _, n2⟩, _, _, n3⟩ := row3z (grown_blk (M.out.alloc _).o2 h2 (M.out.alloc _).p ne_pi); rw [show (l2 ++ [(n : Int)]).length = l2.length + 1 by simp] at n1; have N1 := Lib.hid n1; clear n1 h1 h2 h3)
           go_roundw
           case rel => exact ⟨n + 1, _, l2 ++ [(n : Int)], by omega, by omega, by go_num, by rw [List.length_append, List.length_singleton]; omega, N1⟩
           case measure => simp [intOf]; omega
       · have hle : decide ((n : Int) ≤ 9) = false := by simp; omega
         obtain ⟨ao1, cap1, e1, _⟩ := owns_shape M.out.o1
         obtain ⟨ao2, cap2, e2, _⟩ := owns_shape M.out.o2
         subst e1
         subst e2
         obtain ⟨⟨p0, p1, p2⟩, _⟩ := row3z M.out.p
         obtain ⟨⟨r0, r1, r2⟩, r3, r4, r5⟩ := row3z M.out.r
         have zB : w.heap.size ≤ w.heap.size + 1 + 1 := by omega
         clear c3 d3 cp cp0
         go_wp2
         refine bodyPost_ret (results_row_tmp (p := 4) (q := 5) (ty := 110) rfl row110 _ _ (w.heap.size + 1 + 1) 110 #[.int .i64 x0, .slice ao1 l1.length cap1, .slice ao2 l2.length cap2] rfl rfl (Joins.block_setCell (i := 2) (Joins.block_setCell (i := 1) (Joins.block_setCell (i := 0) M.out.r _) _) _)) rfl ?_
         first | exact ⟨x0, ao1, l1.length, cap1, ao2, l2.length, cap2, by rw [HM.out] <;> rfl, ((M.out.bel.setCell zB _).setCell zB _).setCell zB _⟩ | exact ⟨⟨x0, ao1, l1.length, cap1, ao2, l2.length, cap2, by rw [HM.out] <;> rfl⟩, ((M.out.bel.setCell zB _).setCell zB _).setCell zB _⟩
end Go.Proofs.YtijofgaekmahkaaGreatDoor

namespace Go.Proofs.YtijofgaekmahkaaGreatDoor
open Go.RowKit
theorem tog_a {r q : Rl} (h : r.group = -1) : togQ r q = true := by simp [togQ, h]
theorem tog_b {r q : Rl} (h : q.group = -1) : togQ r q = true := by simp [togQ, h]
theorem tog_c {r q : Rl} (h : r.group = q.group) : togQ r q = true := by simp [togQ, h]
theorem tog_n {r q : Rl} (h1 : ¬ r.group = -1) (h2 : ¬ q.group = -1) (h3 : ¬ r.group = q.group) : togQ r q = false := by simp [togQ, h1, h2, h3]
def rcfQ (r q : Rl) : Bool := !decide (r.num = q.num) && cnfQ r q
theorem rcf_num {r q : Rl} (h : r.num = q.num) : rcfQ r q = false := by simp [rcfQ, h]
theorem rcf_ne {r q : Rl} (h : ¬ r.num = q.num) : rcfQ r q = cnfQ r q := by simp [rcfQ, h]
theorem rcf_no {r q : Rl} (h : cnfQ r q = false) : rcfQ r q = false := by simp [rcfQ, h]
set_option maxHeartbeats 8000000 in
set_option maxRecDepth 100000 in
theorem rulesConflict_any (r q : Rl) (u v : Value) (w : World) (hu : Rd w 2 u r.counts.length (pr r.counts)) (hv : Rd w 2 v q.counts.length (pr q.counts)) (hr : okRu r = true) (hq : okRu q = true) :
   Calls Tryz.prog 79 #[ruV r u, ruV q v] w fun e w' => ∃ (t : Int) (a1 : Option Addr) (n1 c1 : Nat) (a2 : Option Addr) (n2 c2 : Nat), e = .returned (.tuple #[.agg #[.int .i64 t, .slice a1 n1 c1, .slice a2 n2 c2], .bool (rcfQ r q)]) ∧ Below w.heap.size w w' := by
 unfold ruV
 have HU := Lib.hid hu
 have HV := Lib.hid hv
 have HR := Lib.hid hr
 have HQ := Lib.hid hq
 obtain ⟨uo, ucap, rfl, _⟩ := hu.pairs
 obtain ⟨vo, vcap, rfl, _⟩ := hv.pairs
 clear hu hv
 obtain ⟨e0, e1, e2, z3, b3⟩ := three_blocks w (.cells #[.int .i64 r.num, .int .i64 r.lvl, .int .i64 r.rank, .int .i64 r.group, .int .i64 r.kind, .int .i64 r.value, .int .i64 r.cap, .int .i64 r.lo, .int .i64 r.hi, .slice uo r.counts.length ucap, .int .i64 r.coupon] 43) (.cells #[.int .i64 q.num, .int .i64 q.lvl, .int .i64 q.rank, .int .i64 q.group, .int .i64 q.kind, .int .i64 q.value, .int .i64 q.cap, .int .i64 q.lo, .int .i64 q.hi, .slice vo q.counts.length vcap, .int .i64 q.coupon] 43) (.cells #[.int .i64 0, .slice none 0 0, .slice none 0 0] 110)
 obtain ⟨W, hW⟩ : ∃ W, W = ((w.alloc (.cells #[.int .i64 r.num, .int .i64 r.lvl, .int .i64 r.rank, .int .i64 r.group, .int .i64 r.kind, .int .i64 r.value, .int .i64 r.cap, .int .i64 r.lo, .int .i64 r.hi, .slice uo r.counts.length ucap, .int .i64 r.coupon] 43)).alloc (.cells #[.int .i64 q.num, .int .i64 q.lvl, .int .i64 q.rank, .int .i64 q.group, .int .i64 q.kind, .int .i64 q.value, .int .i64 q.cap, .int .i64 q.lo, .int .i64 q.hi, .slice vo q.counts.length vcap, .int .i64 q.coupon] 43)).alloc (.cells #[.int .i64 0, .slice none 0 0, .slice none 0 0] 110) := ⟨_, rfl⟩
 rw [← hW] at e0 e1 e2 z3 b3
 have E0 := Lib.hid e0
 have E1 := Lib.hid e1
 have E2 := Lib.hid e2
 have HB := Lib.hid b3
 have HW := Lib.hid hW
 obtain ⟨⟨c0, c1, c2, c3, c4, c5, c6, c7, c8, c9, c10⟩, _⟩ := row11 e0
 obtain ⟨⟨d0, d1, d2, d3, d4, d5, d6, d7, d8, d9, d10⟩, _⟩ := row11 e1
 clear e0 e1 e2 b3 hW
 go_enter Tryz.func79, Tryz.ntmps79
 go_upto_region 1 with fail
 rw [← HW.out]
 clear HW
 go_wp2_with fail
 refine (implRule_any r _ _ (HU.out.below HB.out (Nat.le_refl _))).mono ?_
 rintro e w1 ⟨rfl, x1⟩
 rw [HR.out]
 have k0 := (x1.block w.heap.size (by omega)).trans E0.out
 have k1 := (x1.block (w.heap.size + 1) (by omega)).trans E1.out
 have k2 := (x1.block (w.heap.size + 2) (by omega)).trans E2.out
 have B1 := Lib.hid (HB.out.trans (x1.mono HB.out.size))
 have z1 := x1.size
 clear c0 c1 c2 c3 c4 c5 c6 c7 c8 c9 c10 d0 d1 d2 d3 d4 d5 d6 d7 d8 d9 d10 x1
 obtain ⟨⟨c0, c1, c2, c3, c4, c5, c6, c7, c8, c9, c10⟩, _⟩ := row11 k0
 obtain ⟨⟨d0, d1, d2, d3, d4, d5, d6, d7, d8, d9, d10⟩, _⟩ := row11 k1
 go_wp2_with fail
 refine (implRule_any q _ _ (HV.out.below B1.out (Nat.le_refl _))).mono ?_
 rintro e w2 ⟨rfl, x2⟩
 rw [HQ.out]
 have j0 := (x2.block w.heap.size (by omega)).trans k0
 have j1 := (x2.block (w.heap.size + 1) (by omega)).trans k1
 have j2 : w2.heap[w.heap.size + 1 + 1]? = _ := (x2.block (w.heap.size + 2) (by omega)).trans k2
 have B2 := Lib.hid (B1.out.trans (x2.mono B1.out.size))
 have J2 := Lib.hid j2
 have zB : w.heap.size ≤ w.heap.size + 1 + 1 := by omega
 clear c0 c1 c2 c3 c4 c5 c6 c7 c8 c9 c10 d0 d1 d2 d3 d4 d5 d6 d7 d8 d9 d10 k0 k1 k2 x2
 obtain ⟨⟨c0, c1, c2, c3, c4, c5, c6, c7, c8, c9, c10⟩, _⟩ := row11 j0
 obtain ⟨⟨d0, d1, d2, d3, d4, d5, d6, d7, d8, d9, d10⟩, _⟩ := row11 j1
 obtain ⟨⟨f0, f1, f2⟩, q0, q1, q2⟩ := row3z j2
 clear j0 j1 j2 z1 z3
 by_cases hn : r.num = q.num
 · have hb : (r.num == q.num) = true := by simp [hn]
   have fin := Lib.hid (rcf_num hn)
   clear hn
   go_wp2
   refine bodyPost_ret (results_row_tmp (p := 4) (q := 5) (ty := 110) rfl row110 _ _ (w.heap.size + 1 + 1) 110 #[.int .i64 0, .slice none 0 0, .slice none 0 0] rfl rfl (Joins.block_setCell (i := 2) (Joins.block_setCell (i := 1) (Joins.block_setCell (i := 0) J2.out _) _) _)) rfl ?_
   first | exact ⟨0, none, 0, 0, none, 0, 0, by rw [fin.out] <;> rfl, ((B2.out.setCell zB _).setCell zB _).setCell zB _⟩ | exact ⟨⟨0, none, 0, 0, none, 0, 0, by rw [fin.out] <;> rfl⟩, ((B2.out.setCell zB _).setCell zB _).setCell zB _⟩
 have hb : (r.num == q.num) = false := by simp [hn]
 have hcf := Lib.hid (rcf_ne hn)
 clear hn
 by_cases hl : r.lvl = q.lvl
 rotate_left
 · have hc : (r.lvl != q.lvl) = true := by simp [hl]
   have fin := Lib.hid (rcf_no (cnf_lvl hl))
   clear hl
   go_wp2
   refine bodyPost_ret (results_row_tmp (p := 4) (q := 5) (ty := 110) rfl row110 _ _ (w.heap.size + 1 + 1) 110 #[.int .i64 0, .slice none 0 0, .slice none 0 0] rfl rfl (Joins.block_setCell (i := 2) (Joins.block_setCell (i := 1) (Joins.block_setCell (i := 0) J2.out _) _) _)) rfl ?_
   first | exact ⟨0, none, 0, 0, none, 0, 0, by rw [fin.out] <;> rfl, ((B2.out.setCell zB _).setCell zB _).setCell zB _⟩ | exact ⟨⟨0, none, 0, 0, none, 0, 0, by rw [fin.out] <;> rfl⟩, ((B2.out.setCell zB _).setCell zB _).setCell zB _⟩
 have hc : (r.lvl != q.lvl) = false := by simp [hl]
 have HL := Lib.hid hl
 clear hl
 by_cases hk : r.rank = q.rank
 rotate_left
 · have hd : (r.rank != q.rank) = true := by simp [hk]
   have fin := Lib.hid (rcf_no (cnf_rank hk))
   clear hk
   go_wp2
   refine bodyPost_ret (results_row_tmp (p := 4) (q := 5) (ty := 110) rfl row110 _ _ (w.heap.size + 1 + 1) 110 #[.int .i64 0, .slice none 0 0, .slice none 0 0] rfl rfl (Joins.block_setCell (i := 2) (Joins.block_setCell (i := 1) (Joins.block_setCell (i := 0) J2.out _) _) _)) rfl ?_
   first | exact ⟨0, none, 0, 0, none, 0, 0, by rw [fin.out] <;> rfl, ((B2.out.setCell zB _).setCell zB _).setCell zB _⟩ | exact ⟨⟨0, none, 0, 0, none, 0, 0, by rw [fin.out] <;> rfl⟩, ((B2.out.setCell zB _).setCell zB _).setCell zB _⟩
 have hd : (r.rank != q.rank) = false := by simp [hk]
 have HK := Lib.hid hk
 clear hk
 by_cases hg : r.group = q.group
 · have he : (r.group != q.group) = false := by simp [hg]
   have fin := Lib.hid (hcf.out.trans (cnf_yes HL.out HK.out (tog_c hg)))
   clear hg
   go_wp2_with fail
   refine (guardsMeet_any r q _ _ _ (HU.out.below B2.out (Nat.le_refl _)) (HV.out.below B2.out (Nat.le_refl _)) (okRu_gd HR.out) (okRu_gd HQ.out)).mono ?_
   rintro e w3 ⟨t, a1, n1, cc1, a2, n2, cc2, rfl, x3⟩
   have l2 : w3.heap[w.heap.size + 1 + 1]? = _ := (x3.block (w.heap.size + 1 + 1) (Array.getElem?_eq_some_iff.1 J2.out).1).trans J2.out
   have L2 := Lib.hid l2
   have B3 := Lib.hid (B2.out.trans (x3.mono B2.out.size))
   clear x3 l2 c0 c1 c2 c3 c4 c5 c6 c7 c8 c9 c10 d0 d1 d2 d3 d4 d5 d6 d7 d8 d9 d10 f0 f1 f2 q0 q1 q2
   obtain ⟨⟨f0, f1, f2⟩, q0, q1, q2⟩ := row3z L2.out
   go_wp2
   refine bodyPost_ret (results_row_tmp (p := 4) (q := 5) (ty := 110) rfl row110 _ _ (w.heap.size + 1 + 1) 110 #[.int .i64 t, .slice a1 n1 cc1, .slice a2 n2 cc2] rfl rfl (Joins.block_setCell (i := 2) (Joins.block_setCell (i := 1) (Joins.block_setCell (i := 0) L2.out _) _) _)) rfl ?_
   first | exact ⟨t, a1, n1, cc1, a2, n2, cc2, by rw [fin.out] <;> rfl, ((B3.out.setCell zB _).setCell zB _).setCell zB _⟩ | exact ⟨⟨t, a1, n1, cc1, a2, n2, cc2, by rw [fin.out] <;> rfl⟩, ((B3.out.setCell zB _).setCell zB _).setCell zB _⟩
 · have he : (r.group != q.group) = true := by simp [hg]
   by_cases h1 : r.group = -1
   · have h1b : (r.group != -1) = false := by simp [h1]
     have fin := Lib.hid (hcf.out.trans (cnf_yes HL.out HK.out (tog_a h1)))
     clear hg h1
     go_wp2_with fail
     refine (guardsMeet_any r q _ _ _ (HU.out.below B2.out (Nat.le_refl _)) (HV.out.below B2.out (Nat.le_refl _)) (okRu_gd HR.out) (okRu_gd HQ.out)).mono ?_
     rintro e w3 ⟨t, a1, n1, cc1, a2, n2, cc2, rfl, x3⟩
     have l2 : w3.heap[w.heap.size + 1 + 1]? = _ := (x3.block (w.heap.size + 1 + 1) (Array.getElem?_eq_some_iff.1 J2.out).1).trans J2.out
     have L2 := Lib.hid l2
     have B3 := Lib.hid (B2.out.trans (x3.mono B2.out.size))
     clear x3 l2 c0 c1 c2 c3 c4 c5 c6 c7 c8 c9 c10 d0 d1 d2 d3 d4 d5 d6 d7 d8 d9 d10 f0 f1 f2 q0 q1 q2
     obtain ⟨⟨f0, f1, f2⟩, q0, q1, q2⟩ := row3z L2.out
     go_wp2
     refine bodyPost_ret (results_row_tmp (p := 4) (q := 5) (ty := 110) rfl row110 _ _ (w.heap.size + 1 + 1) 110 #[.int .i64 t, .slice a1 n1 cc1, .slice a2 n2 cc2] rfl rfl (Joins.block_setCell (i := 2) (Joins.block_setCell (i := 1) (Joins.block_setCell (i := 0) L2.out _) _) _)) rfl ?_
     first | exact ⟨t, a1, n1, cc1, a2, n2, cc2, by rw [fin.out] <;> rfl, ((B3.out.setCell zB _).setCell zB _).setCell zB _⟩ | exact ⟨⟨t, a1, n1, cc1, a2, n2, cc2, by rw [fin.out] <;> rfl⟩, ((B3.out.setCell zB _).setCell zB _).setCell zB _⟩
   · have h1b : (r.group != -1) = true := by simp [h1]
     by_cases h2 : q.group = -1
     · have h2b : (q.group != -1) = false := by simp [h2]
       have fin := Lib.hid (hcf.out.trans (cnf_yes HL.out HK.out (tog_b h2)))
       clear hg h1 h2
       go_wp2_with fail
       refine (guardsMeet_any r q _ _ _ (HU.out.below B2.out (Nat.le_refl _)) (HV.out.below B2.out (Nat.le_refl _)) (okRu_gd HR.out) (okRu_gd HQ.out)).mono ?_
       rintro e w3 ⟨t, a1, n1, cc1, a2, n2, cc2, rfl, x3⟩
       have l2 : w3.heap[w.heap.size + 1 + 1]? = _ := (x3.block (w.heap.size + 1 + 1) (Array.getElem?_eq_some_iff.1 J2.out).1).trans J2.out
       have L2 := Lib.hid l2
       have B3 := Lib.hid (B2.out.trans (x3.mono B2.out.size))
       clear x3 l2 c0 c1 c2 c3 c4 c5 c6 c7 c8 c9 c10 d0 d1 d2 d3 d4 d5 d6 d7 d8 d9 d10 f0 f1 f2 q0 q1 q2
       obtain ⟨⟨f0, f1, f2⟩, q0, q1, q2⟩ := row3z L2.out
       go_wp2
       refine bodyPost_ret (results_row_tmp (p := 4) (q := 5) (ty := 110) rfl row110 _ _ (w.heap.size + 1 + 1) 110 #[.int .i64 t, .slice a1 n1 cc1, .slice a2 n2 cc2] rfl rfl (Joins.block_setCell (i := 2) (Joins.block_setCell (i := 1) (Joins.block_setCell (i := 0) L2.out _) _) _)) rfl ?_
       first | exact ⟨t, a1, n1, cc1, a2, n2, cc2, by rw [fin.out] <;> rfl, ((B3.out.setCell zB _).setCell zB _).setCell zB _⟩ | exact ⟨⟨t, a1, n1, cc1, a2, n2, cc2, by rw [fin.out] <;> rfl⟩, ((B3.out.setCell zB _).setCell zB _).setCell zB _⟩
     · have h2b : (q.group != -1) = true := by simp [h2]
       have fin := Lib.hid (rcf_no (cnf_tog (tog_n h1 h2 hg)))
       clear hg h1 h2
       go_wp2
       refine bodyPost_ret (results_row_tmp (p := 4) (q := 5) (ty := 110) rfl row110 _ _ (w.heap.size + 1 + 1) 110 #[.int .i64 0, .slice none 0 0, .slice none 0 0] rfl rfl (Joins.block_setCell (i := 2) (Joins.block_setCell (i := 1) (Joins.block_setCell (i := 0) J2.out _) _) _)) rfl ?_
       first | exact ⟨0, none, 0, 0, none, 0, 0, by rw [fin.out] <;> rfl, ((B2.out.setCell zB _).setCell zB _).setCell zB _⟩ | exact ⟨⟨0, none, 0, 0, none, 0, 0, by rw [fin.out] <;> rfl⟩, ((B2.out.setCell zB _).setCell zB _).setCell zB _⟩
set_option maxHeartbeats 4000000 in
theorem together_any (r q : Rl) (u v : Value) (w : World) (hr : okRu r = true) (hq : okRu q = true) :
   Calls Tryz.prog 195 #[ruV r u, ruV q v] w fun e w' => e = .returned (.bool (togQ r q)) ∧ Below w.heap.size w w' := by
 unfold ruV
 have gr := (okRu_parts hr).2.2.2.2.2.2.2.2.2.1
 have gq := (okRu_parts hq).2.2.2.2.2.2.2.2.2.1
 obtain ⟨e0, e1, z2, b2⟩ := two_blocks w (.cells #[.int .i64 r.num, .int .i64 r.lvl, .int .i64 r.rank, .int .i64 r.group, .int .i64 r.kind, .int .i64 r.value, .int .i64 r.cap, .int .i64 r.lo, .int .i64 r.hi, u, .int .i64 r.coupon] 43) (.cells #[.int .i64 q.num, .int .i64 q.lvl, .int .i64 q.rank, .int .i64 q.group, .int .i64 q.kind, .int .i64 q.value, .int .i64 q.cap, .int .i64 q.lo, .int .i64 q.hi, v, .int .i64 q.coupon] 43)
 have HB := Lib.hid b2
 obtain ⟨⟨c0, c1, c2, c3, c4, c5, c6, c7, c8, c9, c10⟩, _⟩ := row11 e0
 obtain ⟨⟨d0, d1, d2, d3, d4, d5, d6, d7, d8, d9, d10⟩, _⟩ := row11 e1
 clear e0 e1 b2 z2 hr hq
 by_cases h1 : r.group = -1
 · have h1b : r.group < 0 := by omega
   have fin := Lib.hid (tog_a (q := q) h1)
   clear h1
   go_enter Tryz.func195, Tryz.ntmps195
   go_wp2
   go_ret
   exact ⟨by rw [fin.out] <;> rfl, HB.out⟩
 · have h1b : decide (r.group < 0) = false := by simp; omega
   by_cases h2 : q.group = -1
   · have h2b : q.group < 0 := by omega
     have fin := Lib.hid (tog_b (r := r) h2)
     clear h1 h2
     go_enter Tryz.func195, Tryz.ntmps195
     go_wp2
     go_ret
     exact ⟨by rw [fin.out] <;> rfl, HB.out⟩
   · have h2b : decide (q.group < 0) = false := by simp; omega
     by_cases h3 : r.group = q.group
     · have h3b : (r.group == q.group) = true := by simp [h3]
       have fin := Lib.hid (tog_c h3)
       clear h1 h2 h3 gr gq
       go_enter Tryz.func195, Tryz.ntmps195
       go_wp2
       go_ret
       exact ⟨by rw [fin.out] <;> rfl, HB.out⟩
     · have h3b : (r.group == q.group) = false := by simp [h3]
       have fin := Lib.hid (tog_n h1 h2 h3)
       clear h1 h2 h3 gr gq
       go_enter Tryz.func195, Tryz.ntmps195
       go_wp2
       go_ret
       exact ⟨by rw [fin.out] <;> rfl, HB.out⟩
set_option maxHeartbeats 8000000 in
set_option maxRecDepth 100000 in
theorem conflict_any (r q : Rl) (u v : Value) (w : World) (hu : Rd w 2 u r.counts.length (pr r.counts)) (hv : Rd w 2 v q.counts.length (pr q.counts)) (hr : okRu r = true) (hq : okRu q = true) :
   Calls Tryz.prog 163 #[ruV r u, ruV q v] w fun e w' => ∃ (t : Int) (a1 : Option Addr) (n1 c1 : Nat) (a2 : Option Addr) (n2 c2 : Nat), e = .returned (.tuple #[.agg #[.int .i64 t, .slice a1 n1 c1, .slice a2 n2 c2], .bool (cnfQ r q)]) ∧ Below w.heap.size w w' := by
 unfold ruV
 have HU := Lib.hid hu
 have HV := Lib.hid hv
 have HR := Lib.hid hr
 have HQ := Lib.hid hq
 obtain ⟨uo, ucap, rfl, _⟩ := hu.pairs
 obtain ⟨vo, vcap, rfl, _⟩ := hv.pairs
 clear hu hv
 obtain ⟨e0, e1, e2, z3, b3⟩ := three_blocks w (.cells #[.int .i64 r.num, .int .i64 r.lvl, .int .i64 r.rank, .int .i64 r.group, .int .i64 r.kind, .int .i64 r.value, .int .i64 r.cap, .int .i64 r.lo, .int .i64 r.hi, .slice uo r.counts.length ucap, .int .i64 r.coupon] 43) (.cells #[.int .i64 q.num, .int .i64 q.lvl, .int .i64 q.rank, .int .i64 q.group, .int .i64 q.kind, .int .i64 q.value, .int .i64 q.cap, .int .i64 q.lo, .int .i64 q.hi, .slice vo q.counts.length vcap, .int .i64 q.coupon] 43) (.cells #[.int .i64 0, .slice none 0 0, .slice none 0 0] 110)
 obtain ⟨W, hW⟩ : ∃ W, W = ((w.alloc (.cells #[.int .i64 r.num, .int .i64 r.lvl, .int .i64 r.rank, .int .i64 r.group, .int .i64 r.kind, .int .i64 r.value, .int .i64 r.cap, .int .i64 r.lo, .int .i64 r.hi, .slice uo r.counts.length ucap, .int .i64 r.coupon] 43)).alloc (.cells #[.int .i64 q.num, .int .i64 q.lvl, .int .i64 q.rank, .int .i64 q.group, .int .i64 q.kind, .int .i64 q.value, .int .i64 q.cap, .int .i64 q.lo, .int .i64 q.hi, .slice vo q.counts.length vcap, .int .i64 q.coupon] 43)).alloc (.cells #[.int .i64 0, .slice none 0 0, .slice none 0 0] 110) := ⟨_, rfl⟩
 rw [← hW] at e0 e1 e2 z3 b3
 have E0 := Lib.hid e0
 have E1 := Lib.hid e1
 have E2 := Lib.hid e2
 have HB := Lib.hid b3
 have HW := Lib.hid hW
 obtain ⟨⟨c0, c1, c2, c3, c4, c5, c6, c7, c8, c9, c10⟩, _⟩ := row11 e0
 obtain ⟨⟨d0, d1, d2, d3, d4, d5, d6, d7, d8, d9, d10⟩, _⟩ := row11 e1
 clear e0 e1 e2 b3 hW
 have J0 : Hid (W.heap[w.heap.size + 1 + 1]? = some (.cells #[.int .i64 0, .slice none 0 0, .slice none 0 0] 110 (0, 0))) := E2.out
 obtain ⟨⟨f0, f1, f2⟩, q0, q1, q2⟩ := row3z J0.out
 have zB : w.heap.size ≤ w.heap.size + 1 + 1 := by omega
 go_enter Tryz.func163, Tryz.ntmps163
 go_upto_region 1 with fail
 rw [← HW.out]
 clear HW
 by_cases hl : r.lvl = q.lvl
 rotate_left
 · have hc : (r.lvl != q.lvl) = true := by simp [hl]
   have fin := Lib.hid (cnf_lvl hl)
   clear hl z3
   go_wp2
   refine bodyPost_ret (results_row_tmp (p := 4) (q := 5) (ty := 110) rfl row110 _ _ (w.heap.size + 1 + 1) 110 #[.int .i64 0, .slice none 0 0, .slice none 0 0] rfl rfl (Joins.block_setCell (i := 2) (Joins.block_setCell (i := 1) (Joins.block_setCell (i := 0) J0.out _) _) _)) rfl ?_
   first | exact ⟨0, none, 0, 0, none, 0, 0, by rw [fin.out] <;> rfl, ((HB.out.setCell zB _).setCell zB _).setCell zB _⟩ | exact ⟨⟨0, none, 0, 0, none, 0, 0, by rw [fin.out] <;> rfl⟩, ((HB.out.setCell zB _).setCell zB _).setCell zB _⟩
 have hc : (r.lvl != q.lvl) = false := by simp [hl]
 have HL := Lib.hid hl
 clear hl
 by_cases hk : r.rank = q.rank
 rotate_left
 · have hd : (r.rank != q.rank) = true := by simp [hk]
   have fin := Lib.hid (cnf_rank hk)
   clear hk z3
   go_wp2
   refine bodyPost_ret (results_row_tmp (p := 4) (q := 5) (ty := 110) rfl row110 _ _ (w.heap.size + 1 + 1) 110 #[.int .i64 0, .slice none 0 0, .slice none 0 0] rfl rfl (Joins.block_setCell (i := 2) (Joins.block_setCell (i := 1) (Joins.block_setCell (i := 0) J0.out _) _) _)) rfl ?_
   first | exact ⟨0, none, 0, 0, none, 0, 0, by rw [fin.out] <;> rfl, ((HB.out.setCell zB _).setCell zB _).setCell zB _⟩ | exact ⟨⟨0, none, 0, 0, none, 0, 0, by rw [fin.out] <;> rfl⟩, ((HB.out.setCell zB _).setCell zB _).setCell zB _⟩
 have hd : (r.rank != q.rank) = false := by simp [hk]
 have HK := Lib.hid hk
 clear hk
 go_wp2_with fail
 refine (together_any r q _ _ _ HR.out HQ.out).mono ?_
 rintro e w2 ⟨rfl, x2⟩
 have j0 := (x2.block w.heap.size (by omega)).trans E0.out
 have j1 := (x2.block (w.heap.size + 1) (by omega)).trans E1.out
 have j2 : w2.heap[w.heap.size + 1 + 1]? = _ := (x2.block (w.heap.size + 2) (by omega)).trans E2.out
 have B2 := Lib.hid (HB.out.trans (x2.mono HB.out.size))
 have J2 := Lib.hid j2
 clear c0 c1 c2 c3 c4 c5 c6 c7 c8 c9 c10 d0 d1 d2 d3 d4 d5 d6 d7 d8 d9 d10 f0 f1 f2 q0 q1 q2 x2 z3
 obtain ⟨⟨c0, c1, c2, c3, c4, c5, c6, c7, c8, c9, c10⟩, _⟩ := row11 j0
 obtain ⟨⟨d0, d1, d2, d3, d4, d5, d6, d7, d8, d9, d10⟩, _⟩ := row11 j1
 obtain ⟨⟨f0, f1, f2⟩, q0, q1, q2⟩ := row3z j2
 clear j0 j1 j2
 cases ht : togQ r q
 · have fin := Lib.hid (cnf_tog ht)
   go_wp2
   refine bodyPost_ret (results_row_tmp (p := 4) (q := 5) (ty := 110) rfl row110 _ _ (w.heap.size + 1 + 1) 110 #[.int .i64 0, .slice none 0 0, .slice none 0 0] rfl rfl (Joins.block_setCell (i := 2) (Joins.block_setCell (i := 1) (Joins.block_setCell (i := 0) J2.out _) _) _)) rfl ?_
   first | exact ⟨0, none, 0, 0, none, 0, 0, by rw [fin.out] <;> rfl, ((B2.out.setCell zB _).setCell zB _).setCell zB _⟩ | exact ⟨⟨0, none, 0, 0, none, 0, 0, by rw [fin.out] <;> rfl⟩, ((B2.out.setCell zB _).setCell zB _).setCell zB _⟩
 · have fin := Lib.hid (cnf_yes HL.out HK.out ht)
   go_wp2_with fail
   refine (both_any r q _ _ _ (HU.out.below B2.out (Nat.le_refl _)) (HV.out.below B2.out (Nat.le_refl _)) (okRu_gd HR.out) (okRu_gd HQ.out)).mono ?_
   rintro e w3 ⟨t, a1, n1, cc1, a2, n2, cc2, rfl, x3⟩
   have l2 : w3.heap[w.heap.size + 1 + 1]? = _ := (x3.block (w.heap.size + 1 + 1) (Array.getElem?_eq_some_iff.1 J2.out).1).trans J2.out
   have L2 := Lib.hid l2
   have B3 := Lib.hid (B2.out.trans (x3.mono B2.out.size))
   clear x3 l2 c0 c1 c2 c3 c4 c5 c6 c7 c8 c9 c10 d0 d1 d2 d3 d4 d5 d6 d7 d8 d9 d10 f0 f1 f2 q0 q1 q2
   obtain ⟨⟨f0, f1, f2⟩, q0, q1, q2⟩ := row3z L2.out
   have zL : w.heap.size + 1 + 1 < w3.heap.size := (Array.getElem?_eq_some_iff.1 L2.out).1
   have zN : ¬ w.heap.size + 1 + 1 = w3.heap.size := by omega
   cases hm : metQ r q
   · rw [hm] at fin
     go_wp2
     refine bodyPost_ret (results_row_tmp (p := 4) (q := 5) (ty := 110) rfl row110 _ _ (w.heap.size + 1 + 1) 110 #[.int .i64 0, .slice none 0 0, .slice none 0 0] rfl rfl (heap_keep (Joins.block_setCell (i := 2) (Joins.block_setCell (i := 1) (Joins.block_setCell (i := 0) L2.out _) _) _))) rfl ?_
     have BF : ∀ x0 x1 x2 o, Below w.heap.size w ((((w3.setCell ⟨w.heap.size + 1 + 1, 0, none⟩ x0).setCell ⟨w.heap.size + 1 + 1, 1, none⟩ x1).setCell ⟨w.heap.size + 1 + 1, 2, none⟩ x2).alloc o) := fun x0 x1 x2 o => (((B3.out.setCell zB x0).setCell zB x1).setCell zB x2).alloc (by simp only [World.size_setCell]; exact B3.out.size) o
     first | exact ⟨0, none, 0, 0, none, 0, 0, by rw [fin.out] <;> rfl, BF _ _ _ _⟩ | exact ⟨⟨0, none, 0, 0, none, 0, 0, by rw [fin.out] <;> rfl⟩, BF _ _ _ _⟩
   · rw [hm] at fin
     go_wp2
     refine bodyPost_ret (results_row_tmp (p := 4) (q := 5) (ty := 110) rfl row110 _ _ (w.heap.size + 1 + 1) 110 #[.int .i64 t, .slice a1 n1 cc1, .slice a2 n2 cc2] rfl rfl (heap_keep (Joins.block_setCell (i := 2) (Joins.block_setCell (i := 1) (Joins.block_setCell (i := 0) L2.out _) _) _))) rfl ?_
     have BF : ∀ x0 x1 x2 o, Below w.heap.size w ((((w3.setCell ⟨w.heap.size + 1 + 1, 0, none⟩ x0).setCell ⟨w.heap.size + 1 + 1, 1, none⟩ x1).setCell ⟨w.heap.size + 1 + 1, 2, none⟩ x2).alloc o) := fun x0 x1 x2 o => (((B3.out.setCell zB x0).setCell zB x1).setCell zB x2).alloc (by simp only [World.size_setCell]; exact B3.out.size) o
     first | exact ⟨t, a1, n1, cc1, a2, n2, cc2, by rw [fin.out] <;> rfl, BF _ _ _ _⟩ | exact ⟨⟨t, a1, n1, cc1, a2, n2, cc2, by rw [fin.out] <;> rfl⟩, BF _ _ _ _⟩
end Go.Proofs.YtijofgaekmahkaaGreatDoor
