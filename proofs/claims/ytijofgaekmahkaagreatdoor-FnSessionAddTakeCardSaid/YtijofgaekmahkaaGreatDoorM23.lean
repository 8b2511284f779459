/- Joined texts: Walks: the text of a rule in the program. What the reading of a rule keeps in memory. What a session keeps in memory, and that it stays while other blocks turn. Conditions: none. -/
import Derived.Test.YtijofgaekmahkaaGreatDoorM22
namespace Go.Proofs.YtijofgaekmahkaaGreatDoor
open Go.RowKit
theorem infoStr : (Tryz.prog.info? 9).map (fun i => (i.zero, i.size, i.bytes)) = some (some (.string ⟨#[]⟩), 1, 16) := by kernel_rfl
def w0 (r : Rl) : List (List UInt8) := dec r.num :: headW r
def w1 (r : Rl) : List (List UInt8) := w0 r ++ grpW r
def w2 (r : Rl) : List (List UInt8) := w1 r ++ capW r
def w3 (r : Rl) : List (List UInt8) := w2 r ++ totW r
def w4 (r : Rl) (k : Nat) : List (List UInt8) := w3 r ++ cntW r.counts k
def w5 (r : Rl) : List (List UInt8) := w4 r r.counts.length ++ cpnW r
theorem w5_all (r : Rl) : w5 r = dec r.num :: restW r := by simp [w5, w4, w3, w2, w1, w0, restW]
theorem w0_len (r : Rl) : (w0 r).length = 7 := rfl
theorem w1_len (r : Rl) : (w1 r).length ≤ 9 := by unfold w1 grpW; split <;> simp [w0, headW]
theorem w2_len (r : Rl) : (w2 r).length ≤ 11 := by have := w1_len r; unfold w2 capW; split <;> (simp; omega)
theorem w3_len (r : Rl) : (w3 r).length ≤ 13 := by have := w2_len r; unfold w3 totW; split <;> (simp; omega)
theorem cntW_len (c : List (Int × Int)) : ∀ k, (cntW c k).length ≤ 3 * k
 | 0 => by simp [cntW]
 | k + 1 => by
   have := cntW_len c k
   rw [cntW, List.length_append]
   split <;> (simp; omega)
theorem w4_len (r : Rl) (k : Nat) : (w4 r k).length ≤ 13 + 3 * k := by have := w3_len r; have := cntW_len r.counts k; unfold w4; rw [List.length_append]; omega
theorem w5_len (r : Rl) : (w5 r).length ≤ 16 + 3 * r.counts.length := by have := w4_len r r.counts.length; unfold w5 cpnW; split <;> (simp; omega)
theorem w1_no {r : Rl} (h : r.group = -1) : w1 r = w0 r := by simp [w1, grpW, h]
theorem w2_no {r : Rl} (h : r.cap = 0) : w2 r = w1 r := by simp [w2, capW, h]
theorem w3_no {r : Rl} (h : allSp r.lo r.hi = true) : w3 r = w2 r := by simp [w3, totW, h]
theorem w4_no {r : Rl} {k : Nat} (h : allSp (pA r.counts k) (pB r.counts k) = true) : w4 r (k + 1) = w4 r k := by simp [w4, cntW, h]
theorem w5_no {r : Rl} (h : r.coupon = 0) : w5 r = w4 r r.counts.length := by simp [w5, cpnW, h]
theorem w1_yes {r : Rl} (h : ¬ r.group = -1) : w0 r ++ [wGroup, dec r.group] = w1 r := by simp [w1, grpW, h]
theorem w2_yes {r : Rl} (h : ¬ r.cap = 0) : w1 r ++ [wCap, dec r.cap] = w2 r := by simp [w2, capW, h]
theorem w3_yes {r : Rl} (h : allSp r.lo r.hi = false) : w2 r ++ [wTotal, spW r.lo r.hi] = w3 r := by simp [w3, totW, h]
theorem w4_yes {r : Rl} {k : Nat} (h : allSp (pA r.counts k) (pB r.counts k) = false) : w4 r k ++ [wCount, dec k, spW (pA r.counts k) (pB r.counts k)] = w4 r (k + 1) := by simp [w4, cntW, h]
theorem w5_yes {r : Rl} (h : ¬ r.coupon = 0) : w4 r r.counts.length ++ [wCoupon, dec r.coupon] = w5 r := by simp [w5, cpnW, h]
theorem sw_cell {w : World} {base : Nat} {g cap n : Nat} {ws : List (List UInt8)} (h : w.ownsRow base 9 1 (.slice (some ⟨g, 0, none⟩) n cap) n (sw ws)) (j : Nat) (x : List UInt8) (hj : ws[j]? = some x) : w.cell? ⟨g, j, none⟩ = some (.string ⟨x.toArray⟩) := by
 have hl : j < n := by
   have h1 := h.1
   rw [sw_len, Nat.mul_one] at h1
   rw [← h1]
   exact (List.getElem?_eq_some_iff.1 hj).1
 have h2 := h.cellAt j (by omega)
 rw [h2]
 simp [sw, hj]
theorem join_any (r : Rl) (v v4 : Value) (w W : World) (hS : St w r v v4 (w5 r) W) (ok : OkR r) :
   Calls Tryz.prog 41 #[v4, .string ⟨#[32]⟩] W fun e w' => e = .returned (.string ⟨(textR r).toArray⟩) ∧ Below W.heap.size W w' := by
 have hn : (w5 r).length ≤ 25 := by have := w5_len r; have := ok.cn; omega
 have hpos : 0 < (w5 r).length := by rw [w5_all]; simp
 have hlen : (textR r).length ≤ 1000 := by
   have h1 := s4_len ok r.counts.length (Nat.le_refl _)
   have h2 := ok.cn
   rw [textR_s4, List.length_append]
   unfold cpnW
   split
   · simp [tl]; omega
   · have h1 := dec_short (n := r.coupon) ok.coupon.1 (by have := ok.coupon; omega)
     simp [tl, wCoupon]; omega
 have ho := hS.own
 have hj : Lib.join (((w5 r).map fun x => (⟨x.toArray⟩ : ByteArray)).map (·.data.toList)) (⟨#[32]⟩ : ByteArray).data.toList = textR r := by
   rw [List.map_map]
   have : ((fun x : ByteArray => x.data.toList) ∘ fun x : List UInt8 => (⟨x.toArray⟩ : ByteArray)) = id := rfl
   rw [this, List.map_id, w5_all]
   exact join_tl _ _
 rcases ho.2 with ⟨_, h0⟩ | ⟨g, cap, cur, rfl, hb, hg, hnc, _⟩
 · omega
 · have hl : ((w5 r).map fun x => (⟨x.toArray⟩ : ByteArray)).length = (w5 r).length := List.length_map _
   have h := Tryz.strings_Join g 0 cap ((w5 r).map fun x => (⟨x.toArray⟩ : ByteArray)) ⟨#[32]⟩ W (fun j x hx => by
     rw [List.getElem?_map] at hx
     obtain ⟨y, hy, rfl⟩ := Option.map_eq_some_iff.1 hx
     rw [Nat.zero_add]
     exact sw_cell ho j y hy) (ho.lt g rfl).2 (by rw [hl]; omega) (by rw [hl]; exact hnc) (by rw [hj]; omega)
   rw [hl, hj] at h
   exact h
theorem St.shape {w W : World} {r : Rl} {v v4 : Value} {ws : List (List UInt8)} (h : St w r v v4 ws W) (hn : 0 < ws.length) : ∃ g c, v4 = .slice (some ⟨g, 0, none⟩) ws.length c := by
 rcases h.own.2 with ⟨_, h0⟩ | ⟨g, cap, cur, rfl, _⟩
 · omega
 · exact ⟨g, cap, rfl⟩
set_option maxRecDepth 100000 in
set_option maxHeartbeats 4000000 in
theorem implFormat_any (r : Rl) (v : Value) (w : World) (hE : Env w) (hv : Rd w 2 v r.counts.length (pr r.counts)) :
   Calls Tryz.prog 66 #[ruV r v] w fun e w' => e = .returned (.string ⟨(fmtR r).toArray⟩) ∧ Below w.heap.size w w' := by
 obtain ⟨i0, hi, hz0, hz1, hz2⟩ := info_parts infoStr
 have HI := Lib.hid hi
 have HZ0 := Lib.hid hz0
 have HZ1 := Lib.hid hz1
 have HZ2 := Lib.hid hz2
 clear hi hz0 hz1 hz2
 have HV := Lib.hid hv
 obtain ⟨ao, cap, rfl, _, _, hr⟩ := hv.pairs
 have HR := Lib.hid hr
 clear hv hr
 have B0 := RuAt.box w r (.slice ao r.counts.length cap) 43
 cases hok : okRu r
 · have fin : Hid (fmtR r = []) := by show fmtR r = []; unfold fmtR; rw [hok]; rfl
   unfold ruV
   go_enter Tryz.func66, Tryz.ntmps66
   go_wp2_with (go_at_call 67; refine (implRule_any r _ _ (HV.out.below ((Below.refl _ w).alloc (Nat.le_refl _) _) (Nat.le_refl _))).mono ?_; rintro e wv ⟨rfl, b1⟩)
   go_ret
   exact ⟨by rw [fin.out]; rfl, ((Below.refl _ w).alloc (Nat.le_refl _) _).trans (b1.mono (by rw [World.size_alloc]; exact Nat.le_succ _))⟩
 have fin : Hid (fmtR r = textR r) := by show fmtR r = _; unfold fmtR; rw [hok]; rfl
 have ok := OkR.of hok
 have hm3 : r.counts.length ≤ 3 := Nat.le_of_eq ok.cn
 unfold ruV
 go_enter Tryz.func66, Tryz.ntmps66
 go_upto_region 4 with (go_at_call 67; refine (implRule_any r _ _ (HV.out.below ((Below.refl _ w).alloc (Nat.le_refl _) _) (Nat.le_refl _))).mono ?_; rintro e wv ⟨rfl, b1⟩)
 obtain ⟨b2, B2⟩ : Below w.heap.size w wv ∧ RuAt wv w.heap.size r (.slice ao r.counts.length cap) := ⟨((Below.refl _ w).alloc (Nat.le_refl _) _).trans (b1.mono (by rw [World.size_alloc]; exact Nat.le_succ _)), B0.below b1 (Nat.le_refl _)⟩
 clear b1 B0
 go_cut [4] from 7 (fun v4 wr => St w r (.slice ao r.counts.length cap) v4 (w0 r) wr)
 case first =>
   have E1 := hE.below b2
   have c0 := B2.c0
   have c1 := B2.c1
   have c2 := B2.c2
   have c4 := B2.c4
   have c5 := B2.c5
   have hg := B2.1
   obtain ⟨bm, hgl, hlk⟩ := E1.kinds
   have hg0 : 1 < wv.heap.size := by have := E1.size; omega
   have hl : ∀ x : Later wv, (Instr.lookup 107 (.map (some bm)) (.int .i64 r.kind) false).run Tryz.prog x.wld = .ok (.string ⟨(kindW r.kind).toArray⟩) x.wld := fun x => hlk _ x.below _ ok.kind
   have H : ∀ x : Later wv, ∀ y : Int, 0 ≤ y → y ≤ 1000000 → Calls Tryz.prog 37 #[.int .i64 y] x.wld fun e w' => e = .returned (.string ⟨(dec y).toArray⟩) ∧ ∃ z : Later wv, w' = z.wld :=
     fun x y h0 h1 => Calls.later_of (itoa_run y _ (E1.below x.below) h0 h1)
   have H1 := Lib.hid (fun x => H x r.num (by have := ok.num; omega) (by have := ok.num; omega))
   have H2 := Lib.hid (fun x => H x r.lvl ok.lvl.1 (by have := ok.lvl; omega))
   have H3 := Lib.hid (fun x => H x r.rank ok.rank.1 (by have := ok.rank; omega))
   have H4 := Lib.hid (fun x => H x r.value (by have := ok.value; omega) ok.value.2)
   clear H hlk hE
   refine wp_region_later_tail 20 (by kernel_rfl) (by kernel_rfl) ?_
   simp only [List.take_succ_cons, List.take_zero, List.drop_succ_cons, List.drop_zero]
   repeat (go_big_quiet_step ((go_at_call 37; first | (with_reducible exact H1.out _) | (with_reducible exact H2.out _) | (with_reducible exact H3.out _) | (with_reducible exact H4.out _))))
   refine wpQuiet_nil ?_
   rintro _ ⟨x, rfl⟩
   go_wp2
   go_meet
   case rel => exact St.start (b2.trans (x.below.mono b2.size)) (B2.below x.below (Nat.le_refl _)) (w0 r) _ rfl 7 rfl (by omega)
 case rest =>
   have hS := hcut
   clear hcut b2 B2
   -- the group
   have cc := hS.box.c3
   have hg := hS.box.1
   go_upto_if 33 with fail
   go_cut [4] from 7 (fun v5 wr => St w r (.slice ao r.counts.length cap) v5 (w1 r) wr)
   case first =>
     by_cases h : r.group = -1
     · have hb : (r.group == -1) = true := by simp [h]
       have hb2 : (r.group != -1) = false := by simp [h]
       have HH := Lib.hid h
       clear h
       go_wp2
       go_meet
       case rel => exact (w1_no HH.out).symm ▸ hS
     · have hb : (r.group == -1) = false := by simpa using h
       have hb2 : (r.group != -1) = true := by simpa using h
       have p1 : 0 ≤ r.group := by have := ok.group; omega
       have p2 : r.group ≤ 1000000 := by have := ok.group; omega
       have EE := hE.below hS.below
       have hl := w0_len r
       go_wp2_with (first | (go_at_call 37; refine (itoa_run _ _ EE p1 p2).mono ?_; rintro e wa ⟨rfl, ba⟩) | (at_builtin; refine app_words rfl (.tmp 34) (.tmp 39) 23 rfl (w.heap.size + 1) 9 9 i0 _ Tryz.underlying23 HI.out HZ0.out HZ1.out HZ2.out rfl _ (w0 r) [wGroup, dec r.group] _ rfl _ rfl (hS.step ba).own rfl (by omega) (by simp) (hS.step ba).size ?_; intro v5 w9 ho9 hg9))
       go_meet
       case rel => exact (w1_yes h) ▸ (hS.step ba).app hg9 ho9
   clear hS cc hg
   have hS := hcut
   clear hcut
   -- the cap
   have cc := hS.box.c6
   have hg := hS.box.1
   go_upto_if 43 with fail
   go_cut [4] from 7 (fun v5 wr => St w r (.slice ao r.counts.length cap) v5 (w2 r) wr)
   case first =>
     by_cases h : r.cap = 0
     · have hb : (r.cap == 0) = true := by simp [h]
       have hb2 : (r.cap != 0) = false := by simp [h]
       have HH := Lib.hid h
       clear h
       go_wp2
       go_meet
       case rel => exact (w2_no HH.out).symm ▸ hS
     · have hb : (r.cap == 0) = false := by simpa using h
       have hb2 : (r.cap != 0) = true := by simpa using h
       have p1 : 0 ≤ r.cap := by have := ok.cap; omega
       have p2 : r.cap ≤ 1000000 := by have := ok.cap; omega
       have EE := hE.below hS.below
       have hl := w1_len r
       go_wp2_with (first | (go_at_call 37; refine (itoa_run _ _ EE p1 p2).mono ?_; rintro e wa ⟨rfl, ba⟩) | (at_builtin; refine app_words rfl (.tmp 44) (.tmp 49) 23 rfl (w.heap.size + 1) 9 9 i0 _ Tryz.underlying23 HI.out HZ0.out HZ1.out HZ2.out rfl _ (w1 r) [wCap, dec r.cap] _ rfl _ rfl (hS.step ba).own rfl (by omega) (by simp) (hS.step ba).size ?_; intro v5 w9 ho9 hg9))
       go_meet
       case rel => exact (w2_yes h) ▸ (hS.step ba).app hg9 ho9
   clear hS cc hg
   have hS := hcut
   clear hcut
   -- the total
   have c7 := hS.box.c7
   have c8 := hS.box.c8
   have hg := hS.box.1
   have EE := hE.below hS.below
   obtain ⟨a0, a1⟩ := EE.all
   have hz1 : 0 < wc.heap.size := by have := EE.size; omega
   have hN := neqSpan r.lo r.hi
   go_upto_if 55 with fail
   go_cut [4] from 7 (fun v5 wr => St w r (.slice ao r.counts.length cap) v5 (w3 r) wr)
   case first =>
     cases hA : allSp r.lo r.hi
     all_goals rw [hA] at hN
     · have hl := w2_len r
       go_wp2_with (first | (go_at_call 106; refine (implSpanText_any _ _ _ EE ok.lo.1 ok.lo.2 ok.hi.1 ok.hi.2).mono ?_; rintro e wa ⟨rfl, ba⟩) | (at_builtin; refine app_words rfl (.tmp 56) (.tmp 61) 23 rfl (w.heap.size + 1) 9 9 i0 _ Tryz.underlying23 HI.out HZ0.out HZ1.out HZ2.out rfl _ (w2 r) [wTotal, spW r.lo r.hi] _ rfl _ rfl (hS.step ba).own rfl (by omega) (by simp) (hS.step ba).size ?_; intro v5 w9 ho9 hg9))
       go_meet
       case rel => exact (w3_yes hA) ▸ (hS.step ba).app hg9 ho9
     · go_wp2
       go_meet
       case rel => exact (w3_no hA).symm ▸ hS
   clear hS c7 c8 hg EE a0 a1 hz1 hN
   have hS := hcut
   clear hcut
   -- the counts
   have c9 := hS.box.c9
   have hg := hS.box.1
   go_wp2
   go_loopw [4, 67] (fun v4 i wr => ∃ k : Nat, k ≤ r.counts.length ∧ i = .int .i64 k ∧ St w r (.slice ao r.counts.length cap) v4 (w4 r k) wr) (fun _ i _ => r.counts.length - (intOf i).toNat)
   case atStart => exact ⟨0, Nat.zero_le _, rfl, by simpa [w4, cntW] using hS⟩
   case round =>
     clear hS c9 hg
     obtain ⟨k, hk, rfl, hS⟩ := hrel
     have hg := hS.box.1
     have EE := hE.below hS.below
     by_cases hlt : k < r.counts.length
     · obtain ⟨a0, a1⟩ := EE.all
       have hz1 : 0 < wr.heap.size := by have := EE.size; omega
       obtain ⟨b, off, rfl, hb, hcell⟩ := HR.out (by omega)
       have hcell := hcell k hlt
       have g0 := (hS.below.cell (p := ⟨b, off + k*2, none⟩) hb).trans hcell.1
       have g1 := (hS.below.cell (p := ⟨b, off + k*2+1, none⟩) hb).trans hcell.2
       have hbw : b < wr.heap.size := Nat.lt_of_lt_of_le hb hS.below.size
       have hk0 : (0 : Int) ≤ (k : Int) := by omega
       have hk1 : (k : Int) < (r.counts.length : Int) := by omega
       have hN := neqSpan (pA r.counts k) (pB r.counts k)
       have S1 := hS.alloc (.cells #[.int .i64 (pA r.counts k), .int .i64 (pB r.counts k)] 38)
       cases hA : allSp (pA r.counts k) (pB r.counts k)
       all_goals rw [hA] at hN
       · obtain ⟨p1, p2⟩ := ok.cnt k hlt
         have hl := w4_len r k
         have E1 := hE.below S1.below
         have H1 := Lib.hid (fun x : Later (wr.alloc (.cells #[.int .i64 (pA r.counts k), .int .i64 (pB r.counts k)] 38)) => Calls.later_of (itoa_run (k : Int) x.wld (E1.below x.below) (by omega) (by omega)))
         have H2 := Lib.hid (fun x : Later (wr.alloc (.cells #[.int .i64 (pA r.counts k), .int .i64 (pB r.counts k)] 38)) => Calls.later_of (implSpanText_any (pA r.counts k) (pB r.counts k) x.wld (E1.below x.below) p1.1 p1.2 p2.1 p2.2))
         clear p1 p2 hcell EE E1
         go_wp2
         refine wp_region_later_tail1 (v := u4) 6 (by kernel_rfl) (by kernel_rfl) (by kernel_rfl) (fun _ _ _ h => h) (Or.inl ⟨by rfl, ?_⟩) (by kernel_rfl) ?_
         · intro w
           go_simp
         simp only [Nat.reduceSub, List.take_succ_cons, List.take_zero, List.drop_succ_cons, List.drop_zero, Act.put, List.setIfInBounds_toArray, List.set_cons_zero, List.set_cons_succ]
         repeat (go_big_quiet_step (first | (go_at_call 37; (with_reducible exact H1.out _)) | (go_at_call 106; (with_reducible exact H2.out _))))
         refine wpQuiet_nil ?_
         rintro _ ⟨x, rfl⟩
         go_wp2_with (at_builtin; refine app_words rfl (.tmp 75) (.tmp 81) 23 rfl (w.heap.size + 1) 9 9 i0 _ Tryz.underlying23 HI.out HZ0.out HZ1.out HZ2.out rfl _ (w4 r k) [wCount, dec k, spW (pA r.counts k) (pB r.counts k)] _ rfl _ rfl (S1.step x.below).own rfl (by omega) (by simp) (S1.step x.below).size ?_; intro v5 w9 ho9 hg9)
         go_roundw
         case rel => exact ⟨k+1, by omega, by go_num, (w4_yes hA) ▸ (S1.step x.below).app hg9 ho9⟩
         case measure => simp [intOf]; omega
       · go_wp2
         go_roundw
         case rel => exact ⟨k+1, by omega, by go_num, (w4_no hA).symm ▸ S1⟩
         case measure => simp [intOf]; omega
     · obtain rfl : k = r.counts.length := by omega
       have c10 := hS.box.c10
       by_cases h : r.coupon = 0
       · have hb : (r.coupon == 0) = true := by simp [h]
         have hb2 : (r.coupon != 0) = false := by simp [h]
         have HH := Lib.hid h
         clear h
         go_wp2_with (go_at_call 41; refine (join_any r _ _ w _ ((w5_no HH.out).symm ▸ hS) ok).mono ?_; rintro e wj ⟨rfl, bj⟩)
         go_ret
         exact ⟨by rw [fin.out]; rfl, hS.below.trans (bj.mono hS.below.size)⟩
       · have hb : (r.coupon == 0) = false := by simpa using h
         have hb2 : (r.coupon != 0) = true := by simpa using h
         have p1 : 0 ≤ r.coupon := by have := ok.coupon; omega
         have p2 : r.coupon ≤ 1000000 := by have := ok.coupon; omega
         have hl := w4_len r r.counts.length
         go_wp2_with (first | (go_at_call 37; refine (itoa_run _ _ EE p1 p2).mono ?_; rintro e wa ⟨rfl, ba⟩) | (at_builtin; refine app_words rfl (.tmp 88) (.tmp 94) 23 rfl (w.heap.size + 1) 9 9 i0 _ Tryz.underlying23 HI.out HZ0.out HZ1.out HZ2.out rfl _ (w4 r r.counts.length) [wCoupon, dec r.coupon] _ rfl _ rfl (hS.step ba).own rfl (by omega) (by simp) (hS.step ba).size ?_; intro v5 w9 ho9 hg9) | (go_at_call 41; refine (join_any r _ _ w _ ((w5_yes h) ▸ (hS.step ba).app hg9 ho9) ok).mono ?_; rintro e wj ⟨rfl, bj⟩))
         go_ret
         have hS9 := (hS.step ba).app hg9 ho9
         exact ⟨by rw [fin.out]; rfl, hS9.below.trans (bj.mono hS9.below.size)⟩
end Go.Proofs.YtijofgaekmahkaaGreatDoor

namespace Go.Proofs.YtijofgaekmahkaaGreatDoor
open Go.RowKit
structure At (w : World) (S g b : Nat) (r : Rl) (ws : List (List UInt8)) (bad : Bool) (W : World) : Prop where
 ord : w.heap.size < S ∧ S < g ∧ g < b
 K : W.heap[w.heap.size]? = some (.cells #[.int .i64 0, .int .i64 0, .int .i64 0, .int .i64 0, .int .i64 0, .int .i64 0, .int .i64 0, .int .i64 0, .int .i64 0, .slice none 0 0, .int .i64 0] 43 (0, 0))
 G : W.heap[b]? = some (.cells #[.int .i64 r.num, .int .i64 r.lvl, .int .i64 r.rank, .int .i64 r.group, .int .i64 r.kind, .int .i64 r.value, .int .i64 r.cap, .int .i64 r.lo, .int .i64 r.hi, .slice (some ⟨g, 0, none⟩) 3 3, .int .i64 r.coupon] 43 (0, 0))
 F : ∃ a0 b0 a1 b1 a2 b2 : Int, r.counts = [(a0, b0), (a1, b1), (a2, b2)] ∧ W.heap[g]? = some (.cells #[.int .i64 a0, .int .i64 b0, .int .i64 a1, .int .i64 b1, .int .i64 a2, .int .i64 b2] 38 (0, 0))
 sc : Sc W S ws bad
 env : EnvB w.heap.size W
 bel : Below w.heap.size w W
 sh : Sh ws
theorem At.step {w W W' : World} {S g b : Nat} {r : Rl} {ws ws' : List (List UInt8)} {bad bad' : Bool} (A : At w S g b r ws bad W) (st : ScStep W S ws' bad' W') (sh : Sh ws') : At w S g b r ws' bad' W' := by
 obtain ⟨o1, o2, o3⟩ := A.ord
 obtain ⟨a0, b0, a1, b1, a2, b2, h1, h2⟩ := A.F
 exact ⟨A.ord, st.row A.K (by omega), st.row A.G (by omega), ⟨a0, b0, a1, b1, a2, b2, h1, st.row h2 (by omega)⟩, st.sc, A.env.grown st.grown (by omega), A.bel.grown st.grown A.bel.size (fun k hk => by simp only [Option.some.injEq] at hk; omega), sh⟩
theorem grown_set (W : World) (k i : Nat) (v : Value) : W.grownBy (W.setCell ⟨k, i, none⟩ v) (some k) :=
 ⟨rfl, rfl, rfl, by simp [World.setCell], fun j _ hj => heap_setCell_other W ⟨k, i, none⟩ j _ (fun e => hj (by simp [e]))⟩
theorem At.set {w W : World} {S g b : Nat} {r : Rl} {ws : List (List UInt8)} {bad : Bool} (A : At w S g b r ws bad W) (i : Nat) (v : Value) (r : Rl) (hc : ∃ r1 : Rl, At w S g b r1 ws bad W ∧ r.counts = r1.counts)
   (hG : (W.setCell ⟨b, i, none⟩ v).heap[b]? = some (.cells #[.int .i64 r.num, .int .i64 r.lvl, .int .i64 r.rank, .int .i64 r.group, .int .i64 r.kind, .int .i64 r.value, .int .i64 r.cap, .int .i64 r.lo, .int .i64 r.hi, .slice (some ⟨g, 0, none⟩) 3 3, .int .i64 r.coupon] 43 (0, 0))) : At w S g b r ws bad (W.setCell ⟨b, i, none⟩ v) := by
 obtain ⟨r1, B, hc⟩ := hc
 obtain ⟨o1, o2, o3⟩ := A.ord
 obtain ⟨a0, b0, a1, b1, a2, b2, h1, h2⟩ := B.F
 exact ⟨A.ord, heap_set A.K (by omega), hG, ⟨a0, b0, a1, b1, a2, b2, hc.trans h1, heap_set h2 (by omega)⟩, A.sc.grown (grown_set W b i v) (fun k hk => by simp only [Option.some.injEq] at hk; omega),
   A.env.grown (grown_set W b i v) (by omega), A.bel.setCell (p := ⟨b, i, none⟩) (by show _ ≤ b; omega) v, A.sh⟩
theorem At.num {w W : World} {S g b : Nat} {r : Rl} {ws : List (List UInt8)} {bad : Bool} (A : At w S g b r ws bad W) (n : Int) : At w S g b { r with num := n } ws bad (W.setCell ⟨b, 0, none⟩ (.int .i64 n)) :=
 A.set 0 (.int .i64 n) _ ⟨r, A, rfl⟩ (Joins.block_setCell A.G _)
theorem At.lvl {w W : World} {S g b : Nat} {r : Rl} {ws : List (List UInt8)} {bad : Bool} (A : At w S g b r ws bad W) (n : Int) : At w S g b { r with lvl := n } ws bad (W.setCell ⟨b, 1, none⟩ (.int .i64 n)) :=
 A.set 1 (.int .i64 n) _ ⟨r, A, rfl⟩ (Joins.block_setCell A.G _)
theorem At.rank {w W : World} {S g b : Nat} {r : Rl} {ws : List (List UInt8)} {bad : Bool} (A : At w S g b r ws bad W) (n : Int) : At w S g b { r with rank := n } ws bad (W.setCell ⟨b, 2, none⟩ (.int .i64 n)) :=
 A.set 2 (.int .i64 n) _ ⟨r, A, rfl⟩ (Joins.block_setCell A.G _)
theorem At.group {w W : World} {S g b : Nat} {r : Rl} {ws : List (List UInt8)} {bad : Bool} (A : At w S g b r ws bad W) (n : Int) : At w S g b { r with group := n } ws bad (W.setCell ⟨b, 3, none⟩ (.int .i64 n)) :=
 A.set 3 (.int .i64 n) _ ⟨r, A, rfl⟩ (Joins.block_setCell A.G _)
theorem At.kind {w W : World} {S g b : Nat} {r : Rl} {ws : List (List UInt8)} {bad : Bool} (A : At w S g b r ws bad W) (n : Int) : At w S g b { r with kind := n } ws bad (W.setCell ⟨b, 4, none⟩ (.int .i64 n)) :=
 A.set 4 (.int .i64 n) _ ⟨r, A, rfl⟩ (Joins.block_setCell A.G _)
theorem At.value {w W : World} {S g b : Nat} {r : Rl} {ws : List (List UInt8)} {bad : Bool} (A : At w S g b r ws bad W) (n : Int) : At w S g b { r with value := n } ws bad (W.setCell ⟨b, 5, none⟩ (.int .i64 n)) :=
 A.set 5 (.int .i64 n) _ ⟨r, A, rfl⟩ (Joins.block_setCell A.G _)
theorem At.cap {w W : World} {S g b : Nat} {r : Rl} {ws : List (List UInt8)} {bad : Bool} (A : At w S g b r ws bad W) (n : Int) : At w S g b { r with cap := n } ws bad (W.setCell ⟨b, 6, none⟩ (.int .i64 n)) :=
 A.set 6 (.int .i64 n) _ ⟨r, A, rfl⟩ (Joins.block_setCell A.G _)
theorem At.lo {w W : World} {S g b : Nat} {r : Rl} {ws : List (List UInt8)} {bad : Bool} (A : At w S g b r ws bad W) (n : Int) : At w S g b { r with lo := n } ws bad (W.setCell ⟨b, 7, none⟩ (.int .i64 n)) :=
 A.set 7 (.int .i64 n) _ ⟨r, A, rfl⟩ (Joins.block_setCell A.G _)
theorem At.hi {w W : World} {S g b : Nat} {r : Rl} {ws : List (List UInt8)} {bad : Bool} (A : At w S g b r ws bad W) (n : Int) : At w S g b { r with hi := n } ws bad (W.setCell ⟨b, 8, none⟩ (.int .i64 n)) :=
 A.set 8 (.int .i64 n) _ ⟨r, A, rfl⟩ (Joins.block_setCell A.G _)
theorem At.coupon {w W : World} {S g b : Nat} {r : Rl} {ws : List (List UInt8)} {bad : Bool} (A : At w S g b r ws bad W) (n : Int) : At w S g b { r with coupon := n } ws bad (W.setCell ⟨b, 10, none⟩ (.int .i64 n)) :=
 A.set 10 (.int .i64 n) _ ⟨r, A, rfl⟩ (Joins.block_setCell A.G _)
theorem At.at {w W : World} {S g b : Nat} {r : Rl} {ws : List (List UInt8)} {bad : Bool} (A : At w S g b r ws bad W) (i : Nat) (u : Value) (h : (#[.int .i64 r.num, .int .i64 r.lvl, .int .i64 r.rank, .int .i64 r.group, .int .i64 r.kind, .int .i64 r.value, .int .i64 r.cap, .int .i64 r.lo, .int .i64 r.hi, .slice (some ⟨g, 0, none⟩) 3 3, .int .i64 r.coupon] : Array Value)[i]? = some u) : W.cell? ⟨b, i, none⟩ = some u ∧ W.frozen? ⟨b, i, none⟩ = false :=
 ⟨(cell_of_row W b i _ _ _ A.G).trans h, frozen_of_row W b i _ _ A.G⟩
theorem isW_eq {y z : List UInt8} (t : List (List UInt8)) : isW (y :: t) z = (y == z) := rfl
theorem isW_not {l : List (List UInt8)} {z : List UInt8} (h : nextNot l z) : isW l z = false := by
 cases l with
 | nil => rfl
 | cons y t => rw [isW_eq, beq_eq_false_iff_ne]; exact h y rfl
theorem num_dec {n : Int} (h0 : 0 ≤ n) (h1 : n ≤ 1000000) : vaI (dec n) = n ∧ okI (dec n) = true := by
 have h := atoiAll_dec h0 (dec_len18 h0 h1)
 unfold vaI okI
 rw [h]
 exact ⟨rfl, rfl⟩
theorem gh_num {T : List UInt8} {ws : List (List UInt8)} {bad : Bool} {n : Rl → Int} {rest : Rl → List (List UInt8)} {P : Rl → Prop} (h : Gh T (fun r0 => bad = false ∧ ws = dec (n r0) :: rest r0 ∧ P r0)) (hb : ∀ r0, okRu r0 = true → 0 ≤ n r0 ∧ n r0 ≤ 1000000) :
   Gh T (fun r0 => ((bad || ws.isEmpty) || !okI (ws.headD [])) = false ∧ ws.tail = rest r0 ∧ vaI (ws.headD []) = n r0 ∧ P r0) := h.imp fun r0 ok _ ⟨h1, h2, h3⟩ => by
 subst h1 h2
 have := num_dec (hb r0 ok).1 (hb r0 ok).2
 simp only [List.headD_cons, List.isEmpty_cons, List.tail_cons]
 exact ⟨by rw [this.2]; rfl, trivial, this.1, h3⟩
end Go.Proofs.YtijofgaekmahkaaGreatDoor

namespace Go.Proofs.YtijofgaekmahkaaGreatDoor
open Go.RowKit
def Off (b : Nat) (v : Value) : Prop := ∀ a n c, v = .slice (some a) n c → a.block ≠ b
theorem Off.of_owns {w : World} {b base e sz n : Nat} {v : Value} {xs : List Value} (h : w.ownsRow base e sz v n xs) (hb : b < base) : Off b v := by
 intro a m c he
 rcases h.2 with ⟨rfl, _⟩ | ⟨g, cap, cur, rfl, hg, _⟩
 · cases he
 · injection he with h1
   obtain rfl := Option.some.inj h1
   simp only
   omega
theorem Off.none (b : Nat) {n c : Nat} : Off b (.slice none n c) := fun a m k he => by cases he
theorem Rd.grown {w w' : World} {b sz n : Nat} {v : Value} {xs : List Value} (h : Rd w sz v n xs) (hg : w.grownBy w' (some b)) (ho : Off b v) : Rd w' sz v n xs := by
 obtain ⟨h1, ao, cap, h2, h3, h4, h5⟩ := h
 refine ⟨h1, ao, cap, h2, h3, h4, fun hn => ?_⟩
 obtain ⟨g, off, rfl, hlt, hc⟩ := h5 hn
 have hne : g ≠ b := ho ⟨g, off, Option.none⟩ n cap h2
 refine ⟨g, off, rfl, Nat.lt_of_lt_of_le hlt hg.size, fun j u hu => ?_⟩
 exact (World.cell?_of_block (a := ⟨g, off + j, Option.none⟩) (hg.block g hlt (by simpa using hne))).trans (hc j u hu)
theorem RdR.grown {w w' : World} {b : Nat} {v : Value} {l : List Rx} (h : RdR w v l) (hg : w.grownBy w' (some b)) (ho : Off b v) (hx : ∀ x ∈ l, Off b x.v) : RdR w' v l :=
 ⟨h.1.grown hg ho, fun x hm => (h.2 x hm).grown hg (hx x hm)⟩
structure SesV (w : World) (b : Nat) (u v z y : Value) (S : Se) : Prop where
 lt : b < w.heap.size
 s : Rd w 4 u 4 (ar shopS)
 so : Off b u
 c : Rd w 2 v S.c.length (pr S.c)
 co : Off b v
 q : Rd w 1 z S.cp.length (it S.cp)
 qo : Off b z
 r : ∃ l, rls l = S.rs ∧ RdR w y l ∧ Off b y ∧ ∀ x ∈ l, Off b x.v
 ok : SeOk S
theorem SesV.below {w w' : World} {B b : Nat} {u v z y : Value} {S : Se} (h : SesV w b u v z y S) (hb : Below B w w') (hB : w.heap.size ≤ B) : SesV w' b u v z y S := by
 obtain ⟨l, h1, h2, h3, h4⟩ := h.r
 exact ⟨Nat.lt_of_lt_of_le h.lt hb.size, h.s.below hb hB, h.so, h.c.below hb hB, h.co, h.q.below hb hB, h.qo, ⟨l, h1, h2.below hb hB, h3, h4⟩, h.ok⟩
theorem SesV.grown {w w' : World} {b : Nat} {u v z y : Value} {S : Se} (h : SesV w b u v z y S) (hg : w.grownBy w' (some b)) : SesV w' b u v z y S := by
 obtain ⟨l, h1, h2, h3, h4⟩ := h.r
 exact ⟨Nat.lt_of_lt_of_le h.lt hg.size, h.s.grown hg h.so, h.so, h.c.grown hg h.co, h.co, h.q.grown hg h.qo, h.qo, ⟨l, h1, h2.grown hg h3 h4, h3, h4⟩, h.ok⟩
theorem SesV.cart {w : World} {b : Nat} {u v z y x : Value} {S : Se} {c : List (Int × Int)} (h : SesV w b u v z y S) (hr : Rd w 2 x c.length (pr c)) (ho : Off b x) (hc : vCart shopS c = true) : SesV w b u x z y { S with c := c } :=
 ⟨h.lt, h.s, h.so, hr, ho, h.q, h.qo, h.r, ⟨hc, h.ok.cp, h.ok.rs⟩⟩
theorem SesV.coupons {w : World} {b : Nat} {u v z y x : Value} {S : Se} {q : List Int} (h : SesV w b u v z y S) (hr : Rd w 1 x q.length (it q)) (ho : Off b x) (hq : cpnQ q = true) : SesV w b u v x y { S with cp := q } :=
 ⟨h.lt, h.s, h.so, h.c, h.co, hr, ho, h.r, ⟨h.ok.c, hq, h.ok.rs⟩⟩
theorem SesV.rules {w : World} {b : Nat} {u v z y x : Value} {S : Se} {rs : List Rl} {l : List Rx} (h : SesV w b u v z y S) (hl : rls l = rs) (hr : RdR w x l) (ho : Off b x) (hx : ∀ q ∈ l, Off b q.v) (hk : okRs rs = true) : SesV w b u v z x { S with rs := rs } :=
 ⟨h.lt, h.s, h.so, h.c, h.co, h.q, h.qo, ⟨l, hl, hr, ho, hx⟩, ⟨h.ok.c, h.ok.cp, hk⟩⟩
def SesI (w : World) (b : Nat) (S : Se) : Prop := ∃ u v z y, w.heap[b]? = some (.cells #[u, v, z, y] 53 (0, 0)) ∧ SesV w b u v z y S
def SesD (w : World) (b : Nat) (S : Se) : Prop := ∃ u v z y, w.heap[b]? = some (.cells #[u, v, y, z] 87 (0, 0)) ∧ SesV w b u v z y S
theorem SesI.below {w w' : World} {B b : Nat} {S : Se} (h : SesI w b S) (hb : Below B w w') (hB : w.heap.size ≤ B) : SesI w' b S := by
 obtain ⟨u, v, z, y, h1, h2⟩ := h
 exact ⟨u, v, z, y, (hb.block b (Nat.lt_of_lt_of_le h2.lt hB)).trans h1, h2.below hb hB⟩
theorem SesD.below {w w' : World} {B b : Nat} {S : Se} (h : SesD w b S) (hb : Below B w w') (hB : w.heap.size ≤ B) : SesD w' b S := by
 obtain ⟨u, v, z, y, h1, h2⟩ := h
 exact ⟨u, v, z, y, (hb.block b (Nat.lt_of_lt_of_le h2.lt hB)).trans h1, h2.below hb hB⟩
theorem SesI.set1 {w : World} {b : Nat} {u v z y x : Value} (h : w.heap[b]? = some (.cells #[u, v, z, y] 53 (0, 0))) : (w.setCell ⟨b, 1, none⟩ x).heap[b]? = some (.cells #[u, x, z, y] 53 (0, 0)) := Joins.block_setCell (i := 1) h x
theorem SesI.set2 {w : World} {b : Nat} {u v z y x : Value} (h : w.heap[b]? = some (.cells #[u, v, z, y] 53 (0, 0))) : (w.setCell ⟨b, 2, none⟩ x).heap[b]? = some (.cells #[u, v, x, y] 53 (0, 0)) := Joins.block_setCell (i := 2) h x
theorem SesI.set3 {w : World} {b : Nat} {u v z y x : Value} (h : w.heap[b]? = some (.cells #[u, v, z, y] 53 (0, 0))) : (w.setCell ⟨b, 3, none⟩ x).heap[b]? = some (.cells #[u, v, z, x] 53 (0, 0)) := Joins.block_setCell (i := 3) h x
theorem SesD.set1 {w : World} {b : Nat} {u v z y x : Value} (h : w.heap[b]? = some (.cells #[u, v, y, z] 87 (0, 0))) : (w.setCell ⟨b, 1, none⟩ x).heap[b]? = some (.cells #[u, x, y, z] 87 (0, 0)) := Joins.block_setCell (i := 1) h x
theorem SesD.set2 {w : World} {b : Nat} {u v z y x : Value} (h : w.heap[b]? = some (.cells #[u, v, y, z] 87 (0, 0))) : (w.setCell ⟨b, 2, none⟩ x).heap[b]? = some (.cells #[u, v, x, z] 87 (0, 0)) := Joins.block_setCell (i := 2) h x
theorem SesD.set3 {w : World} {b : Nat} {u v z y x : Value} (h : w.heap[b]? = some (.cells #[u, v, y, z] 87 (0, 0))) : (w.setCell ⟨b, 3, none⟩ x).heap[b]? = some (.cells #[u, v, y, x] 87 (0, 0)) := Joins.block_setCell (i := 3) h x
def RcOut (s : List Art) (c : List (Int × Int)) (cp : List Int) (rs : List Rl) (w : World) (e : Ending) (w' : World) : Prop :=
 ∃ (a1 : Option Addr) (n1 k1 : Nat) (a2 : Option Addr) (n2 k2 : Nat), e = .returned (.tuple #[.agg #[.slice a1 n1 k1, .slice a2 n2 k2], .bool (clrQ rs)]) ∧
   (clrQ rs = true → n1 = c.length ∧ n2 = (rcL s c cp (ordL rs)).2.length ∧ Rd w' 1 (.slice a1 c.length k1) c.length (it (rcL s c cp (ordL rs)).1) ∧ Rd w' 3 (.slice a2 (rcL s c cp (ordL rs)).2.length k2) (rcL s c cp (ordL rs)).2.length (nts (rcL s c cp (ordL rs)).2) ∧ ∀ g, a2 = some g → w.heap.size ≤ g.block) ∧ Below w.heap.size w w'
end Go.Proofs.YtijofgaekmahkaaGreatDoor
