/- Joined texts: Walks: what a rule wishes, in the reference. Walk: the effect of a rule, in the reference. Walks: whether a guard holds at a point, in the reference. Conditions: none. -/
import Derived.Test.YtijofgaekmahkaaGreatDoorM18
namespace Go.Proofs.YtijofgaekmahkaaGreatDoor
open Go.RowKit
def mtQ (s : List Art) (r : Rl) (a : Nat) : Bool := decide (r.group < 0) || decide ((aT s a).g = r.group)
theorem mtQ_iff {s : List Art} {r : Rl} {a : Nat} (h : -1 ≤ r.group) : mtQ s r a = true ↔ r.group = -1 ∨ (aT s a).g = r.group := by
 unfold mtQ
 rw [Bool.or_eq_true, decide_eq_true_eq, decide_eq_true_eq]
 omega
theorem line_in {w W2 : World} {o : Obj} {a y : Int} (h : W2 = (w.alloc o).alloc (.cells #[.int .i64 a, .int .i64 y] 82)) : W2.cell? ⟨w.heap.size + 1, 0, none⟩ = some (.int .i64 a) ∧ W2.cell? ⟨w.heap.size + 1, 1, none⟩ = some (.int .i64 y) := by
 have h1 := heap_alloc_new (w.alloc o) (.cells #[.int .i64 a, .int .i64 y] 82)
 rw [World.size_alloc, ← h] at h1
 exact ⟨cell_of_row W2 _ 0 _ _ _ h1, cell_of_row W2 _ 1 _ _ _ h1⟩
set_option maxHeartbeats 4000000 in
set_option maxRecDepth 100000 in
theorem meant_any (s : List Art) (u : Value) (r : Rl) (ro : Option Addr) (rn rcap : Nat) (a : Nat) (y : Int) (w : World) (hs : Rd w 4 u s.length (ar s)) (ha : a < s.length) :
   Calls Tryz.prog 211 #[u, ruV r (.slice ro rn rcap), .agg #[.int .i64 (a : Int), .int .i64 y]] w fun e w' => e = .returned (.bool (mtQ s r a)) ∧ Below w.heap.size w w' := by
 unfold ruV
 obtain ⟨so, scap, rfl, _, _, hrs⟩ := hs.arts
 obtain ⟨b, off, rfl, hb, hcell⟩ := hrs (by omega)
 have h0 := (hcell a ha).2.1
 have bx := box11 w r (.slice ro rn rcap) 43
 have b1 := ((Below.refl w.heap.size w).alloc (Nat.le_refl _) (.cells #[.int .i64 r.num, .int .i64 r.lvl, .int .i64 r.rank, .int .i64 r.group, .int .i64 r.kind, .int .i64 r.value, .int .i64 r.cap, .int .i64 r.lo, .int .i64 r.hi, .slice ro rn rcap, .int .i64 r.coupon] 43)).alloc (by simp) (.cells #[.int .i64 (a : Int), .int .i64 y] 82)
 have bx2 := bx.below ((Below.refl _ _).alloc (Nat.le_refl _) (.cells #[.int .i64 (a : Int), .int .i64 y] 82)) (Nat.le_refl _)
 obtain ⟨W2, hW2⟩ : ∃ W2, W2 = (w.alloc (.cells #[.int .i64 r.num, .int .i64 r.lvl, .int .i64 r.rank, .int .i64 r.group, .int .i64 r.kind, .int .i64 r.value, .int .i64 r.cap, .int .i64 r.lo, .int .i64 r.hi, .slice ro rn rcap, .int .i64 r.coupon] 43)).alloc (.cells #[.int .i64 (a : Int), .int .i64 y] 82) := ⟨_, rfl⟩
 rw [← hW2] at bx2 b1
 have fin : Hid (mtQ s r a = (decide (r.group < 0) || decide ((aT s a).g = r.group))) := rfl
 obtain ⟨g, hg⟩ : ∃ g, g = (aT s a).g := ⟨_, rfl⟩
 rw [← hg] at h0 fin
 have ha0 : (0 : Int) ≤ (a : Int) := by omega
 have ha1 : (a : Int) < (s.length : Int) := by omega
 have g0 := (b1.cell (p := ⟨b, off + a*4+1, none⟩) hb).trans h0
 have c3 := bx2.c3
 have l0 : b < W2.heap.size := Nat.lt_of_lt_of_le hb b1.size
 have l1 := bx2.1
 have HW2 := Lib.hid hW2
 have HB1 := Lib.hid b1
 clear hs hrs hcell h0 bx bx2 b1 hW2 hg
 go_enter Tryz.func211, Tryz.ntmps211
 go_upto_region 1 with fail
 rw [← HW2.out]
 obtain ⟨d0, d1⟩ := line_in HW2.out
 clear HW2
 by_cases hm : r.group < 0
 · have hmb : decide (r.group < 0) = true := by simp [hm]
   clear hm
   rw [hmb] at fin
   go_wp2
   go_quiet (fail)
   go_wp2
   go_ret
   exact ⟨by rw [fin.out] <;> rfl, below_drewN HB1.out _⟩
 · have hmb : decide (r.group < 0) = false := by simp; omega
   rw [hmb] at fin
   by_cases hm2 : g = r.group
   · have hm3 : (g == r.group) = true := by simp [hm2]
     have hm4 : decide (g = r.group) = true := by simp [hm2]
     rw [hm4] at fin
     clear hm hm2 hm4
     go_wp2
     go_quiet (fail)
     go_wp2
     go_ret
     exact ⟨by rw [fin.out] <;> rfl, below_drewN HB1.out _⟩
   · have hm3 : (g == r.group) = false := by simp [hm2]
     have hm4 : decide (g = r.group) = false := by simp [hm2]
     rw [hm4] at fin
     clear hm hm2 hm4
     go_wp2
     go_quiet (fail)
     go_wp2
     go_ret
     exact ⟨by rw [fin.out] <;> rfl, below_drewN HB1.out _⟩
theorem wis_zero {s : List Art} {r : Rl} {c : List (Int × Int)} {left : List Int} {k : Nat} (hk : k < c.length) (hm : iG (meaL s r c left) k = 0) (hp : 0 ≤ (pB c k).tdiv r.value * (aT s (pA c k).toNat).p) : iG (if r.kind = 2 then List.replicate c.length 0 else wisK s r c left) k = 0 := by
 split
 · simp [iG, List.getD, hk]
 · rw [wisK_get s r left hk, hm]
   split
   · simp
   · omega
set_option maxHeartbeats 16000000 in
set_option maxRecDepth 100000 in
theorem wish_any (s : List Art) (u : Value) (c : List (Int × Int)) (v : Value) (r : Rl) (rv : Value) (left : List Int) (z : Value) (w : World) (hs : Rd w 4 u s.length (ar s)) (hv : Rd w 2 v c.length (pr c)) (hrv : Rd w 2 rv r.counts.length (pr r.counts)) (hz : Rd w 1 z left.length (it left)) (hp : vCart s c = true) (hr : okRu r = true) (hl : LeftOk s c left) :
   Calls Tryz.prog 198 #[u, v, ruV r rv, z] w fun e w' => ∃ o, e = .returned o ∧ w'.ownsRow w.heap.size 3 1 o c.length (it (wisL s r c left)) ∧ Below w.heap.size w w' := by
 unfold ruV
 have HV := Lib.hid hv
 have HS := Lib.hid hs
 have HZ := Lib.hid hz
 have HP := Lib.hid hp
 have HL := Lib.hid hl
 have hc8 := (vLines_all (vCart_pr hp).2).2
 obtain ⟨so, scap, rfl, _, _, hrs⟩ := hs.arts
 obtain ⟨co, ccap, rfl, _, _, hrc⟩ := hv.pairs
 obtain ⟨zo, zcap, rfl, _, _, hrz⟩ := hz.ints
 obtain ⟨ro, rcap, rfl, _⟩ := hrv.pairs
 have HRS := Lib.hid hrs
 have HRC := Lib.hid hrc
 have HRZ := Lib.hid hrz
 have hpp := okRu_parts hr
 have HPP := Lib.hid hpp
 have hn0 : (0 : Int) ≤ (c.length : Int) := by omega
 obtain ⟨i0, hi, hz0, hz1, hz2⟩ := info_parts Tryz.info3z
 have HI := Lib.hid hi
 have HZ0 := Lib.hid hz0
 have HZ1 := Lib.hid hz1
 have HZ2 := Lib.hid hz2
 have hwsl : ((if r.kind = 2 then List.replicate c.length 0 else wisK s r c left) : List Int).length = c.length := by split <;> simp [wisK_len]
 have HWSL := Lib.hid hwsl
 have bx := box11 w r (.slice ro r.counts.length rcap) 43
 have b0 : Below w.heap.size w (w.alloc (.cells #[.int .i64 r.num, .int .i64 r.lvl, .int .i64 r.rank, .int .i64 r.group, .int .i64 r.kind, .int .i64 r.value, .int .i64 r.cap, .int .i64 r.lo, .int .i64 r.hi, .slice ro r.counts.length rcap, .int .i64 r.coupon] 43)) := (Below.refl _ w).alloc (Nat.le_refl _) _
 obtain ⟨W0, hW0⟩ : ∃ W0, W0 = w.alloc (.cells #[.int .i64 r.num, .int .i64 r.lvl, .int .i64 r.rank, .int .i64 r.group, .int .i64 r.kind, .int .i64 r.value, .int .i64 r.cap, .int .i64 r.lo, .int .i64 r.hi, .slice ro r.counts.length rcap, .int .i64 r.coupon] 43) := ⟨_, rfl⟩
 rw [← hW0] at bx b0
 have HW0 := Lib.hid hW0
 have BX := Lib.hid bx
 have HB0 := Lib.hid b0
 clear hi hz0 hz1 hz2 hs hv hz hrv hp hl hr hrs hrc hrz hpp bx b0 hW0 hwsl
 go_enter Tryz.func198, Tryz.ntmps198
 go_upto_region 1 with fail
 rw [← HW0.out]
 clear HW0
 go_upto_region 2 with (refine wpList_make_full _ rfl _ _ 34 rfl W0.heap.size 3 i0 _ 1 Tryz.underlying34 HI.out HZ0.out HZ1.out _ _ _ _ c.length rfl rfl rfl rfl (by rw [HZ2.out]; omega) (by unfold maxLen; omega) (Nat.le_refl _) ?_; intro w1 hown hgr; have OA0 : Hid (w1.ownsRow W0.heap.size 3 1 (.slice (some ⟨W0.heap.size, 0, none⟩) c.length c.length) c.length (it (fillI (if r.kind = 2 then List.replicate c.length 0 else wisK s r c left) 0))) := (by rw [Hid, fillI_zero, HWSL.out, ← made_it]; exact hown); have H1 := Lib.hid (below_of_grownBy hgr); have HA1 : Hid (W0.heap.size + 1 ≤ w1.heap.size) := (OA0.out.lt _ rfl).2; clear hown hgr)
 go_wp2_with (refine wpList_make_full _ rfl _ _ 34 rfl w1.heap.size 3 i0 _ 1 Tryz.underlying34 HI.out HZ0.out HZ1.out _ _ _ _ c.length rfl rfl rfl rfl (by rw [HZ2.out]; omega) (by unfold maxLen; omega) (Nat.le_refl _) ?_; intro w2 hown hgr; have OB : Hid (w2.ownsRow w1.heap.size 3 1 (.slice (some ⟨w1.heap.size, 0, none⟩) c.length c.length) c.length (it (fillI (meaL s r c left) 0))) := (by rw [Hid, fillI_zero, meaL_len, ← made_it]; exact hown); have OA : Hid (w2.ownsRow W0.heap.size 3 1 (.slice (some ⟨W0.heap.size, 0, none⟩) c.length c.length) c.length (it (fillI (if r.kind = 2 then List.replicate c.length 0 else wisK s r c left) 0))) := ownsRow_below OA0.out (below_of_grownBy hgr) (Nat.le_refl _); have H2 := Lib.hid (H1.out.trans ((below_of_grownBy hgr).mono H1.out.size)); clear hown hgr OA0)
 go_loopw [11] (fun i_ wr => ∃ k : Nat, k ≤ c.length ∧ i_ = .int .i64 k ∧ Below W0.heap.size W0 wr ∧ Hid (wr.ownsRow W0.heap.size 3 1 (.slice (some ⟨W0.heap.size, 0, none⟩) c.length c.length) c.length (it (fillI (if r.kind = 2 then List.replicate c.length 0 else wisK s r c left) k))) ∧ Hid (wr.ownsRow w1.heap.size 3 1 (.slice (some ⟨w1.heap.size, 0, none⟩) c.length c.length) c.length (it (fillI (meaL s r c left) k)))) (fun i_ _ => c.length - (intOf i_).toNat)
 case atStart => exact ⟨0, Nat.zero_le _, rfl, H2.out, OA, OB⟩
 case round =>
   clear OA OB H2
   obtain ⟨k, hk, rfl, hb0, OA, OB⟩ := hrel
   have hbl := HB0.out.trans (hb0.mono HB0.out.size)
   have H0 := Lib.hid hb0
   have hzA : W0.heap.size < wr.heap.size := (OA.out.lt _ rfl).2
   have hzB : w1.heap.size < wr.heap.size := (OB.out.lt _ rfl).2
   have hab : W0.heap.size < w1.heap.size := Nat.lt_of_lt_of_le (Nat.lt_succ_self _) HA1.out
   by_cases hlt : k < c.length
   · obtain ⟨h4, h5, h6, h7, h8, h9⟩ := art_in HP.out hlt
     have hat := atOk_pr h9
     obtain ⟨b, off, rfl, hb, hcell⟩ := HRC.out (by omega)
     obtain ⟨b2, off2, rfl, hbs, hcell2⟩ := HRS.out (by omega)
     obtain ⟨b3, off3, rfl, hb3, hcell3⟩ := HRZ.out (by rw [HL.out.1]; omega)
     obtain ⟨a, ha⟩ := Int.eq_ofNat_of_zero_le h5
     have haN : (pA c k).toNat = a := by omega
     have g0 := (hbl.cell (p := ⟨b, off + k*2, none⟩) hb).trans (hcell k hlt).1
     have g1 := (hbl.cell (p := ⟨b, off + k*2+1, none⟩) hb).trans (hcell k hlt).2
     rw [haN] at h4 hat
     have g2 := (hbl.cell (p := ⟨b2, off2 + a*4, none⟩) hbs).trans (hcell2 a h4).1
     have g3 := (hbl.cell (p := ⟨b3, off3 + k, none⟩) hb3).trans (hcell3 k (by rw [HL.out.1]; exact hlt))
     rw [ha] at g0
     have hbw : b < wr.heap.size := Nat.lt_of_lt_of_le hb hbl.size
     have hbw2 : b2 < wr.heap.size := Nat.lt_of_lt_of_le hbs hbl.size
     have hbw3 : b3 < wr.heap.size := Nat.lt_of_lt_of_le hb3 hbl.size
     have x3 := BX.out.below hb0 (Nat.le_refl _)
     have hx3 := x3.1
     have hmg := meaL_get s r left hlt
     have hwg := wisK_get s r left hlt
     have hmb := mea_bd (s := s) (r := r) (left := left) (fun k hk => (HL.out.2 k hk).1) hlt
     have hsB := fillI_succ (meaL s r c left) k (by rw [meaL_len]; exact hlt)
     have hkB := fillI_keep (l := meaL s r c left) (k := k) (by rw [meaL_len]; exact hlt)
     have hsA := fillI_succ (if r.kind = 2 then List.replicate c.length 0 else wisK s r c left) k (by rw [HWSL.out]; exact hlt)
     have hkA := fillI_keep (l := (if r.kind = 2 then List.replicate c.length 0 else wisK s r c left)) (k := k) (by rw [HWSL.out]; exact hlt)
     have hq1 := HL.out.2 k hlt
     have hq2 := amt_bd HP.out hlt
     have hvp : 1 ≤ r.value := by rcases HPP.out.2.2.2.2.1 with h | h | h <;> omega
     have hd0 : 0 ≤ (pB c k).tdiv r.value ∧ (pB c k).tdiv r.value ≤ 20 := by
       rw [Int.tdiv_eq_ediv_of_nonneg (by omega)]
       exact ⟨Int.ediv_nonneg (by omega) (by omega), Int.le_trans (Int.ediv_le_self _ (by omega)) h8⟩
     have hwz := wis_zero (s := s) (r := r) (left := left) hlt
     rw [haN] at hmg hwg hwz
     obtain ⟨y, hy⟩ : ∃ y, y = pB c k := ⟨_, rfl⟩
     obtain ⟨x, hx⟩ : ∃ x, x = iG left k := ⟨_, rfl⟩
     obtain ⟨p, hpe⟩ : ∃ p, p = (aT s a).p := ⟨_, rfl⟩
     rw [← hy] at g1 hwg hwz hd0 h7 h8
     rw [← hx] at g3 hmg hmb hq1
     rw [← hpe] at g2 hwg hwz hat
     have m0 := mul_bd (a := y.tdiv r.value) (b := p) (m := 20) (n := 1000000) hd0.1 hd0.2 (by omega) (by omega)
     have ha0 : (0 : Int) ≤ (a : Int) := by omega
     have ha1 : (a : Int) < (s.length : Int) := by omega
     have hk0 : (0 : Int) ≤ (k : Int) := by omega
     have hk1 : (k : Int) < (c.length : Int) := by omega
     have hk2 : (k : Int) < (left.length : Int) := by rw [HL.out.1]; exact hk1
     have HMG := Lib.hid hmg
     have HWG := Lib.hid hwg
     have HSA := Lib.hid hsA
     have HSB := Lib.hid hsB
     have HKA := Lib.hid hkA
     have HKB := Lib.hid hkB
     have HWZ := Lib.hid hwz
     have HBL := Lib.hid hbl
     have X3 := Lib.hid x3
     have G0' := Lib.hid g0
     have G1' := Lib.hid g1
     have KP := Lib.hid (show ∀ w' : World, Below wr.heap.size wr w' → w'.cell? ⟨w.heap.size, 0, none⟩ = some (.int .i64 r.num) ∧ w'.cell? ⟨w.heap.size, 1, none⟩ = some (.int .i64 r.lvl) ∧ w'.cell? ⟨w.heap.size, 2, none⟩ = some (.int .i64 r.rank) ∧ w'.cell? ⟨w.heap.size, 3, none⟩ = some (.int .i64 r.group) ∧ w'.cell? ⟨w.heap.size, 4, none⟩ = some (.int .i64 r.kind) ∧ w'.cell? ⟨w.heap.size, 5, none⟩ = some (.int .i64 r.value) ∧ w'.cell? ⟨w.heap.size, 6, none⟩ = some (.int .i64 r.cap) ∧ w'.cell? ⟨w.heap.size, 7, none⟩ = some (.int .i64 r.lo) ∧ w'.cell? ⟨w.heap.size, 8, none⟩ = some (.int .i64 r.hi) ∧ w'.cell? ⟨w.heap.size, 9, none⟩ = some (.slice ro r.counts.length rcap) ∧ w'.cell? ⟨w.heap.size, 10, none⟩ = some (.int .i64 r.coupon) ∧ w'.cell? ⟨b, off + k*2, none⟩ = some (.int .i64 (a : Int)) ∧ w'.cell? ⟨b, off + k*2+1, none⟩ = some (.int .i64 y) ∧ Below wr.heap.size wr w' from fun w' h => ⟨(h.cell (p := ⟨w.heap.size, 0, none⟩) hx3).trans x3.c0, (h.cell (p := ⟨w.heap.size, 1, none⟩) hx3).trans x3.c1, (h.cell (p := ⟨w.heap.size, 2, none⟩) hx3).trans x3.c2, (h.cell (p := ⟨w.heap.size, 3, none⟩) hx3).trans x3.c3, (h.cell (p := ⟨w.heap.size, 4, none⟩) hx3).trans x3.c4, (h.cell (p := ⟨w.heap.size, 5, none⟩) hx3).trans x3.c5, (h.cell (p := ⟨w.heap.size, 6, none⟩) hx3).trans x3.c6, (h.cell (p := ⟨w.heap.size, 7, none⟩) hx3).trans x3.c7, (h.cell (p := ⟨w.heap.size, 8, none⟩) hx3).trans x3.c8, (h.cell (p := ⟨w.heap.size, 9, none⟩) hx3).trans x3.c9, (h.cell (p := ⟨w.heap.size, 10, none⟩) hx3).trans x3.c10, (h.cell (p := ⟨b, off + k*2, none⟩) hbw).trans g0, (h.cell (p := ⟨b, off + k*2+1, none⟩) hbw).trans g1, h⟩)
     have G2' := Lib.hid g2
     have G3' := Lib.hid g3
     have HM := Lib.hid (meant_any s _ r ro r.counts.length rcap a y wr.drew (HS.out.below (hbl.drew) (Nat.le_refl _)) h4)
     unfold ruV at HM
     have b9 : Below wr.heap.size wr wr.drew := (Below.refl _ wr).drew
     have B9 := Lib.hid b9
     clear ha haN hcell hcell2 hcell3 hsA hsB hkA hkB hwz hmg hwg hy hx hpe h4 h5 h6 h9 x3 hb0 hbl b9
     go_upto_region 6 with fail
     go_cut [31] from 24 to 31 (fun f_ wx => f_ = .bool (!(mtQ s r a)) ∧ Below wr.heap.size wr wx)
     case first =>
       go_region_held3 (fun w' => w'.cell? ⟨w.heap.size, 0, none⟩ = some (.int .i64 r.num) ∧ w'.cell? ⟨w.heap.size, 1, none⟩ = some (.int .i64 r.lvl) ∧ w'.cell? ⟨w.heap.size, 2, none⟩ = some (.int .i64 r.rank) ∧ w'.cell? ⟨w.heap.size, 3, none⟩ = some (.int .i64 r.group) ∧ w'.cell? ⟨w.heap.size, 4, none⟩ = some (.int .i64 r.kind) ∧ w'.cell? ⟨w.heap.size, 5, none⟩ = some (.int .i64 r.value) ∧ w'.cell? ⟨w.heap.size, 6, none⟩ = some (.int .i64 r.cap) ∧ w'.cell? ⟨w.heap.size, 7, none⟩ = some (.int .i64 r.lo) ∧ w'.cell? ⟨w.heap.size, 8, none⟩ = some (.int .i64 r.hi) ∧ w'.cell? ⟨w.heap.size, 9, none⟩ = some (.slice ro r.counts.length rcap) ∧ w'.cell? ⟨w.heap.size, 10, none⟩ = some (.int .i64 r.coupon) ∧ w'.cell? ⟨b, off + k*2, none⟩ = some (.int .i64 (a : Int)) ∧ w'.cell? ⟨b, off + k*2+1, none⟩ = some (.int .i64 y) ∧ Below wr.heap.size wr w')
         (first
           | assumption
           | exact KP.out _ B9.out
           | exact KP.out _ y9)
         ((go_at_call 211; (with_reducible refine HM.out.mono ?_); rintro e w9 ⟨rfl, x9⟩; have y9 : Below wr.heap.size wr w9 := B9.out.trans (x9.mono B9.out.size)))
       all_goals go_wp2
       all_goals go_meet
       all_goals exact ⟨rfl, y9⟩
     case rest =>
       obtain ⟨rfl, bc⟩ := hcut
       obtain ⟨c0, c1, c2, c3, c4, c5, c6, c7, c8, c9, c10, g0, g1, _⟩ := KP.out _ bc
       have oA := ownsRow_below OA.out bc (Nat.le_refl _)
       have oB := ownsRow_below OB.out bc (Nat.le_refl _)
       have g2 := (bc.cell (p := ⟨b2, off2 + a*4, none⟩) hbw2).trans G2'.out
       have g3 := (bc.cell (p := ⟨b3, off3 + k, none⟩) hbw3).trans G3'.out
       have h0 := H0.out.trans (bc.mono H0.out.size)
       have l1 : b < wc.heap.size := Nat.lt_of_lt_of_le hbw bc.size
       have l2 : b2 < wc.heap.size := Nat.lt_of_lt_of_le hbw2 bc.size
       have l3 : b3 < wc.heap.size := Nat.lt_of_lt_of_le hbw3 bc.size
       have l4 : w.heap.size < wc.heap.size := Nat.lt_of_lt_of_le hx3 bc.size
       have l5 : W0.heap.size < wc.heap.size := (oA.lt _ rfl).2
       have l6 : w1.heap.size < wc.heap.size := (oB.lt _ rfl).2
       obtain ⟨ca, fa⟩ := owns_at1 oA k hlt
       obtain ⟨cb, fb⟩ := owns_at1 oB k hlt
       have OA' := Lib.hid oA
       have OB' := Lib.hid oB
       have H0' := Lib.hid h0
       clear OA OB oA oB h0 bc H0
       cases hmq : mtQ s r a
       · have hnm : ¬ (r.group = -1 ∨ (aT s a).g = r.group) := fun h => by rw [(mtQ_iff (s := s) (r := r) (a := a) HPP.out.2.2.2.2.2.2.2.2.2.1).2 h] at hmq; exact Bool.noConfusion hmq
         have hm0 : iG (meaL s r c left) k = 0 := by rw [HMG.out, if_neg hnm]
         have sB := Lib.hid (HKB.out hm0)
         have sA := Lib.hid (HKA.out (HWZ.out hm0 m0.1))
         clear hnm hm0 hmq
         go_wp2
         go_roundw
         case rel => exact ⟨k + 1, by omega, by go_num, H0'.out, by rw [sA.out]; exact OA', by rw [sB.out]; exact OB'⟩
         case measure => simp [intOf]; omega
       · have hym := (mtQ_iff (s := s) (r := r) (a := a) HPP.out.2.2.2.2.2.2.2.2.2.1).1 hmq
         have hmx : iG (meaL s r c left) k = x := by rw [HMG.out, if_pos hym]
         have sB : Hid ((fillI (meaL s r c left) k).set k x = fillI (meaL s r c left) (k + 1)) := by rw [Hid, ← HSB.out, hmx]
         have HMX := Lib.hid hmx
         rw [hmx] at hmb
         clear hym hmx hmq
         have n1 : ¬ w1.heap.size = W0.heap.size := by omega
         have n2 : ¬ b = w1.heap.size := by have := HB0.out.size; omega
         have n3 : ¬ b2 = w1.heap.size := by have := HB0.out.size; omega
         have n4 : ¬ b3 = w1.heap.size := by have := HB0.out.size; omega
         have n5 : ¬ w.heap.size = w1.heap.size := by have := BX.out.1; omega
         have n6 : ¬ w.heap.size = W0.heap.size := by have := BX.out.1; omega
         have n7 : ¬ W0.heap.size = w1.heap.size := by omega
         have oB2 := Lib.hid (owns_set1 OB'.out k x).1
         have oA2 := Lib.hid (owns_off OA'.out (g := w1.heap.size) (i := k) (fun j (e : some W0.heap.size = some j) => by have e9 := Option.some.inj e; omega) (.int .i64 x))
         have SB := Lib.hid sB.out
         by_cases h2 : r.kind = 2
         · have e1 : (r.kind == 1) = false := by rw [beq_eq_false_iff_ne]; omega
           have e3 : (r.kind == 3) = false := by rw [beq_eq_false_iff_ne]; omega
           have sA : Hid (fillI (if r.kind = 2 then List.replicate c.length 0 else wisK s r c left) (k + 1) = fillI (if r.kind = 2 then List.replicate c.length 0 else wisK s r c left) k) := HKA.out (by rw [if_pos h2]; simp [iG, List.getD, hlt])
           clear h2
           go_wp2
           go_roundw
           case rel => exact ⟨k + 1, by omega, by go_num, H0'.out.setCell (Nat.le_of_lt hab) _, by rw [sA.out]; exact oA2, by rw [← SB.out]; exact oB2⟩
           case measure => simp [intOf]; omega
         · by_cases h1 : r.kind = 1
           · have e1 : (r.kind == 1) = true := by simp [h1]
             have hvb : 1 ≤ r.value ∧ r.value ≤ 1000 := by rcases HPP.out.2.2.2.2.1 with h | h | h <;> omega
             have q0 := mul_bd (a := x) (b := r.value) (m := 1000000) (n := 1000) (by omega) (by omega) (by omega) hvb.2
             have ew : IntKind.i64.wrap (x * r.value) = x * r.value := IntWalk.i64_in _ (by omega)
             have q1 : 0 ≤ (x * r.value).tdiv 1000 ∧ (x * r.value).tdiv 1000 ≤ 1000000000 := by
               rw [Int.tdiv_eq_ediv_of_nonneg q0.1]
               exact ⟨Int.ediv_nonneg q0.1 (by omega), Int.le_trans (Int.ediv_le_self _ q0.1) q0.2⟩
             have ew2 : IntKind.i64.wrap ((x * r.value).tdiv 1000) = (x * r.value).tdiv 1000 := IntWalk.i64_in _ (by omega)
             have sA : Hid ((fillI (if r.kind = 2 then List.replicate c.length 0 else wisK s r c left) k).set k ((x * r.value).tdiv 1000) = fillI (if r.kind = 2 then List.replicate c.length 0 else wisK s r c left) (k + 1)) := by
               have h9 := HSA.out
               have h8 : iG (if r.kind = 2 then List.replicate c.length 0 else wisK s r c left) k = (x * r.value).tdiv 1000 := by rw [if_neg h2, HWG.out, if_pos h1, HMX.out]
               rw [h8] at h9
               exact h9
             clear h2 h1
             go_wp2
             go_region
             go_wp2
             go_roundw
             case rel => exact ⟨k + 1, by omega, by go_num, ((H0'.out.setCell (Nat.le_of_lt hab) _).setCell (Nat.le_refl _) _).drew, by rw [← sA.out]; exact (owns_set1 oA2.out k _).1.drew, by rw [← SB.out]; exact (owns_off oB2.out (fun j (e : some w1.heap.size = some j) => by have e9 := Option.some.inj e; omega) _).drew⟩
             case measure => simp [intOf]; omega
           · have e1 : (r.kind == 1) = false := by simp [h1]
             have h3 : r.kind = 3 := by rcases HPP.out.2.2.2.2.1 with h | h | h <;> omega
             have e3 : (r.kind == 3) = true := by simp [h3]
             have hvb : 2 ≤ r.value ∧ r.value ≤ 20 := by rcases HPP.out.2.2.2.2.1 with h | h | h <;> omega
             have hv0 : (r.value == 0) = false := by rw [beq_eq_false_iff_ne]; omega
             have hv1 : ¬ r.value = 0 := by omega
             have hv2 : ¬ r.value = -1 := by omega
             have ew : IntKind.i64.wrap (y.tdiv r.value) = y.tdiv r.value := IntWalk.i64_in _ (by omega)
             have ew2 : IntKind.i64.wrap (y.tdiv r.value * p) = y.tdiv r.value * p := IntWalk.i64_in _ (by omega)
             have sA : Hid ((fillI (if r.kind = 2 then List.replicate c.length 0 else wisK s r c left) k).set k (min x (y.tdiv r.value * p)) = fillI (if r.kind = 2 then List.replicate c.length 0 else wisK s r c left) (k + 1)) := by
               have h9 := HSA.out
               have h8 : iG (if r.kind = 2 then List.replicate c.length 0 else wisK s r c left) k = min x (y.tdiv r.value * p) := by rw [if_neg h2, HWG.out, if_neg h1, HMX.out]
               rw [h8] at h9
               exact h9
             clear h2 h1 h3
             go_wp2
             go_region
             go_wp2
             go_roundw
             case rel => exact ⟨k + 1, by omega, by go_num, ((H0'.out.setCell (Nat.le_of_lt hab) _).setCell (Nat.le_refl _) _).drew, by rw [← sA.out]; exact (owns_set1 oA2.out k _).1.drew, by rw [← SB.out]; exact (owns_off oB2.out (fun j (e : some w1.heap.size = some j) => by have e9 := Option.some.inj e; omega) _).drew⟩
             case measure => simp [intOf]; omega
   · have hk9 : k = c.length := by omega
     have oB : Hid (wr.ownsRow w1.heap.size 3 1 (.slice (some ⟨w1.heap.size, 0, none⟩) c.length c.length) c.length (it (meaL s r c left))) := (by have h9 := OB.out; rw [hk9, ← meaL_len s r c left, fillI_end, meaL_len] at h9; exact h9)
     have oA : Hid (wr.ownsRow W0.heap.size 3 1 (.slice (some ⟨W0.heap.size, 0, none⟩) c.length c.length) c.length (it ((if r.kind = 2 then List.replicate c.length 0 else wisK s r c left)))) := (by have h9 := OA.out; have h8 := fillI_end (if r.kind = 2 then List.replicate c.length 0 else wisK s r c left); rw [HWSL.out] at h8; rw [hk9, h8] at h9; exact h9)
     have c4 := (BX.out.below H0.out (Nat.le_refl _)).c4
     have lP := (BX.out.below H0.out (Nat.le_refl _)).1
     clear OA OB hk9
     by_cases h2 : r.kind = 2
     · have e2 : (r.kind == 2) = true := by simp [h2]
       have fw : Hid (wisL s r c left = appo (min r.value (sumT (meaL s r c left) c.length)) (meaL s r c left)) := if_pos h2
       have hml := meaL_len s r c left
       have hmb : ∀ j, j < (meaL s r c left).length → 0 ≤ iG (meaL s r c left) j ∧ iG (meaL s r c left) j ≤ 1000000 := fun j hj => by
         rw [hml] at hj
         have q1 := mea_bd (s := s) (r := r) (left := left) (fun k hk => (HL.out.2 k hk).1) hj
         have q2 := HL.out.2 j hj
         have q3 := amt_bd HP.out hj
         omega
       have hvb : 1 ≤ r.value ∧ r.value ≤ 1000000 := by rcases HPP.out.2.2.2.2.1 with h | h | h <;> omega
       obtain ⟨T, hT⟩ : ∃ T, T = sumT (meaL s r c left) c.length := ⟨_, rfl⟩
       have hT0 : 0 ≤ T := by rw [hT]; exact sumT_nn _ fun j hj => (hmb j (by rw [hml]; exact hj)).1
       have HT := Lib.hid hT
       have HML := Lib.hid hml
       have HMB := Lib.hid hmb
       clear hml hmb hT h2
       go_upto_region 14 with fail
       have rd1 := Lib.hid (Rd.of_owns oB.out)
       have KT : Hid (∀ W' : World, W'.heap = wr.heap → Calls Tryz.prog 91 #[(.slice (some ⟨w1.heap.size, 0, none⟩) c.length c.length)] W' fun e w' => e = .returned (.int .i64 T) ∧ w' = W') := fun W' hW' => by
         have h := ssum_any (meaL s r c left) (.slice (some ⟨w1.heap.size, 0, none⟩) c.length c.length) W' (by rw [HML.out]; exact rd_heap rd1.out hW') (by rw [HML.out]; omega) HMB.out
         rw [HML.out, ← HT.out] at h
         exact h
       have KA : Hid (∀ W' : World, W'.heap = wr.heap → Calls Tryz.prog 199 #[.int .i64 (min r.value T), (.slice (some ⟨w1.heap.size, 0, none⟩) c.length c.length)] W' fun e w' => ∃ o, e = .returned o ∧ w'.ownsRow W'.heap.size 3 1 o c.length (it (wisL s r c left)) ∧ Below W'.heap.size W' w') := fun W' hW' => by
         have h := specAppo_any (min r.value T) (meaL s r c left) (.slice (some ⟨w1.heap.size, 0, none⟩) c.length c.length) W' (by rw [HML.out]; exact rd_heap rd1.out hW') (by rw [HML.out]; omega) (by omega) (by omega) (by rw [HML.out, ← HT.out]; omega) HMB.out
         rw [HML.out] at h
         rw [fw.out, ← HT.out]
         exact h
       have x6 := BX.out.below H0.out (Nat.le_refl _)
       have c5 := x6.c5
       have KP := Lib.hid (show ∀ w' : World, Below wr.heap.size wr w' → w'.cell? ⟨w.heap.size, 5, none⟩ = some (.int .i64 r.value) ∧ Below wr.heap.size wr w' from fun w' h => ⟨(h.cell (p := ⟨w.heap.size, 5, none⟩) lP).trans c5, h⟩)
       have b0 : Below wr.heap.size wr wr.drew := (Below.refl _ wr).drew
       have B0 := Lib.hid b0
       have G1 := Lib.hid (KT.out wr.drew rfl)
       have G2 := Lib.hid (KA.out wr.drew rfl)
       have HBL := Lib.hid hbl
       clear x6 b0 c4
       go_region_held3 (fun w' => w'.cell? ⟨w.heap.size, 5, none⟩ = some (.int .i64 r.value) ∧ Below wr.heap.size wr w')
         (first
           | assumption
           | exact KP.out _ B0.out
           | exact KP.out _ b9)
         ((first
           | (go_at_call 91; (with_reducible refine G1.out.mono ?_); rintro e w9 ⟨rfl, h9⟩; replace h9 := h9.symm; subst h9; have b9 := B0.out)
           | (go_at_call 199; (with_reducible refine G2.out.mono ?_); rintro e w9 ⟨o9, rfl, h9, x9⟩; have b9 : Below wr.heap.size wr w9 := B0.out.trans (x9.mono B0.out.size))))
       all_goals go_wp2
       all_goals go_ret
       all_goals exact ⟨_, rfl, owns_base h9 HBL.out.size, HBL.out.trans (b9.mono HBL.out.size)⟩
     · have e2 : (r.kind == 2) = false := by simp [h2]
       have fw : Hid (wisL s r c left = wisK s r c left) := if_neg h2
       have oW : Hid (wr.ownsRow w.heap.size 3 1 (.slice (some ⟨W0.heap.size, 0, none⟩) c.length c.length) c.length (it (wisL s r c left))) := by have h9 := oA.out; rw [if_neg h2] at h9; rw [Hid, fw.out]; exact owns_base h9 HB0.out.size
       clear h2
       go_wp2
       go_ret
       exact ⟨_, rfl, oW.out, hbl⟩
end Go.Proofs.YtijofgaekmahkaaGreatDoor

namespace Go.Proofs.YtijofgaekmahkaaGreatDoor
open Go.RowKit
set_option maxHeartbeats 8000000 in
set_option maxRecDepth 100000 in
theorem effect_any (s : List Art) (u : Value) (c : List (Int × Int)) (v : Value) (r : Rl) (rv : Value) (left : List Int) (z : Value) (w : World) (hs : Rd w 4 u s.length (ar s)) (hv : Rd w 2 v c.length (pr c)) (hrv : Rd w 2 rv r.counts.length (pr r.counts)) (hz : Rd w 1 z left.length (it left)) (hp : vCart s c = true) (hr : okRu r = true) (hl : LeftOk s c left) :
   Calls Tryz.prog 167 #[u, v, ruV r rv, z] w fun e w' => ∃ o, e = .returned o ∧ w'.ownsRow w.heap.size 3 1 o c.length (it (effL s r c left)) ∧ Below w.heap.size w w' := by
 have HV := Lib.hid hv
 have HS := Lib.hid hs
 have HZ := Lib.hid hz
 have HQ := Lib.hid hrv
 have HP := Lib.hid hp
 have HL := Lib.hid hl
 have KR := Lib.hid hr
 have hc8 := (vLines_all (vCart_pr hp).2).2
 obtain ⟨so, scap, rfl, _⟩ := hs.arts
 obtain ⟨co, ccap, rfl, _⟩ := hv.pairs
 obtain ⟨zo, zcap, rfl, _⟩ := hz.ints
 obtain ⟨ro, rcap, rfl, _⟩ := hrv.pairs
 have hpp := okRu_parts hr
 have HCP : Hid (0 ≤ r.cap ∧ r.cap ≤ 1000000) := ⟨hpp.2.2.1, hpp.2.2.2.1⟩
 have hwl := wisL_bd (s := s) (left := left) hr hp (fun k hk => (hl.2 k hk).1)
 have HWL := Lib.hid hwl.1
 have HWB : Hid (∀ j, j < (wisL s r c left).length → 0 ≤ iG (wisL s r c left) j ∧ iG (wisL s r c left) j ≤ 1000000) := by
   intro j hj
   rw [hwl.1] at hj
   have h1 := hwl.2 j hj
   have h2 := hl.2 j hj
   have h3 := amt_bd hp hj
   omega
 obtain ⟨S, hS⟩ : ∃ S, S = sumT (wisL s r c left) c.length := ⟨_, rfl⟩
 have HSS := Lib.hid hS
 have bx := box11 w r (.slice ro r.counts.length rcap) 43
 have b0 : Below w.heap.size w (w.alloc (.cells #[.int .i64 r.num, .int .i64 r.lvl, .int .i64 r.rank, .int .i64 r.group, .int .i64 r.kind, .int .i64 r.value, .int .i64 r.cap, .int .i64 r.lo, .int .i64 r.hi, .slice ro r.counts.length rcap, .int .i64 r.coupon] 43)) := (Below.refl _ w).alloc (Nat.le_refl _) _
 obtain ⟨W0, hW0⟩ : ∃ W0, W0 = w.alloc (.cells #[.int .i64 r.num, .int .i64 r.lvl, .int .i64 r.rank, .int .i64 r.group, .int .i64 r.kind, .int .i64 r.value, .int .i64 r.cap, .int .i64 r.lo, .int .i64 r.hi, .slice ro r.counts.length rcap, .int .i64 r.coupon] 43) := ⟨_, rfl⟩
 rw [← hW0] at bx b0
 have HW0 := Lib.hid hW0
 have BX := Lib.hid bx
 have HB0 := Lib.hid b0
 have KW := Lib.hid (wish_any s _ c _ r _ left _ W0 (hs.below b0 (Nat.le_refl _)) (hv.below b0 (Nat.le_refl _)) (hrv.below b0 (Nat.le_refl _)) (hz.below b0 (Nat.le_refl _)) hp hr hl)
 unfold ruV at KW ⊢
 clear hs hv hz hrv hp hl hr hpp hwl hS bx b0 hW0
 go_enter Tryz.func167, Tryz.ntmps167
 go_upto_region 1 with fail
 rw [← HW0.out]
 clear HW0
 have c0 := BX.out.c0
 have c1 := BX.out.c1
 have c2 := BX.out.c2
 have c3 := BX.out.c3
 have c4 := BX.out.c4
 have c5 := BX.out.c5
 have c6 := BX.out.c6
 have c7 := BX.out.c7
 have c8 := BX.out.c8
 have c9 := BX.out.c9
 have c10 := BX.out.c10
 go_upto_region 2 with (go_at_call 198; (with_reducible refine KW.out.mono ?_); rintro e w1 ⟨o, rfl, h1, x1⟩; obtain ⟨qo, qc, hq, _⟩ := owns_shape h1; subst hq; have O1 := Lib.hid (owns_base h1 HB0.out.size); have B1 := Lib.hid (HB0.out.trans (x1.mono HB0.out.size)); have X1 := Lib.hid (BX.out.below x1 (Nat.le_refl _)); clear h1 x1)
 clear c0 c1 c2 c3 c4 c5 c6 c7 c8 c9 c10
 have rd1 := Rd.of_owns O1.out
 have RD1 := Lib.hid rd1
 clear rd1
 have kt : ∀ W' : World, W'.heap = w1.heap → Calls Tryz.prog 91 #[.slice qo c.length qc] W' fun e w' => e = .returned (.int .i64 S) ∧ w' = W' := fun W' hW' => by
   have h := ssum_any (wisL s r c left) (.slice qo c.length qc) W' (by rw [HWL.out]; exact rd_heap RD1.out hW') (by rw [HWL.out]; omega) HWB.out
   rw [HWL.out, ← HSS.out] at h
   exact h
 have KT := Lib.hid kt
 have c6 := X1.out.c6
 have l6 := X1.out.1
 clear kt
 by_cases hcap : 0 < r.cap
 · have hcb : decide (0 < r.cap) = true := by simp [hcap]
   by_cases hgt : r.cap < S
   · have hgb : decide (r.cap < S) = true := by simp [hgt]
     have fin : Hid (effL s r c left = appo r.cap (wisL s r c left)) := if_pos ⟨by omega, by rw [← HSS.out]; exact hgt⟩
     have HGT := Lib.hid hgt
     clear hcap hgt
     go_wp2
     go_quiet ((go_at_call 91; exact Calls.quiet_of_same (KT.out _ rfl)))
     go_wp2_with (go_at_call 199; refine (specAppo_any r.cap (wisL s r c left) _ _ (by rw [HWL.out]; exact rd_heap RD1.out rfl) (by rw [HWL.out]; omega) HCP.out.1 HCP.out.2 (by rw [HWL.out, ← HSS.out]; have := HGT.out; omega) HWB.out).mono ?_; rintro e w9 ⟨o, rfl, h9, x9⟩; rw [HWL.out, ← fin.out] at h9; obtain ⟨zo9, zc9, hz9, _⟩ := owns_shape h9; subst hz9; have O9 := Lib.hid (owns_base h9 B1.out.size); have B9 := Lib.hid ((below_drewN B1.out _).trans (x9.mono B1.out.size)); clear h9 x9)
     go_ret
     exact ⟨_, rfl, O9.out, B9.out⟩
   · have hgb : decide (r.cap < S) = false := by simp; omega
     have fin : Hid (effL s r c left = wisL s r c left) := if_neg fun h => hgt (by rw [HSS.out]; exact h.2)
     clear hcap hgt
     go_wp2
     go_quiet ((go_at_call 91; exact Calls.quiet_of_same (KT.out _ rfl)))
     go_wp2
     go_ret
     exact ⟨_, rfl, by rw [fin.out]; exact O1.out, below_drewN B1.out _⟩
 · have hcb : decide (0 < r.cap) = false := by simp; omega
   have fin : Hid (effL s r c left = wisL s r c left) := if_neg fun h => by have := HCP.out.1; omega
   clear hcap
   go_wp2
   go_quiet (fail)
   go_wp2
   go_ret
   exact ⟨_, rfl, by rw [fin.out]; exact O1.out, below_drewN B1.out _⟩
end Go.Proofs.YtijofgaekmahkaaGreatDoor

namespace Go.Proofs.YtijofgaekmahkaaGreatDoor
open Go.RowKit
set_option maxHeartbeats 4000000 in
set_option maxRecDepth 100000 in
theorem specHolds_any (r : Rl) (v : Value) (tot : Int) (cnt cp : List Int) (vc vp : Value) (w : World) (hv : Rd w 2 v r.counts.length (pr r.counts)) (hc : Rd w 1 vc cnt.length (it cnt)) (hp : Rd w 1 vp cp.length (it cp)) (hg : okGd r = true) (hn : cnt.length = 3) :
   Calls Tryz.prog 166 #[gdV r v, .agg #[.int .i64 tot, vc, vp]] w fun e w' => e = .returned (.bool (hldQ r tot cnt cp)) ∧ Below w.heap.size w w' := by
 unfold gdV
 have HP := Lib.hid hp
 have HN := Lib.hid hn
 obtain ⟨_, _, g3⟩ := okGd_pr hg
 have G3 := Lib.hid g3
 obtain ⟨ao, cap, rfl, _, _, hr⟩ := hv.pairs
 have HR := Lib.hid hr
 obtain ⟨co, ccap, rfl, _, _, hrc⟩ := hc.ints
 have HRC := Lib.hid hrc
 obtain ⟨po, pcap, rfl, _⟩ := hp.ints
 clear hv hc hp hg hr hrc hn
 rw [g3] at HR ⊢
 rw [HN.out] at HRC ⊢
 clear g3
 have b1 := Bx.new w [.int .i64 r.lo, .int .i64 r.hi, .slice ao 3 cap, .int .i64 r.coupon] 41
 have b2 := Bx.new (w.alloc (.cells #[.int .i64 r.lo, .int .i64 r.hi, .slice ao 3 cap, .int .i64 r.coupon] 41)) [.int .i64 tot, .slice co 3 ccap, .slice po cp.length pcap] 110
 have bb : Below w.heap.size w ((w.alloc (.cells #[.int .i64 r.lo, .int .i64 r.hi, .slice ao 3 cap, .int .i64 r.coupon] 41)).alloc (.cells #[.int .i64 tot, .slice co 3 ccap, .slice po cp.length pcap] 110)) :=
   ((Below.refl _ w).alloc (Nat.le_refl _) _).alloc (by simp) _
 have b3 := b1.below ((Below.refl _ _).alloc (Nat.le_refl _) (.cells #[.int .i64 tot, .slice co 3 ccap, .slice po cp.length pcap] 110)) (Nat.le_refl _)
 rw [World.size_alloc] at b2
 obtain ⟨W, hW⟩ : ∃ W, W = (w.alloc (.cells #[.int .i64 r.lo, .int .i64 r.hi, .slice ao 3 cap, .int .i64 r.coupon] 41)).alloc (.cells #[.int .i64 tot, .slice co 3 ccap, .slice po cp.length pcap] 110) := ⟨_, rfl⟩
 have BG : Hid (Bx W w.heap.size [.int .i64 r.lo, .int .i64 r.hi, .slice ao 3 cap, .int .i64 r.coupon]) := by rw [hW]; exact b3
 have BP : Hid (Bx W (w.heap.size + 1) [.int .i64 tot, .slice co 3 ccap, .slice po cp.length pcap]) := by rw [hW]; exact b2
 have BW : Hid (Below w.heap.size w W) := by rw [hW]; exact bb
 have HW := Lib.hid hW
 clear b1 b2 b3 bb hW
 go_enter Tryz.func166, Tryz.ntmps166
 go_upto_region 1 with fail
 rw [← HW.out]
 clear HW
 go_wp2
 go_loopw [5] (fun i wr => ∃ k : Nat, k ≤ 3 ∧ i = .int .i64 k ∧ Below W.heap.size W wr ∧ Hid (hldK r cnt k = true)) (fun i _ => 3 - (intOf i).toNat)
 case atStart => exact ⟨0, Nat.zero_le _, rfl, Below.refl _ _, rfl⟩
 case round =>
   obtain ⟨k, hk, rfl, hbl, hall⟩ := hrel
   have Q5 := Lib.hid (BG.out.below hbl (Nat.le_refl _))
   have Q6 := Lib.hid (BP.out.below hbl (Nat.le_refl _))
   have YR := Lib.hid (BW.out.trans (hbl.mono BW.out.size))
   have c2 := Q5.out.2 2 _ rfl
   by_cases hlt : k < 3
   · obtain ⟨b, off, rfl, hb, hcell⟩ := HR.out (by omega)
     obtain ⟨b2, off2, rfl, hb2, hcell2⟩ := HRC.out (by omega)
     have hx := hcell k hlt
     have g0 := (YR.out.cell (p := ⟨b, off + k*2, none⟩) hb).trans hx.1
     have g1 := (YR.out.cell (p := ⟨b, off + k*2+1, none⟩) hb).trans hx.2
     have g2 := (YR.out.cell (p := ⟨b2, off2 + k, none⟩) hb2).trans (hcell2 k hlt)
     have hbw : b < wr.heap.size := Nat.lt_of_lt_of_le hb YR.out.size
     have hbw2 : b2 < wr.heap.size := Nat.lt_of_lt_of_le hb2 YR.out.size
     have hk0 : (0 : Int) ≤ (k : Int) := by omega
     have hk1 : (k : Int) < (3 : Int) := by omega
     have d1 := Q6.out.2 1 _ rfl
     have z0 := Q5.out.1
     have z1 := Q6.out.1
     clear hx hcell hcell2
     cases hB : wi (iG cnt k) (pA r.counts k) (pB r.counts k)
     · have fin := Lib.hid (hld_cnt (tot := tot) (cp := cp) (by rw [G3.out]; exact hlt) hB)
       go_wp2
       go_quiet ((go_at_call 54; exact Calls.quiet_of_same (inRange_any _ _ _ _)))
       go_wp2
       go_ret
       exact ⟨by rw [fin.out] <;> rfl, below_drewN YR.out _⟩
     · have fin := Lib.hid (hldK_step hall.out hB)
       go_wp2
       go_quiet ((go_at_call 54; exact Calls.quiet_of_same (inRange_any _ _ _ _)))
       go_wp2
       go_roundw
       case rel => exact ⟨k+1, by omega, by go_num, below_drewN hbl _, fin.out⟩
       case measure => simp [intOf]; omega
   · obtain rfl : k = 3 := by omega
     have k0 := Q5.out.2 0 _ rfl
     have k1 := Q5.out.2 1 _ rfl
     have k3 := Q5.out.2 3 _ rfl
     have d0 := Q6.out.2 0 _ rfl
     have d2 := Q6.out.2 2 _ rfl
     have hall2 : hldK r cnt r.counts.length = true := by rw [G3.out]; exact hall.out
     cases hA : wi tot r.lo r.hi
     · have fin := Lib.hid (hld_tot (cnt := cnt) (cp := cp) hA)
       clear hall2
       go_wp2_with (go_at_call 54; refine (inRange_any _ _ _ _).mono ?_; rintro e w9 ⟨rfl, h9⟩; replace h9 := h9.symm; subst h9)
       go_ret
       exact ⟨by rw [fin.out] <;> rfl, YR.out⟩
     · by_cases hz : r.coupon = 0
       · have hzb : (r.coupon == 0) = true := by simp [hz]
         have fin := Lib.hid (hld_zero (cp := cp) hA hall2 hz)
         clear hz hall2
         go_wp2_with (go_at_call 54; refine (inRange_any _ _ _ _).mono ?_; rintro e w9 ⟨rfl, h9⟩; replace h9 := h9.symm; subst h9)
         go_ret
         exact ⟨by rw [fin.out] <;> rfl, YR.out⟩
       · have hzb : (r.coupon == 0) = false := by simp [hz]
         have fin := Lib.hid (hld_has (cp := cp) hA hall2 hz)
         clear hz hall2
         go_wp2_with (first | (go_at_call 54; refine (inRange_any _ _ _ _).mono ?_; rintro e w9 ⟨rfl, h9⟩; replace h9 := h9.symm; subst h9) | (go_at_call 88; refine (isIn_any cp _ _ _ (HP.out.below YR.out (Nat.le_refl _))).mono ?_; rintro e w9 ⟨rfl, h9⟩; replace h9 := h9.symm; subst h9))
         go_ret
         exact ⟨by rw [fin.out] <;> rfl, YR.out⟩
end Go.Proofs.YtijofgaekmahkaaGreatDoor
