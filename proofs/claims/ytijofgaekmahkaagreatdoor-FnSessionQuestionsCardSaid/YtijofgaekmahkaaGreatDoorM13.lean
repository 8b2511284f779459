/- Joined texts: Walks: is a list of rules clear, are two numbers in conflict, in the reference. Walks: are two numbers of rules in conflict, in the reference. Pairs of numbers as slices in a row; walks: all conflicts, in the reference. Conditions: none. -/
import Derived.Test.YtijofgaekmahkaaGreatDoorM12
namespace Go.Proofs.YtijofgaekmahkaaGreatDoor
open Go.RowKit
set_option maxHeartbeats 8000000 in
set_option maxRecDepth 100000 in
theorem clear1_any (l : List Rx) (v : Value) (w : World) (hv : RdR w v l) (hok : ∀ x ∈ l, okRu x.r = true) :
   Calls Tryz.prog 129 #[v] w fun e w' => e = .returned (.bool (clrQ (rls l))) ∧ Below w.heap.size w w' := by
 have HV := Lib.hid hv
 have HK := Lib.hid hok
 have hm := hv.1.len
 unfold maxLen at hm
 obtain ⟨ao, cap, rfl, hcap, _, hr⟩ := hv.open
 have HR := Lib.hid hr
 clear hr hv hok
 go_enter Tryz.func129, Tryz.ntmps129
 go_wp2
 go_loopw [3] (fun i_ wr => ∃ k : Nat, k ≤ l.length ∧ i_ = .int .i64 k ∧ Below w.heap.size w wr ∧ Hid (∀ i, i < k → ∀ j, j < i → cnfQ (xT l j).r (xT l i).r = false)) (fun i_ _ => l.length - (intOf i_).toNat)
 case atStart => exact ⟨0, Nat.zero_le _, rfl, Below.refl _ _, fun i hi => absurd hi (Nat.not_lt_zero _)⟩
 case round =>
   obtain ⟨k, hk, rfl, hbl, hall⟩ := hrel
   by_cases hlt : k < l.length
   · obtain ⟨b, off, rfl, hb, hcell⟩ := HR.out (by omega)
     have HC := Lib.hid hcell
     clear hcell
     have HYL : k < l.length := hlt
     have hpy := HV.out.2 _ (xT_mem HYL)
     have hky := HK.out _ (xT_mem HYL)
     obtain ⟨qo, qcap, hey, _⟩ := hpy.pairs
     obtain ⟨y, hdy⟩ : ∃ z, z = (xT l k).r := ⟨_, rfl⟩
     rw [← hdy] at hpy hky hey
     rw [hey] at hpy
     have KY := Lib.hid hky
     have HPY := Lib.hid hpy
     have HYE := Lib.hid hdy.symm
     have HYV := Lib.hid hey
     clear hpy hky hey hdy
     have HBL := Lib.hid hbl
     go_wp2
     go_loopw [4] (fun j_ w2 => ∃ j : Nat, j ≤ k ∧ j_ = .int .i64 j ∧ Below wr.heap.size wr w2 ∧ Hid (∀ i, i < j → cnfQ (xT l i).r y = false)) (fun j_ _ => k - (intOf j_).toNat)
     case atStart => exact ⟨0, Nat.zero_le _, rfl, Below.refl _ _, fun i hi => absurd hi (Nat.not_lt_zero _)⟩
     case round =>
       obtain ⟨j, hj, rfl, hbj, hal2⟩ := hrel
       have HB4 := Lib.hid (HBL.out.trans (hbj.mono HBL.out.size))
       by_cases hjk : j < k
       · have hj0 : (0 : Int) ≤ (j : Int) := by omega
         have hj1 : (j : Int) < (l.length : Int) := by omega
         have hk0 : (0 : Int) ≤ (k : Int) := by omega
         have hk1 : (k : Int) < (l.length : Int) := by omega
         have HXL : j < l.length := by omega
         have hpx := HV.out.2 _ (xT_mem HXL)
         have hkx := HK.out _ (xT_mem HXL)
         obtain ⟨po, pcap, hex, _⟩ := hpx.pairs
         obtain ⟨x, hdx⟩ : ∃ z, z = (xT l j).r := ⟨_, rfl⟩
         rw [← hdx] at hpx hkx hex
         rw [hex] at hpx
         have KX := Lib.hid hkx
         have HPX := Lib.hid hpx
         have HXE := Lib.hid hdx.symm
         have HXV := Lib.hid hex
         clear hpx hkx hex hdx
         have fx := fun i u (hu : (ruL x (.slice po x.counts.length pcap))[i]? = some u) => (HB4.out.cell (p := ⟨b, off + j*11 + i, none⟩) hb).trans (HC.out j HXL i u (by rw [HXE.out, HXV.out]; exact hu))
         have fy := fun i u (hu : (ruL y (.slice qo y.counts.length qcap))[i]? = some u) => (HB4.out.cell (p := ⟨b, off + k*11 + i, none⟩) hb).trans (HC.out k HYL i u (by rw [HYE.out, HYV.out]; exact hu))
         have hbw : b < wr.heap.size := Nat.lt_of_lt_of_le hb HB4.out.size
         have KP := Lib.hid (show ∀ w' : World, Below wr.heap.size wr w' → w'.cell? ⟨b, off + j*11, none⟩ = some (.int .i64 x.num) ∧ w'.cell? ⟨b, off + j*11+1, none⟩ = some (.int .i64 x.lvl) ∧ w'.cell? ⟨b, off + j*11+2, none⟩ = some (.int .i64 x.rank) ∧ w'.cell? ⟨b, off + j*11+3, none⟩ = some (.int .i64 x.group) ∧ w'.cell? ⟨b, off + j*11+4, none⟩ = some (.int .i64 x.kind) ∧ w'.cell? ⟨b, off + j*11+5, none⟩ = some (.int .i64 x.value) ∧ w'.cell? ⟨b, off + j*11+6, none⟩ = some (.int .i64 x.cap) ∧ w'.cell? ⟨b, off + j*11+7, none⟩ = some (.int .i64 x.lo) ∧ w'.cell? ⟨b, off + j*11+8, none⟩ = some (.int .i64 x.hi) ∧ w'.cell? ⟨b, off + j*11+9, none⟩ = some (.slice po x.counts.length pcap) ∧ w'.cell? ⟨b, off + j*11+10, none⟩ = some (.int .i64 x.coupon) ∧ w'.cell? ⟨b, off + k*11, none⟩ = some (.int .i64 y.num) ∧ w'.cell? ⟨b, off + k*11+1, none⟩ = some (.int .i64 y.lvl) ∧ w'.cell? ⟨b, off + k*11+2, none⟩ = some (.int .i64 y.rank) ∧ w'.cell? ⟨b, off + k*11+3, none⟩ = some (.int .i64 y.group) ∧ w'.cell? ⟨b, off + k*11+4, none⟩ = some (.int .i64 y.kind) ∧ w'.cell? ⟨b, off + k*11+5, none⟩ = some (.int .i64 y.value) ∧ w'.cell? ⟨b, off + k*11+6, none⟩ = some (.int .i64 y.cap) ∧ w'.cell? ⟨b, off + k*11+7, none⟩ = some (.int .i64 y.lo) ∧ w'.cell? ⟨b, off + k*11+8, none⟩ = some (.int .i64 y.hi) ∧ w'.cell? ⟨b, off + k*11+9, none⟩ = some (.slice qo y.counts.length qcap) ∧ w'.cell? ⟨b, off + k*11+10, none⟩ = some (.int .i64 y.coupon) ∧ Below wr.heap.size wr w' from fun w' h => ⟨(h.cell (p := ⟨b, off + j*11, none⟩) hbw).trans (fx 0 _ rfl), (h.cell (p := ⟨b, off + j*11+1, none⟩) hbw).trans (fx 1 _ rfl), (h.cell (p := ⟨b, off + j*11+2, none⟩) hbw).trans (fx 2 _ rfl), (h.cell (p := ⟨b, off + j*11+3, none⟩) hbw).trans (fx 3 _ rfl), (h.cell (p := ⟨b, off + j*11+4, none⟩) hbw).trans (fx 4 _ rfl), (h.cell (p := ⟨b, off + j*11+5, none⟩) hbw).trans (fx 5 _ rfl), (h.cell (p := ⟨b, off + j*11+6, none⟩) hbw).trans (fx 6 _ rfl), (h.cell (p := ⟨b, off + j*11+7, none⟩) hbw).trans (fx 7 _ rfl), (h.cell (p := ⟨b, off + j*11+8, none⟩) hbw).trans (fx 8 _ rfl), (h.cell (p := ⟨b, off + j*11+9, none⟩) hbw).trans (fx 9 _ rfl), (h.cell (p := ⟨b, off + j*11+10, none⟩) hbw).trans (fx 10 _ rfl), (h.cell (p := ⟨b, off + k*11, none⟩) hbw).trans (fy 0 _ rfl), (h.cell (p := ⟨b, off + k*11+1, none⟩) hbw).trans (fy 1 _ rfl), (h.cell (p := ⟨b, off + k*11+2, none⟩) hbw).trans (fy 2 _ rfl), (h.cell (p := ⟨b, off + k*11+3, none⟩) hbw).trans (fy 3 _ rfl), (h.cell (p := ⟨b, off + k*11+4, none⟩) hbw).trans (fy 4 _ rfl), (h.cell (p := ⟨b, off + k*11+5, none⟩) hbw).trans (fy 5 _ rfl), (h.cell (p := ⟨b, off + k*11+6, none⟩) hbw).trans (fy 6 _ rfl), (h.cell (p := ⟨b, off + k*11+7, none⟩) hbw).trans (fy 7 _ rfl), (h.cell (p := ⟨b, off + k*11+8, none⟩) hbw).trans (fy 8 _ rfl), (h.cell (p := ⟨b, off + k*11+9, none⟩) hbw).trans (fy 9 _ rfl), (h.cell (p := ⟨b, off + k*11+10, none⟩) hbw).trans (fy 10 _ rfl), h⟩)
         have b0 : Below wr.heap.size wr wr.drew := (Below.refl _ wr).drew
         have b1 : Below wr.heap.size wr (wr.alloc (.cells #[.int .i64 0, .slice none 0 0, .slice none 0 0] 110)).drew := ((Below.refl _ wr).alloc (Nat.le_refl _) _).drew
         have a1 : (wr.alloc (.cells #[.int .i64 0, .slice none 0 0, .slice none 0 0] 110)).drew.heap[wr.heap.size]? = some (.cells #[.int .i64 0, .slice none 0 0, .slice none 0 0] 110 (0, 0)) := heap_alloc_new wr _
         have s1 : wr.heap.size < (wr.alloc (.cells #[.int .i64 0, .slice none 0 0, .slice none 0 0] 110)).drew.heap.size := by show wr.heap.size < (wr.alloc (.cells #[.int .i64 0, .slice none 0 0, .slice none 0 0] 110)).heap.size; rw [World.size_alloc]; exact Nat.lt_succ_self _
         have A1 := Lib.hid a1
         have B0 := Lib.hid b0
         have B1 := Lib.hid b1
         have PX := Lib.hid (HPX.out.below HB4.out (Nat.le_refl _))
         have PY := Lib.hid (HPY.out.below HB4.out (Nat.le_refl _))
         have H0 := conflict_any x y _ _ _ (PX.out.below B0.out (Nat.le_refl _)) (PY.out.below B0.out (Nat.le_refl _)) KX.out KY.out
         have H1 := conflict_any x y _ _ _ (PX.out.below B1.out (Nat.le_refl _)) (PY.out.below B1.out (Nat.le_refl _)) KX.out KY.out
         unfold ruV at H0 H1
         have G0 := Lib.hid H0
         have G1 := Lib.hid H1
         clear a1 b0 b1 fx fy H0 H1
         go_upto_region 7 with fail
         go_cut [6] from 13 to 30 (fun f_ wx => f_ = .bool (cnfQ x y) ∧ Below wr.heap.size wr wx)
         case first =>
           go_region_held3 (fun w' => w'.cell? ⟨b, off + j*11, none⟩ = some (.int .i64 x.num) ∧ w'.cell? ⟨b, off + j*11+1, none⟩ = some (.int .i64 x.lvl) ∧ w'.cell? ⟨b, off + j*11+2, none⟩ = some (.int .i64 x.rank) ∧ w'.cell? ⟨b, off + j*11+3, none⟩ = some (.int .i64 x.group) ∧ w'.cell? ⟨b, off + j*11+4, none⟩ = some (.int .i64 x.kind) ∧ w'.cell? ⟨b, off + j*11+5, none⟩ = some (.int .i64 x.value) ∧ w'.cell? ⟨b, off + j*11+6, none⟩ = some (.int .i64 x.cap) ∧ w'.cell? ⟨b, off + j*11+7, none⟩ = some (.int .i64 x.lo) ∧ w'.cell? ⟨b, off + j*11+8, none⟩ = some (.int .i64 x.hi) ∧ w'.cell? ⟨b, off + j*11+9, none⟩ = some (.slice po x.counts.length pcap) ∧ w'.cell? ⟨b, off + j*11+10, none⟩ = some (.int .i64 x.coupon) ∧ w'.cell? ⟨b, off + k*11, none⟩ = some (.int .i64 y.num) ∧ w'.cell? ⟨b, off + k*11+1, none⟩ = some (.int .i64 y.lvl) ∧ w'.cell? ⟨b, off + k*11+2, none⟩ = some (.int .i64 y.rank) ∧ w'.cell? ⟨b, off + k*11+3, none⟩ = some (.int .i64 y.group) ∧ w'.cell? ⟨b, off + k*11+4, none⟩ = some (.int .i64 y.kind) ∧ w'.cell? ⟨b, off + k*11+5, none⟩ = some (.int .i64 y.value) ∧ w'.cell? ⟨b, off + k*11+6, none⟩ = some (.int .i64 y.cap) ∧ w'.cell? ⟨b, off + k*11+7, none⟩ = some (.int .i64 y.lo) ∧ w'.cell? ⟨b, off + k*11+8, none⟩ = some (.int .i64 y.hi) ∧ w'.cell? ⟨b, off + k*11+9, none⟩ = some (.slice qo y.counts.length qcap) ∧ w'.cell? ⟨b, off + k*11+10, none⟩ = some (.int .i64 y.coupon) ∧ Below wr.heap.size wr w')
             (first
               | assumption
               | exact KP.out _ B0.out
               | exact KP.out _ B1.out
               | exact KP.out _ b9
               | (exact KP.out _ (b9.alloc b9.size _))
               | (exact KP.out _ (((b9.setCell (Nat.le_refl _) _).setCell (Nat.le_refl _) _).setCell (Nat.le_refl _) _)))
             ((first
               | (go_at_call 163; (with_reducible refine G0.out.mono ?_); rintro e w9 ⟨t9, a9, n9, c9, a8, n8, c8, rfl, x9⟩; have b9 : Below wr.heap.size wr w9 := B0.out.trans (x9.mono B0.out.size))
               | (go_at_call 163; (with_reducible refine G1.out.mono ?_); rintro e w9 ⟨t9, a9, n9, c9, a8, n8, c8, rfl, x9⟩; have b9 : Below wr.heap.size wr w9 := B1.out.trans (x9.mono B1.out.size); obtain ⟨⟨y0, y1, y2⟩, y3, y4, y5⟩ := row3z ((x9.block wr.heap.size s1).trans A1.out))))
           all_goals go_wp2
           all_goals go_meet
           all_goals first
             | exact ⟨rfl, ((b9.setCell (Nat.le_refl _) _).setCell (Nat.le_refl _) _).setCell (Nat.le_refl _) _⟩
             | exact ⟨rfl, b9.alloc b9.size _⟩
         case rest =>
           obtain ⟨rfl, bc⟩ := hcut
           have HB7 := Lib.hid (HB4.out.trans (bc.mono HB4.out.size))
           have HB8 := Lib.hid (hbj.trans (bc.mono hbj.size))
           clear bc hbj
           cases hc : cnfQ x y
           · have HE : Hid (cnfQ (xT l j).r y = false) := by rw [Hid, HXE.out]; exact hc
             go_wp2
             go_roundw
             case rel => exact ⟨j + 1, by omega, by go_num, HB8.out, all_snoc hal2.out HE.out⟩
             case measure => simp [intOf]; omega
           · have fin : Hid (clrQ (rls l) = false) := clr_no (i := k) (k := j) (by rw [rls_len]; exact HYL) hjk (by rw [rls_at, rls_at, HXE.out, HYE.out]; exact hc)
             go_wp2
             go_ret
             exact ⟨by rw [fin.out] <;> rfl, HB7.out⟩
       · have HA2 : Hid (∀ i, i < k + 1 → ∀ j, j < i → cnfQ (xT l j).r (xT l i).r = false) := by
           refine all_snoc hall.out fun i hi => ?_
           rw [HYE.out]
           exact hal2.out i (by omega)
         go_wp2
         go_roundw
         case rel => exact ⟨k + 1, by omega, by go_num, HB4.out, HA2.out⟩
         case measure => simp [intOf]; omega
   · have fin : Hid (clrQ (rls l) = true) := clr_end fun i hi j hj => by rw [rls_at, rls_at]; exact hall.out i (by rw [rls_len] at hi; omega) j hj
     go_wp2
     go_ret
     exact ⟨by rw [fin.out] <;> rfl, hbl⟩
end Go.Proofs.YtijofgaekmahkaaGreatDoor

namespace Go.Proofs.YtijofgaekmahkaaGreatDoor
open Go.RowKit
set_option maxHeartbeats 8000000 in
set_option maxRecDepth 100000 in
theorem pairAt_any (l : List Rx) (v : Value) (m n : Int) (w : World) (hv : RdR w v l) (hok : ∀ x ∈ l, okRu x.r = true) (hrs : okRs (rls l) = true) :
   Calls Tryz.prog 131 #[v, .int .i64 m, .int .i64 n] w fun e w' => e = .returned (.bool (pairQ (rls l) m n)) ∧ Below w.heap.size w w' := by
 have HRS := Lib.hid hrs
 clear hrs
 have HV := Lib.hid hv
 have HK := Lib.hid hok
 have hm := hv.1.len
 unfold maxLen at hm
 obtain ⟨ao, cap, rfl, hcap, _, hr⟩ := hv.open
 have HR := Lib.hid hr
 clear hr hv hok
 go_enter Tryz.func131, Tryz.ntmps131
 go_wp2
 go_loopw [7] (fun i_ wr => ∃ k : Nat, k ≤ l.length ∧ i_ = .int .i64 k ∧ Below w.heap.size w wr ∧ Hid (∀ i, i < k → ∀ j, j < l.length → ¬ ((xT l i).r.num = m ∧ (xT l j).r.num = n))) (fun i_ _ => l.length - (intOf i_).toNat)
 case atStart => exact ⟨0, Nat.zero_le _, rfl, Below.refl _ _, fun i hi => absurd hi (Nat.not_lt_zero _)⟩
 case round =>
   obtain ⟨k, hk, rfl, hbl, hall⟩ := hrel
   by_cases hlt : k < l.length
   · obtain ⟨b, off, rfl, hb, hcell⟩ := HR.out (by omega)
     have HC := Lib.hid hcell
     clear hcell
     have HXL : k < l.length := hlt
     have hpx := HV.out.2 _ (xT_mem HXL)
     have hkx := HK.out _ (xT_mem HXL)
     obtain ⟨po, pcap, hex, _⟩ := hpx.pairs
     obtain ⟨x, hdx⟩ : ∃ z, z = (xT l k).r := ⟨_, rfl⟩
     rw [← hdx] at hpx hkx hex
     rw [hex] at hpx
     have KX := Lib.hid hkx
     have HPX := Lib.hid hpx
     have HXE := Lib.hid hdx.symm
     have HXV := Lib.hid hex
     clear hpx hkx hex hdx
     have HBL := Lib.hid hbl
     go_wp2
     go_loopw [8] (fun j_ w2 => ∃ j : Nat, j ≤ l.length ∧ j_ = .int .i64 j ∧ Below wr.heap.size wr w2 ∧ Hid (∀ i, i < j → ¬ (x.num = m ∧ (xT l i).r.num = n))) (fun j_ _ => l.length - (intOf j_).toNat)
     case atStart => exact ⟨0, Nat.zero_le _, rfl, Below.refl _ _, fun i hi => absurd hi (Nat.not_lt_zero _)⟩
     case round =>
       obtain ⟨j, hj, rfl, hbj, hal2⟩ := hrel
       have HB4 := Lib.hid (HBL.out.trans (hbj.mono HBL.out.size))
       by_cases hjk : j < l.length
       · have hj0 : (0 : Int) ≤ (j : Int) := by omega
         have hj1 : (j : Int) < (l.length : Int) := by omega
         have hk0 : (0 : Int) ≤ (k : Int) := by omega
         have hk1 : (k : Int) < (l.length : Int) := by omega
         have HYL : j < l.length := hjk
         have hpy := HV.out.2 _ (xT_mem HYL)
         have hky := HK.out _ (xT_mem HYL)
         obtain ⟨qo, qcap, hey, _⟩ := hpy.pairs
         obtain ⟨y, hdy⟩ : ∃ z, z = (xT l j).r := ⟨_, rfl⟩
         rw [← hdy] at hpy hky hey
         rw [hey] at hpy
         have KY := Lib.hid hky
         have HPY := Lib.hid hpy
         have HYE := Lib.hid hdy.symm
         have HYV := Lib.hid hey
         clear hpy hky hey hdy
         have hbq : b < wr.heap.size := Nat.lt_of_lt_of_le hb HB4.out.size
         have n0 := (HB4.out.cell (p := ⟨b, off + k*11, none⟩) hb).trans (HC.out k HXL 0 _ rfl)
         have n1 := (HB4.out.cell (p := ⟨b, off + j*11, none⟩) hb).trans (HC.out j HYL 0 _ rfl)
         rw [HXE.out] at n0
         rw [HYE.out] at n1
         by_cases he : x.num = m ∧ y.num = n
         · have hc1 : (x.num == m) = true := by simp [he.1]
           have hc2 : (y.num == n) = true := by simp [he.2]
           have fin : Hid (pairQ (rls l) m n = cnfQ x y) := by
             have := pairQ_at HRS.out (i := k) (k := j) (by rw [rls_len]; exact HXL) (by rw [rls_len]; exact HYL)
             rw [rls_at, rls_at, HXE.out, HYE.out, he.1, he.2] at this
             exact this
           clear he
           go_upto_region 8 with fail
           clear n0 n1 hbq
           have fx := fun i u (hu : (ruL x (.slice po x.counts.length pcap))[i]? = some u) => (HB4.out.cell (p := ⟨b, off + k*11 + i, none⟩) hb).trans (HC.out k HXL i u (by rw [HXE.out, HXV.out]; exact hu))
           have fy := fun i u (hu : (ruL y (.slice qo y.counts.length qcap))[i]? = some u) => (HB4.out.cell (p := ⟨b, off + j*11 + i, none⟩) hb).trans (HC.out j HYL i u (by rw [HYE.out, HYV.out]; exact hu))
           have hbw : b < wr.heap.size := Nat.lt_of_lt_of_le hb HB4.out.size
           have KP := Lib.hid (show ∀ w' : World, Below wr.heap.size wr w' → w'.cell? ⟨b, off + k*11, none⟩ = some (.int .i64 x.num) ∧ w'.cell? ⟨b, off + k*11+1, none⟩ = some (.int .i64 x.lvl) ∧ w'.cell? ⟨b, off + k*11+2, none⟩ = some (.int .i64 x.rank) ∧ w'.cell? ⟨b, off + k*11+3, none⟩ = some (.int .i64 x.group) ∧ w'.cell? ⟨b, off + k*11+4, none⟩ = some (.int .i64 x.kind) ∧ w'.cell? ⟨b, off + k*11+5, none⟩ = some (.int .i64 x.value) ∧ w'.cell? ⟨b, off + k*11+6, none⟩ = some (.int .i64 x.cap) ∧ w'.cell? ⟨b, off + k*11+7, none⟩ = some (.int .i64 x.lo) ∧ w'.cell? ⟨b, off + k*11+8, none⟩ = some (.int .i64 x.hi) ∧ w'.cell? ⟨b, off + k*11+9, none⟩ = some (.slice po x.counts.length pcap) ∧ w'.cell? ⟨b, off + k*11+10, none⟩ = some (.int .i64 x.coupon) ∧ w'.cell? ⟨b, off + j*11, none⟩ = some (.int .i64 y.num) ∧ w'.cell? ⟨b, off + j*11+1, none⟩ = some (.int .i64 y.lvl) ∧ w'.cell? ⟨b, off + j*11+2, none⟩ = some (.int .i64 y.rank) ∧ w'.cell? ⟨b, off + j*11+3, none⟩ = some (.int .i64 y.group) ∧ w'.cell? ⟨b, off + j*11+4, none⟩ = some (.int .i64 y.kind) ∧ w'.cell? ⟨b, off + j*11+5, none⟩ = some (.int .i64 y.value) ∧ w'.cell? ⟨b, off + j*11+6, none⟩ = some (.int .i64 y.cap) ∧ w'.cell? ⟨b, off + j*11+7, none⟩ = some (.int .i64 y.lo) ∧ w'.cell? ⟨b, off + j*11+8, none⟩ = some (.int .i64 y.hi) ∧ w'.cell? ⟨b, off + j*11+9, none⟩ = some (.slice qo y.counts.length qcap) ∧ w'.cell? ⟨b, off + j*11+10, none⟩ = some (.int .i64 y.coupon) ∧ Below wr.heap.size wr w' from fun w' h => ⟨(h.cell (p := ⟨b, off + k*11, none⟩) hbw).trans (fx 0 _ rfl), (h.cell (p := ⟨b, off + k*11+1, none⟩) hbw).trans (fx 1 _ rfl), (h.cell (p := ⟨b, off + k*11+2, none⟩) hbw).trans (fx 2 _ rfl), (h.cell (p := ⟨b, off + k*11+3, none⟩) hbw).trans (fx 3 _ rfl), (h.cell (p := ⟨b, off + k*11+4, none⟩) hbw).trans (fx 4 _ rfl), (h.cell (p := ⟨b, off + k*11+5, none⟩) hbw).trans (fx 5 _ rfl), (h.cell (p := ⟨b, off + k*11+6, none⟩) hbw).trans (fx 6 _ rfl), (h.cell (p := ⟨b, off + k*11+7, none⟩) hbw).trans (fx 7 _ rfl), (h.cell (p := ⟨b, off + k*11+8, none⟩) hbw).trans (fx 8 _ rfl), (h.cell (p := ⟨b, off + k*11+9, none⟩) hbw).trans (fx 9 _ rfl), (h.cell (p := ⟨b, off + k*11+10, none⟩) hbw).trans (fx 10 _ rfl), (h.cell (p := ⟨b, off + j*11, none⟩) hbw).trans (fy 0 _ rfl), (h.cell (p := ⟨b, off + j*11+1, none⟩) hbw).trans (fy 1 _ rfl), (h.cell (p := ⟨b, off + j*11+2, none⟩) hbw).trans (fy 2 _ rfl), (h.cell (p := ⟨b, off + j*11+3, none⟩) hbw).trans (fy 3 _ rfl), (h.cell (p := ⟨b, off + j*11+4, none⟩) hbw).trans (fy 4 _ rfl), (h.cell (p := ⟨b, off + j*11+5, none⟩) hbw).trans (fy 5 _ rfl), (h.cell (p := ⟨b, off + j*11+6, none⟩) hbw).trans (fy 6 _ rfl), (h.cell (p := ⟨b, off + j*11+7, none⟩) hbw).trans (fy 7 _ rfl), (h.cell (p := ⟨b, off + j*11+8, none⟩) hbw).trans (fy 8 _ rfl), (h.cell (p := ⟨b, off + j*11+9, none⟩) hbw).trans (fy 9 _ rfl), (h.cell (p := ⟨b, off + j*11+10, none⟩) hbw).trans (fy 10 _ rfl), h⟩)
           have b0 : Below wr.heap.size wr wr.drew := (Below.refl _ wr).drew
           have b1 : Below wr.heap.size wr (wr.alloc (.cells #[.int .i64 0, .slice none 0 0, .slice none 0 0] 110)).drew := ((Below.refl _ wr).alloc (Nat.le_refl _) _).drew
           have a1 : (wr.alloc (.cells #[.int .i64 0, .slice none 0 0, .slice none 0 0] 110)).drew.heap[wr.heap.size]? = some (.cells #[.int .i64 0, .slice none 0 0, .slice none 0 0] 110 (0, 0)) := heap_alloc_new wr _
           have s1 : wr.heap.size < (wr.alloc (.cells #[.int .i64 0, .slice none 0 0, .slice none 0 0] 110)).drew.heap.size := by show wr.heap.size < (wr.alloc (.cells #[.int .i64 0, .slice none 0 0, .slice none 0 0] 110)).heap.size; rw [World.size_alloc]; exact Nat.lt_succ_self _
           have A1 := Lib.hid a1
           have B0 := Lib.hid b0
           have B1 := Lib.hid b1
           have PX := Lib.hid (HPX.out.below HB4.out (Nat.le_refl _))
           have PY := Lib.hid (HPY.out.below HB4.out (Nat.le_refl _))
           have H0 := conflict_any x y _ _ _ (PX.out.below B0.out (Nat.le_refl _)) (PY.out.below B0.out (Nat.le_refl _)) KX.out KY.out
           have H1 := conflict_any x y _ _ _ (PX.out.below B1.out (Nat.le_refl _)) (PY.out.below B1.out (Nat.le_refl _)) KX.out KY.out
           unfold ruV at H0 H1
           have G0 := Lib.hid H0
           have G1 := Lib.hid H1
           clear a1 b0 b1 fx fy H0 H1
           go_upto_region 8 with fail
           go_cut [10] from 17 to 51 (fun f_ wx => f_ = .bool (cnfQ x y) ∧ Below wr.heap.size wr wx)
           case first =>
             go_region_held3 (fun w' => w'.cell? ⟨b, off + k*11, none⟩ = some (.int .i64 x.num) ∧ w'.cell? ⟨b, off + k*11+1, none⟩ = some (.int .i64 x.lvl) ∧ w'.cell? ⟨b, off + k*11+2, none⟩ = some (.int .i64 x.rank) ∧ w'.cell? ⟨b, off + k*11+3, none⟩ = some (.int .i64 x.group) ∧ w'.cell? ⟨b, off + k*11+4, none⟩ = some (.int .i64 x.kind) ∧ w'.cell? ⟨b, off + k*11+5, none⟩ = some (.int .i64 x.value) ∧ w'.cell? ⟨b, off + k*11+6, none⟩ = some (.int .i64 x.cap) ∧ w'.cell? ⟨b, off + k*11+7, none⟩ = some (.int .i64 x.lo) ∧ w'.cell? ⟨b, off + k*11+8, none⟩ = some (.int .i64 x.hi) ∧ w'.cell? ⟨b, off + k*11+9, none⟩ = some (.slice po x.counts.length pcap) ∧ w'.cell? ⟨b, off + k*11+10, none⟩ = some (.int .i64 x.coupon) ∧ w'.cell? ⟨b, off + j*11, none⟩ = some (.int .i64 y.num) ∧ w'.cell? ⟨b, off + j*11+1, none⟩ = some (.int .i64 y.lvl) ∧ w'.cell? ⟨b, off + j*11+2, none⟩ = some (.int .i64 y.rank) ∧ w'.cell? ⟨b, off + j*11+3, none⟩ = some (.int .i64 y.group) ∧ w'.cell? ⟨b, off + j*11+4, none⟩ = some (.int .i64 y.kind) ∧ w'.cell? ⟨b, off + j*11+5, none⟩ = some (.int .i64 y.value) ∧ w'.cell? ⟨b, off + j*11+6, none⟩ = some (.int .i64 y.cap) ∧ w'.cell? ⟨b, off + j*11+7, none⟩ = some (.int .i64 y.lo) ∧ w'.cell? ⟨b, off + j*11+8, none⟩ = some (.int .i64 y.hi) ∧ w'.cell? ⟨b, off + j*11+9, none⟩ = some (.slice qo y.counts.length qcap) ∧ w'.cell? ⟨b, off + j*11+10, none⟩ = some (.int .i64 y.coupon) ∧ Below wr.heap.size wr w')
               (first
                 | assumption
                 | exact KP.out _ B0.out
                 | exact KP.out _ B1.out
                 | exact KP.out _ b9
                 | (exact KP.out _ (b9.alloc b9.size _))
                 | (exact KP.out _ (((b9.setCell (Nat.le_refl _) _).setCell (Nat.le_refl _) _).setCell (Nat.le_refl _) _)))
               ((first
                 | (go_at_call 163; (with_reducible refine G0.out.mono ?_); rintro e w9 ⟨t9, a9, n9, c9, a8, n8, c8, rfl, x9⟩; have b9 : Below wr.heap.size wr w9 := B0.out.trans (x9.mono B0.out.size))
                 | (go_at_call 163; (with_reducible refine G1.out.mono ?_); rintro e w9 ⟨t9, a9, n9, c9, a8, n8, c8, rfl, x9⟩; have b9 : Below wr.heap.size wr w9 := B1.out.trans (x9.mono B1.out.size); obtain ⟨⟨y0, y1, y2⟩, y3, y4, y5⟩ := row3z ((x9.block wr.heap.size s1).trans A1.out))))
             all_goals go_wp2
             all_goals go_meet
             all_goals first
               | exact ⟨rfl, ((b9.setCell (Nat.le_refl _) _).setCell (Nat.le_refl _) _).setCell (Nat.le_refl _) _⟩
               | exact ⟨rfl, b9.alloc b9.size _⟩
           case rest =>
             obtain ⟨rfl, bc⟩ := hcut
             have HB7 := Lib.hid (HB4.out.trans (bc.mono HB4.out.size))
             clear bc hbj
             go_wp2
             go_ret
             exact ⟨by rw [fin.out] <;> rfl, HB7.out⟩
         · have HE : Hid (¬ (x.num = m ∧ (xT l j).r.num = n)) := by rw [Hid, HYE.out]; exact he
           cases hc1 : (x.num == m)
           · clear he
             go_wp2
             go_roundw
             case rel => exact ⟨j + 1, by omega, by go_num, hbj, all_snoc hal2.out HE.out⟩
             case measure => simp [intOf]; omega
           · have hc2 : (y.num == n) = false := by
               rw [beq_eq_false_iff_ne]
               exact fun e => he ⟨by simpa using hc1, e⟩
             clear he
             go_wp2
             go_roundw
             case rel => exact ⟨j + 1, by omega, by go_num, hbj, all_snoc hal2.out HE.out⟩
             case measure => simp [intOf]; omega
       · have HA2 : Hid (∀ i, i < k + 1 → ∀ j, j < l.length → ¬ ((xT l i).r.num = m ∧ (xT l j).r.num = n)) := by
           refine all_snoc hall.out fun i hi => ?_
           rw [HXE.out]
           exact hal2.out i (by omega)
         go_wp2
         go_roundw
         case rel => exact ⟨k + 1, by omega, by go_num, HB4.out, HA2.out⟩
         case measure => simp [intOf]; omega
   · have fin : Hid (pairQ (rls l) m n = false) := pairQ_no fun i j hi hj => by rw [rls_at, rls_at]; exact hall.out i (by rw [rls_len] at hi; omega) j (by rw [rls_len] at hj; exact hj)
     go_wp2
     go_ret
     exact ⟨by rw [fin.out] <;> rfl, hbl⟩
end Go.Proofs.YtijofgaekmahkaaGreatDoor

namespace Go.Proofs.YtijofgaekmahkaaGreatDoor
open Go.RowKit
theorem Tryz.info34z : (Tryz.prog.info? 34).map (fun i => (i.zero, i.size, i.bytes)) = some (some (.slice none 0 0), 1, 24) := by kernel_rfl
theorem app_val {P : Program} {w : World} {ops : Array Oper} {rest : List Oper} {o : Oper} {a : Act} {Q : Exit → Act → World → Prop} (hgd : o.guard = none) (s x : Operand) (t : TypeId)
   (ho : o.op = .call { callee := .builtin .append, args := #[s, x], argTypes := #[t, t] }) (base : Nat) (e : TypeId) (i : TypeInfo) (z : Value) (by_ : Nat) (ht : P.underlying t = some (.slice e)) (hi : P.info? e = some i) (hz : i.zero = some z)
   (hs : i.size = 1) (hby : i.bytes = by_) (hb24 : by_ ≤ 64) (hzs : z.cells.size = 1) (v : Value) (n : Nat) (xs : List Value) (u : Value) (hu : u.oneCell' = true) (hv : a.eval s = v) (hown : w.ownsRow base e 1 v n xs) (g : Nat)
   (hx : a.eval x = .slice (some ⟨g, 0, none⟩) 1 1) (hc : w.cell? ⟨g, 0, none⟩ = some u) (hlen : n ≤ 1000000000) (hbase : base ≤ w.heap.size)
   (h : ∀ v' w1, w1.ownsRow base e 1 v' (n + 1) (xs ++ [u]) → w.grownBy w1 v.ownBlock → Near w v v' → wpList P ops Q rest (a.put o.dst v') w1) : wpList P ops Q (o :: rest) a w := by
 refine wpList_append_near hgd s x t ho base e i z 1 by_ ht hi hz hs hby hzs (by decide) v n xs hv hown ⟨g, 0, none⟩ 1 1 [u] hx rfl (fun j q hj => ?_) (fun q hq => ?_) (by unfold maxLen; omega) ?_ hbase h
 · cases j with
   | zero => simp only [List.getElem?_cons_zero, Option.some.injEq] at hj; subst hj; exact hc
   | succ j => simp at hj
 · simp only [List.mem_singleton] at hq; subst hq; exact hu
 · have := Nat.mul_le_mul (show n + 1 ≤ 1000000001 by omega) hb24
   omega
structure Px where
 p : Int × Int
 u : Value
def PxV (base : Nat) (W : World) (x : Px) : Prop := ∃ g, x.u = .slice (some ⟨g, 0, none⟩) 2 2 ∧ base ≤ g ∧ W.heap[g]? = some (.cells #[.int .i64 x.p.1, .int .i64 x.p.2] 3 (0, 0))
structure PxAt (base : Nat) (W : World) (o : Value) (L : List Px) : Prop where
 own : W.ownsRow base 34 1 o L.length (L.map Px.u)
 pr : ∀ x ∈ L, PxV base W x
theorem PxV.below {base B : Nat} {W W' : World} {x : Px} (h : PxV base W x) (hb : Below B W W') (hB : W.heap.size ≤ B) : PxV base W' x := by
 obtain ⟨g, h1, h2, h3⟩ := h
 exact ⟨g, h1, h2, (hb.block g (Nat.lt_of_lt_of_le (Array.getElem?_eq_some_iff.1 h3).1 hB)).trans h3⟩
theorem PxAt.below {base B : Nat} {W W' : World} {o : Value} {L : List Px} (h : PxAt base W o L) (hb : Below B W W') (hB : W.heap.size ≤ B) : PxAt base W' o L :=
 ⟨ownsRow_below h.own hb hB, fun x hx => (h.pr x hx).below hb hB⟩
theorem ne_ii : (3 : Nat) ≠ 34 := by decide
theorem PxAt.app {base : Nat} {W W1 : World} {o o' : Value} {L : List Px} {x : Px} (h : PxAt base W o L) (hg : W.grownBy W1 o.ownBlock) (ho : W1.ownsRow base 34 1 o' (L.length + 1) (L.map Px.u ++ [x.u])) (hx : PxV base W x) : PxAt base W1 o' (L ++ [x]) := by
 refine ⟨by rw [List.length_append, List.map_append]; exact ho, fun y hy => ?_⟩
 have key : ∀ y, PxV base W y → PxV base W1 y := fun y hy => by
   obtain ⟨g, h1, h2, h3⟩ := hy
   exact ⟨g, h1, h2, grown_blk h.own hg h3 ne_ii⟩
 rcases List.mem_append.1 hy with hy | hy
 · exact key y (h.pr y hy)
 · rw [List.mem_singleton] at hy; subst hy; exact key _ hx
theorem cnfB_yes {l : List Rl} {a k : Nat} {x y : Int} (h : pairQ l x y = true) (hx : x = (a : Int)) (hy : y = ((a + 1 + k : Nat) : Int)) : cnfB l a (k + 1) = cnfB l a k ++ [(x, y)] := by
 subst hx; subst hy
 show cnfB l a k ++ (if pairQ l a ((a + 1 + k : Nat) : Int) then [((a : Int), ((a + 1 + k : Nat) : Int))] else []) = _
 rw [if_pos h]
theorem cnfB_no {l : List Rl} {a k : Nat} {x y : Int} (h : pairQ l x y = false) (hx : x = (a : Int)) (hy : y = ((a + 1 + k : Nat) : Int)) : cnfB l a (k + 1) = cnfB l a k := by
 subst hx; subst hy
 show cnfB l a k ++ (if pairQ l a ((a + 1 + k : Nat) : Int) then [((a : Int), ((a + 1 + k : Nat) : Int))] else []) = _
 rw [if_neg (by rw [h]; simp), List.append_nil]
theorem cnfB_len (l : List Rl) (a : Nat) : ∀ k, (cnfB l a k).length ≤ k
 | 0 => by simp [cnfB]
 | k + 1 => by
   have := cnfB_len l a k
   unfold cnfB
   rw [List.length_append]
   split <;> simp <;> omega
theorem cnfA_len (l : List Rl) : ∀ k, (cnfA l k).length ≤ 99 * k
 | 0 => by simp [cnfA]
 | k + 1 => by
   have h1 := cnfA_len l k
   have h2 := cnfB_len l (k + 1) (99 - (k + 1))
   unfold cnfA
   rw [List.length_append]
   omega
set_option maxHeartbeats 8000000 in
set_option maxRecDepth 100000 in
theorem specAllConf_any (l : List Rx) (v : Value) (w : World) (hv : RdR w v l) (hrs : okRs (rls l) = true) :
   Calls Tryz.prog 94 #[v] w fun e w' => ∃ (o : Value) (L : List Px), e = .returned o ∧ L.map Px.p = cnfL (rls l) ∧ PxAt w.heap.size w' o L ∧ Below w.heap.size w w' := by
 have HV := Lib.hid hv
 have hok : ∀ x ∈ l, okRu x.r = true := fun x hx => okRs_mem hrs x.r (List.mem_map.2 ⟨x, hx, rfl⟩)
 have HK := Lib.hid hok
 have HRS := Lib.hid hrs
 have hm := hv.1.len
 unfold maxLen at hm
 obtain ⟨ao, cap, rfl, hcap, _, hr⟩ := hv.open
 clear hr hv hok hrs
 obtain ⟨i0, hi, hz0, hz1, hz2⟩ := info_parts Tryz.info34z
 have HI := Lib.hid hi
 have HZ0 := Lib.hid hz0
 have HZ1 := Lib.hid hz1
 have HZ2 := Lib.hid hz2
 clear hi hz0 hz1 hz2
 have O0 := Lib.hid (World.ownsRow_made w #[] 0 (Nat.le_refl _) (by simp) (by simp) : (w.alloc (.cells #[] 34)).ownsRow w.heap.size 34 1 (.slice (some ⟨w.heap.size, 0, none⟩) 0 0) 0 [])
 have B0 : Below w.heap.size w (w.alloc (.cells #[] 34)) := (Below.refl _ w).alloc (Nat.le_refl _) _
 have HB0 := Lib.hid B0
 clear B0
 go_enter Tryz.func94, Tryz.ntmps94
 go_wp2_with (go_at_call 85; refine (specRules_any l _ _ (HV.out.below HB0.out (Nat.le_refl _)) HK.out).mono ?_; rintro e w1 ⟨rfl, x1⟩; rw [HRS.out]; have B1 := HB0.out.trans (x1.mono HB0.out.size); have P1 := Lib.hid (⟨ownsRow_below O0.out x1 (Nat.le_refl _), fun x hx => by cases hx⟩ : PxAt w.heap.size w1 (.slice (some ⟨w.heap.size, 0, none⟩) 0 0) []); clear x1)
 go_loopw [3, 4] (fun o_ i_ wr => ∃ (k : Nat) (L : List Px), k ≤ 99 ∧ i_ = .int .i64 ((k : Int) + 1) ∧ Hid (L.map Px.p = cnfA (rls l) k) ∧ Hid (PxAt w.heap.size wr o_ L) ∧ Below w.heap.size w wr) (fun _ i_ _ => 100 - (intOf i_).toNat)
 case atStart => exact ⟨0, [], Nat.zero_le _, rfl, rfl, P1, B1⟩
 case round =>
   clear P1 B1
   obtain ⟨k, L, hk, rfl, HL, PL, hbl⟩ := hrel
   by_cases hlt : k < 99
   · have hle : (k : Int) + 1 ≤ 99 := by omega
     obtain ⟨so, scap, hso, _⟩ := owns_shape PL.out.own
     subst hso
     have HBL := Lib.hid hbl
     clear hbl
     go_wp2
     go_loopw [3, 5] (fun o_ j_ w2 => ∃ (j : Nat) (L : List Px), k + 1 + j ≤ 99 ∧ j_ = .int .i64 ((k : Int) + 1 + 1 + (j : Int)) ∧ Hid (L.map Px.p = cnfA (rls l) k ++ cnfB (rls l) (k + 1) j) ∧ Hid (PxAt w.heap.size w2 o_ L) ∧ Below w.heap.size w w2) (fun _ j_ _ => 100 - (intOf j_).toNat)
     case atStart => exact ⟨0, L, by omega, by simp, by rw [Hid, HL.out]; simp [cnfB], PL, HBL.out⟩
     case round =>
       clear HL PL HBL
       obtain ⟨j, L, hj, rfl, HL, PL, hbl⟩ := hrel
       obtain ⟨so, scap, hso, _⟩ := owns_shape PL.out.own
       subst hso
       have hlen : L.length ≤ 100000 := by
         have h1 := congrArg List.length HL.out
         rw [List.length_map, List.length_append] at h1
         have h2 := cnfA_len (rls l) k
         have h3 := cnfB_len (rls l) (k + 1) j
         omega
       by_cases hjl : k + 1 + j < 99
       · have hle2 : (k : Int) + 1 + 1 + (j : Int) ≤ 99 := by omega
         have e1 : IntKind.i64.wrap ((k : Int) + 1 + 1 + (j : Int) + 1) = (k : Int) + 1 + 1 + (j : Int) + 1 := IntWalk.i64_in _ (by omega)
         cases hp : pairQ (rls l) ((k : Int) + 1) ((k : Int) + 1 + 1 + (j : Int))
         · have hn := Lib.hid (cnfB_no (a := k + 1) (k := j) hp (by omega) (by omega))
           have HPP := Lib.hid hp
           clear hp
           go_wp2_with (go_at_call 131; refine (pairAt_any l _ _ _ _ (HV.out.below hbl (Nat.le_refl _)) HK.out HRS.out).mono ?_; rintro e w3 ⟨rfl, x3⟩; rw [HPP.out]; have B3 := Lib.hid (hbl.trans (x3.mono hbl.size)); have P3 := Lib.hid (PL.out.below x3 (Nat.le_refl _)); clear x3)
           go_roundw
           case rel => exact ⟨j + 1, L, by omega, by congr 1, by rw [Hid, hn.out]; exact HL.out, P3, B3.out⟩
           case measure => simp [intOf]; omega
         · have hn := Lib.hid (cnfB_yes (a := k + 1) (k := j) hp (by omega) (by omega))
           have HPP := Lib.hid hp
           clear hp
           go_wp2_with (first
             | (go_at_call 131; refine (pairAt_any l _ _ _ _ (HV.out.below hbl (Nat.le_refl _)) HK.out HRS.out).mono ?_; rintro e w3 ⟨rfl, x3⟩; rw [HPP.out]; have B3 := Lib.hid (hbl.trans (x3.mono hbl.size)); have P3 := Lib.hid (PL.out.below x3 (Nat.le_refl _)); clear x3)
             | (at_builtin; refine app_val rfl (.tmp 24) (.tmp 28) 84 rfl w.heap.size 34 i0 _ 24 Tryz.underlying84 HI.out HZ0.out HZ1.out HZ2.out (by omega) rfl _ L.length (L.map Px.u) (.slice (some ⟨w3.heap.size, 0, none⟩) 2 2) rfl rfl ((P3.out.own.alloc (.cells #[.int .i64 ((k : Int) + 1), .int .i64 ((k : Int) + 1 + 1 + (j : Int))] 3)).alloc _) (w3.heap.size + 1) rfl (by have h9 := cell_of_row _ _ 0 _ _ _ (heap_alloc_new (w3.alloc (.cells #[.int .i64 ((k : Int) + 1), .int .i64 ((k : Int) + 1 + 1 + (j : Int))] 3)) (.cells #[.slice (some ⟨w3.heap.size, 0, none⟩) 2 2] 34)); rw [World.size_alloc] at h9; exact h9) (by omega) (by simp; have := B3.out.size; omega) ?_; intro v' W1 h1 h2 h3; have AA : Below w3.heap.size w3 ((w3.alloc (.cells #[.int .i64 ((k : Int) + 1), .int .i64 ((k : Int) + 1 + 1 + (j : Int))] 3)).alloc (.cells #[.slice (some ⟨w3.heap.size, 0, none⟩) 2 2] 34)) := ((Below.refl _ _).alloc (Nat.le_refl _) _).alloc (by simp) _; have P4 := Lib.hid ((P3.out.below AA (Nat.le_refl _)).app (x := ⟨((k : Int) + 1, (k : Int) + 1 + 1 + (j : Int)), .slice (some ⟨w3.heap.size, 0, none⟩) 2 2⟩) h2 h1 ⟨w3.heap.size, rfl, B3.out.size, heap_keep (heap_alloc_new w3 _)⟩); have B4 := Lib.hid (below_row (B3.out.trans (AA.mono B3.out.size)) h2 (fun q hq => (P3.out.own.lt q hq).1)); clear h1 h2 h3 AA))
           go_roundw
           case rel => exact ⟨j + 1, _, by omega, by congr 1, by rw [Hid, hn.out, List.map_append, HL.out, List.append_assoc]; rfl, P4, B4.out⟩
           case measure => simp [intOf]; omega
       · have hle2 : decide ((k : Int) + 1 + 1 + (j : Int) ≤ 99) = false := by simp; omega
         have hj2 : j = 99 - (k + 1) := by omega
         go_wp2
         go_roundw
         case rel => exact ⟨k + 1, L, by omega, by go_num, by rw [Hid, HL.out, hj2]; rfl, PL, hbl⟩
         case measure => simp [intOf]; omega
   · have hle : decide ((k : Int) + 1 ≤ 99) = false := by simp; omega
     have hk9 : k = 99 := by omega
     go_wp2
     go_ret
     exact ⟨_, L, rfl, by rw [HL.out, hk9]; rfl, PL.out, hbl⟩
end Go.Proofs.YtijofgaekmahkaaGreatDoor
