/- Joined texts: A list of rules in memory; walks: are rules valid, both ways. Walks: numbers in a list, coupons as they should be, points as they should be. The reader of the generators: what is known of it, and what picks leave. Conditions: none. -/
import Derived.Test.YtijofgaekmahkaaGreatDoorM06
import Derived.Test.YtijofgaekmahkaaGreatDoorRows
import Derived.Deep.QuietTactic
import Derived.BigQuiet
import Derived.Handy
namespace Go.Proofs.YtijofgaekmahkaaGreatDoor
open Go.RowKit
structure Rx where
 r : Rl
 v : Value
def rx (l : List Rx) : List Value := l.flatMap fun x => ruL x.r x.v
def xT (l : List Rx) (k : Nat) : Rx := l.getD k ⟨⟨0, 0, 0, 0, 0, 0, 0, 0, 0, [], 0⟩, .slice none 0 0⟩
def rls (l : List Rx) : List Rl := l.map Rx.r
theorem rls_len (l : List Rx) : (rls l).length = l.length := by simp [rls]
theorem rls_at (l : List Rx) (k : Nat) : rT (rls l) k = (xT l k).r := by
 unfold rT xT rls
 rw [List.getD_eq_getElem?_getD, List.getElem?_map, List.getD_eq_getElem?_getD]
 cases l[k]? <;> rfl
theorem xT_mem {l : List Rx} {k : Nat} (h : k < l.length) : xT l k ∈ l := by
 have : xT l k = l[k] := by simp [xT, List.getD, h]
 rw [this]; exact List.getElem_mem h
theorem rx_len (l : List Rx) : (rx l).length = l.length * 11 := by
 induction l with
 | nil => rfl
 | cons a l ih =>
   have : rx (a :: l) = ruL a.r a.v ++ rx l := by simp [rx]
   rw [this, List.length_append, ih]
   simp [ruL]; omega
theorem rx_append (l m : List Rx) : rx (l ++ m) = rx l ++ rx m := by simp [rx]
theorem rx_get (l : List Rx) (k i : Nat) (u : Value) (hk : k < l.length) (h : (ruL (xT l k).r (xT l k).v)[i]? = some u) : (rx l)[k * 11 + i]? = some u := by
 induction l generalizing k with
 | nil => simp at hk
 | cons a l ih =>
   have hc : rx (a :: l) = ruL a.r a.v ++ rx l := by simp [rx]
   have hl : (ruL a.r a.v).length = 11 := by simp [ruL]
   rw [hc]
   match k, hk, h with
   | 0, _, h =>
     have hx : xT (a :: l) 0 = a := by simp [xT]
     rw [hx] at h
     have hi := (List.getElem?_eq_some_iff.1 h).1
     rw [Nat.zero_mul, Nat.zero_add, List.getElem?_append_left hi]
     exact h
   | k + 1, hk, h =>
     have hx : xT (a :: l) (k + 1) = xT l k := by simp [xT]
     rw [hx] at h
     rw [List.getElem?_append_right (by rw [hl]; omega), hl, show (k + 1) * 11 + i - 11 = k * 11 + i by omega]
     exact ih k (by simpa using hk) h
def RdR (w : World) (v : Value) (l : List Rx) : Prop := Rd w 11 v l.length (rx l) ∧ ∀ x ∈ l, Rd w 2 x.v x.r.counts.length (pr x.r.counts)
theorem RdR.below {w w' : World} {b : Nat} {v : Value} {l : List Rx} (h : RdR w v l) (hb : Below b w w') (hB : w.heap.size ≤ b) : RdR w' v l :=
 ⟨h.1.below hb hB, fun x hx => (h.2 x hx).below hb hB⟩
theorem RdR.open {w : World} {v : Value} {l : List Rx} (h : RdR w v l) :
   ∃ ao cap, v = .slice ao l.length cap ∧ l.length ≤ cap ∧ cap ≤ maxLen ∧ (0 < l.length → ∃ b off, ao = some ⟨b, off, none⟩ ∧ b < w.heap.size ∧
     ∀ k, k < l.length → ∀ i u, (ruL (xT l k).r (xT l k).v)[i]? = some u → w.cell? ⟨b, off + k * 11 + i, none⟩ = some u) := by
 obtain ⟨_, ao, cap, h2, h3, h4, h5⟩ := h.1
 refine ⟨ao, cap, h2, h3, h4, fun hn => ?_⟩
 obtain ⟨b, off, h6, h7, h8⟩ := h5 hn
 refine ⟨b, off, h6, h7, fun k hk i u hu => ?_⟩
 rw [Nat.add_assoc]
 exact h8 _ _ (rx_get l k i u hk hu)
theorem box11 (w : World) (r : Rl) (v : Value) (t : TypeId) : RuAt (w.alloc (.cells #[.int .i64 r.num, .int .i64 r.lvl, .int .i64 r.rank, .int .i64 r.group, .int .i64 r.kind, .int .i64 r.value, .int .i64 r.cap, .int .i64 r.lo, .int .i64 r.hi, v, .int .i64 r.coupon] t)) w.heap.size r v := RuAt.box w r v t
set_option maxHeartbeats 8000000 in
set_option maxRecDepth 100000 in
theorem implRules_any (l : List Rx) (v : Value) (w : World) (hv : RdR w v l) (hok : ∀ x ∈ l, okRu x.r = true) :
   Calls Tryz.prog 34 #[v] w fun e w' => e = .returned (.bool (okRs (rls l))) ∧ Below w.heap.size w w' := by
 have HV := Lib.hid hv
 have HK := Lib.hid hok
 have hm := hv.1.len
 unfold maxLen at hm
 obtain ⟨ao, cap, rfl, hcap, _, hr⟩ := hv.open
 have HR := Lib.hid hr
 clear hr hv hok
 go_enter Tryz.func34, Tryz.ntmps34
 go_wp2
 go_loopw [9] (fun i_ wr => ∃ k : Nat, k ≤ l.length ∧ i_ = .int .i64 k ∧ Below w.heap.size w wr ∧ Hid (∀ i, i < k → ∀ j, j < i → (xT l j).r.num ≠ (xT l i).r.num)) (fun i_ _ => l.length - (intOf i_).toNat)
 case atStart => exact ⟨0, Nat.zero_le _, rfl, Below.refl _ _, fun i hi => absurd hi (Nat.not_lt_zero _)⟩
 case round =>
   obtain ⟨k, hk, rfl, hbl, hall⟩ := hrel
   by_cases hlt : k < l.length
   · obtain ⟨b, off, rfl, hb, hcell⟩ := HR.out (by omega)
     have HC := Lib.hid hcell
     have fk := hcell k hlt
     have hx := xT_mem hlt
     have hpx := HV.out.2 _ hx
     have hkx := HK.out _ hx
     have KX := Lib.hid hkx
     obtain ⟨po, pcap, hpe, _⟩ := hpx.pairs
     obtain ⟨x, hxe⟩ : ∃ x, x = xT l k := ⟨_, rfl⟩
     rw [← hxe] at fk hpx KX hpe
     rw [hpe] at fk hpx
     have HPX := Lib.hid hpx
     have HXE := Lib.hid hxe
     have hbw : b < wr.heap.size := Nat.lt_of_lt_of_le hb hbl.size
     have c0 := (hbl.cell (p := ⟨b, off + k*11, none⟩) hb).trans (fk 0 _ rfl)
     have c1 := (hbl.cell (p := ⟨b, off + k*11+1, none⟩) hb).trans (fk 1 _ rfl)
     have c2 := (hbl.cell (p := ⟨b, off + k*11+2, none⟩) hb).trans (fk 2 _ rfl)
     have c3 := (hbl.cell (p := ⟨b, off + k*11+3, none⟩) hb).trans (fk 3 _ rfl)
     have c4 := (hbl.cell (p := ⟨b, off + k*11+4, none⟩) hb).trans (fk 4 _ rfl)
     have c5 := (hbl.cell (p := ⟨b, off + k*11+5, none⟩) hb).trans (fk 5 _ rfl)
     have c6 := (hbl.cell (p := ⟨b, off + k*11+6, none⟩) hb).trans (fk 6 _ rfl)
     have c7 := (hbl.cell (p := ⟨b, off + k*11+7, none⟩) hb).trans (fk 7 _ rfl)
     have c8 := (hbl.cell (p := ⟨b, off + k*11+8, none⟩) hb).trans (fk 8 _ rfl)
     have c9 := (hbl.cell (p := ⟨b, off + k*11+9, none⟩) hb).trans (fk 9 _ rfl)
     have c10 := (hbl.cell (p := ⟨b, off + k*11+10, none⟩) hb).trans (fk 10 _ rfl)
     have bx := box11 wr x.r (.slice po x.r.counts.length pcap) 43
     have hb2 := hbl.alloc hbl.size (.cells #[.int .i64 x.r.num, .int .i64 x.r.lvl, .int .i64 x.r.rank, .int .i64 x.r.group, .int .i64 x.r.kind, .int .i64 x.r.value, .int .i64 x.r.cap, .int .i64 x.r.lo, .int .i64 x.r.hi, .slice po x.r.counts.length pcap, .int .i64 x.r.coupon] 43)
     obtain ⟨W, hW⟩ : ∃ W, W = wr.alloc (.cells #[.int .i64 x.r.num, .int .i64 x.r.lvl, .int .i64 x.r.rank, .int .i64 x.r.group, .int .i64 x.r.kind, .int .i64 x.r.value, .int .i64 x.r.cap, .int .i64 x.r.lo, .int .i64 x.r.hi, .slice po x.r.counts.length pcap, .int .i64 x.r.coupon] 43) := ⟨_, rfl⟩
     rw [← hW] at bx hb2
     have HW := Lib.hid hW
     have BX := Lib.hid bx
     have HB2 := Lib.hid hb2
     clear hcell hx hpx hkx hpe hxe fk bx hb2 hW
     go_upto_region 4 with fail
     rw [← HW.out]
     clear HW c0 c1 c2 c3 c4 c5 c6 c7 c8 c9 c10
     have c0 := BX.out.c0
     have c1 := BX.out.c1
     have c2 := BX.out.c2
     have c3 := BX.out.c3
     have c4 := BX.out.c4
     have c5 := BX.out.c5
     have c6 := BX.out.c6
     have c7 := BX.out.c7
     have c8 := BX.out.c8
     have c9 := BX.out.c9
     have c10 := BX.out.c10
     go_wp2_with fail
     refine (implRule_any x.r _ _ (HPX.out.below HB2.out (Nat.le_refl _))).mono ?_
     rintro e w1 ⟨rfl, x1⟩
     rw [KX.out]
     have BY := Lib.hid (BX.out.below x1 (Nat.le_refl _))
     have HB3 := Lib.hid (HB2.out.trans (x1.mono HB2.out.size))
     clear c0 c1 c2 c3 c4 c5 c6 c7 c8 c9 c10 x1
     have hk0 : (0 : Int) ≤ (k : Int) := by omega
     have hk1 : (k : Int) ≤ (cap : Int) := by omega
     go_wp2
     go_loopw [21] (fun j_ w2 => ∃ j : Nat, j ≤ k ∧ j_ = .int .i64 j ∧ Below w1.heap.size w1 w2 ∧ Hid (∀ i, i < j → (xT l i).r.num ≠ x.r.num)) (fun j_ _ => k - (intOf j_).toNat)
     case atStart => exact ⟨0, Nat.zero_le _, rfl, Below.refl _ _, fun i hi => absurd hi (Nat.not_lt_zero _)⟩
     case round =>
       obtain ⟨j, hj, rfl, hbj, hal2⟩ := hrel
       have BZ := Lib.hid (BY.out.below hbj (Nat.le_refl _))
       have HB4 := Lib.hid (HB3.out.trans (hbj.mono HB3.out.size))
       by_cases hjk : j < k
       · have hjl : j < l.length := by omega
         have fj := HC.out j hjl
         obtain ⟨y, hye⟩ : ∃ y, y = xT l j := ⟨_, rfl⟩
         have hpy := HV.out.2 _ (xT_mem hjl)
         obtain ⟨qo, qcap, hqe, _⟩ := hpy.pairs
         rw [← hye] at fj hqe
         rw [hqe] at fj
         have HYE := Lib.hid hye
         have hbj2 : b < wr.heap.size := Nat.lt_of_lt_of_le hb HB4.out.size
         have c0 := (HB4.out.cell (p := ⟨b, off + j*11, none⟩) hb).trans (fj 0 _ rfl)
         have c1 := (HB4.out.cell (p := ⟨b, off + j*11+1, none⟩) hb).trans (fj 1 _ rfl)
         have c2 := (HB4.out.cell (p := ⟨b, off + j*11+2, none⟩) hb).trans (fj 2 _ rfl)
         have c3 := (HB4.out.cell (p := ⟨b, off + j*11+3, none⟩) hb).trans (fj 3 _ rfl)
         have c4 := (HB4.out.cell (p := ⟨b, off + j*11+4, none⟩) hb).trans (fj 4 _ rfl)
         have c5 := (HB4.out.cell (p := ⟨b, off + j*11+5, none⟩) hb).trans (fj 5 _ rfl)
         have c6 := (HB4.out.cell (p := ⟨b, off + j*11+6, none⟩) hb).trans (fj 6 _ rfl)
         have c7 := (HB4.out.cell (p := ⟨b, off + j*11+7, none⟩) hb).trans (fj 7 _ rfl)
         have c8 := (HB4.out.cell (p := ⟨b, off + j*11+8, none⟩) hb).trans (fj 8 _ rfl)
         have c9 := (HB4.out.cell (p := ⟨b, off + j*11+9, none⟩) hb).trans (fj 9 _ rfl)
         have c10 := (HB4.out.cell (p := ⟨b, off + j*11+10, none⟩) hb).trans (fj 10 _ rfl)
         have by1 := box11 wr y.r (.slice qo y.r.counts.length qcap) 43
         have d0 := by1.c0
         have bz1 := (BZ.out.below ((Below.refl _ wr).alloc (Nat.le_refl _) (.cells #[.int .i64 y.r.num, .int .i64 y.r.lvl, .int .i64 y.r.rank, .int .i64 y.r.group, .int .i64 y.r.kind, .int .i64 y.r.value, .int .i64 y.r.cap, .int .i64 y.r.lo, .int .i64 y.r.hi, .slice qo y.r.counts.length qcap, .int .i64 y.r.coupon] 43)) (Nat.le_refl _))
         have d1 := bz1.c0
         have HB5 := Lib.hid (hbj.alloc hbj.size (.cells #[.int .i64 y.r.num, .int .i64 y.r.lvl, .int .i64 y.r.rank, .int .i64 y.r.group, .int .i64 y.r.kind, .int .i64 y.r.value, .int .i64 y.r.cap, .int .i64 y.r.lo, .int .i64 y.r.hi, .slice qo y.r.counts.length qcap, .int .i64 y.r.coupon] 43))
         have HB6 := Lib.hid (HB4.out.alloc HB4.out.size (.cells #[.int .i64 y.r.num, .int .i64 y.r.lvl, .int .i64 y.r.rank, .int .i64 y.r.group, .int .i64 y.r.kind, .int .i64 y.r.value, .int .i64 y.r.cap, .int .i64 y.r.lo, .int .i64 y.r.hi, .slice qo y.r.counts.length qcap, .int .i64 y.r.coupon] 43))
         have hj0 : (0 : Int) ≤ (j : Int) := by omega
         clear fj hpy hqe hye by1 bz1
         by_cases he : y.r.num = x.r.num
         · have heb : (y.r.num == x.r.num) = true := by simp [he]
           have fin : Hid (okRs (rls l) = false) := okRs_bad (k := k) (j := j) (by rw [rls_len]; exact hlt) hjk (by rw [rls_at, rls_at, ← HYE.out, ← HXE.out]; exact he)
           clear he
           go_wp2
           go_ret
           exact ⟨by rw [fin.out] <;> rfl, HB6.out⟩
         · have heb : (y.r.num == x.r.num) = false := by simp [he]
           have HE : Hid ((xT l j).r.num ≠ x.r.num) := by rw [Hid, ← HYE.out]; exact he
           clear he
           go_wp2
           go_roundw
           case rel => exact ⟨j + 1, by omega, by go_num, HB5.out, all_snoc hal2.out HE.out⟩
           case measure => simp [intOf]; omega
       · have hall2 : ∀ i, i < k + 1 → ∀ j, j < i → (xT l j).r.num ≠ (xT l i).r.num := by
           refine all_snoc hall.out fun i hi => ?_
           rw [← HXE.out]
           exact hal2.out i (by omega)
         have HA2 := Lib.hid hall2
         clear hall2
         go_wp2
         go_roundw
         case rel => exact ⟨k + 1, by omega, by go_num, HB4.out, HA2.out⟩
         case measure => simp [intOf]; omega
   · obtain rfl : k = l.length := by omega
     have fin : Hid (okRs (rls l) = decide ((l.length : Int) ≤ 6)) := by
       have := okRs_end (l := rls l) (fun k hk => by rw [rls_at]; exact HK.out _ (xT_mem (by rw [rls_len] at hk; exact hk))) (fun k hk j hj => by rw [rls_at, rls_at]; exact hall.out k (by rw [rls_len] at hk; exact hk) j hj)
       rw [rls_len] at this
       exact this
     go_wp2
     go_ret
     exact ⟨by rw [fin.out] <;> rfl, hbl⟩
set_option maxHeartbeats 8000000 in
set_option maxRecDepth 100000 in
theorem specRules_any (l : List Rx) (v : Value) (w : World) (hv : RdR w v l) (hok : ∀ x ∈ l, okRu x.r = true) :
   Calls Tryz.prog 85 #[v] w fun e w' => e = .returned (.bool (okRs (rls l))) ∧ Below w.heap.size w w' := by
 have HV := Lib.hid hv
 have HK := Lib.hid hok
 have hm := hv.1.len
 unfold maxLen at hm
 obtain ⟨ao, cap, rfl, hcap, _, hr⟩ := hv.open
 have HR := Lib.hid hr
 clear hr hv hok
 go_enter Tryz.func85, Tryz.ntmps85
 go_wp2
 go_loopw [3] (fun i_ wr => ∃ k : Nat, k ≤ l.length ∧ i_ = .int .i64 k ∧ Below w.heap.size w wr ∧ Hid (∀ i, i < k → ∀ j, j < i → (xT l j).r.num ≠ (xT l i).r.num)) (fun i_ _ => l.length - (intOf i_).toNat)
 case atStart => exact ⟨0, Nat.zero_le _, rfl, Below.refl _ _, fun i hi => absurd hi (Nat.not_lt_zero _)⟩
 case round =>
   obtain ⟨k, hk, rfl, hbl, hall⟩ := hrel
   by_cases hlt : k < l.length
   · obtain ⟨b, off, rfl, hb, hcell⟩ := HR.out (by omega)
     have HC := Lib.hid hcell
     have fk := hcell k hlt
     have hx := xT_mem hlt
     have hpx := HV.out.2 _ hx
     have hkx := HK.out _ hx
     have KX := Lib.hid hkx
     obtain ⟨po, pcap, hpe, _⟩ := hpx.pairs
     obtain ⟨x, hxe⟩ : ∃ x, x = xT l k := ⟨_, rfl⟩
     rw [← hxe] at fk hpx KX hpe
     rw [hpe] at fk hpx
     have HPX := Lib.hid hpx
     have HXE := Lib.hid hxe
     have hbw : b < wr.heap.size := Nat.lt_of_lt_of_le hb hbl.size
     have c0 := (hbl.cell (p := ⟨b, off + k*11, none⟩) hb).trans (fk 0 _ rfl)
     have c1 := (hbl.cell (p := ⟨b, off + k*11+1, none⟩) hb).trans (fk 1 _ rfl)
     have c2 := (hbl.cell (p := ⟨b, off + k*11+2, none⟩) hb).trans (fk 2 _ rfl)
     have c3 := (hbl.cell (p := ⟨b, off + k*11+3, none⟩) hb).trans (fk 3 _ rfl)
     have c4 := (hbl.cell (p := ⟨b, off + k*11+4, none⟩) hb).trans (fk 4 _ rfl)
     have c5 := (hbl.cell (p := ⟨b, off + k*11+5, none⟩) hb).trans (fk 5 _ rfl)
     have c6 := (hbl.cell (p := ⟨b, off + k*11+6, none⟩) hb).trans (fk 6 _ rfl)
     have c7 := (hbl.cell (p := ⟨b, off + k*11+7, none⟩) hb).trans (fk 7 _ rfl)
     have c8 := (hbl.cell (p := ⟨b, off + k*11+8, none⟩) hb).trans (fk 8 _ rfl)
     have c9 := (hbl.cell (p := ⟨b, off + k*11+9, none⟩) hb).trans (fk 9 _ rfl)
     have c10 := (hbl.cell (p := ⟨b, off + k*11+10, none⟩) hb).trans (fk 10 _ rfl)
     clear hcell hx hpx hkx hpe hxe fk
     go_wp2_with fail
     refine (specRule_in x.r _ _ (HPX.out.below hbl (Nat.le_refl _))).mono ?_
     rintro e w1 ⟨rfl, x1⟩
     rw [KX.out]
     have HB3 := Lib.hid (hbl.trans (x1.mono hbl.size))
     clear c1 c2 c3 c4 c5 c6 c7 c8 c9 c10 c0 x1
     have n0 := (HB3.out.cell (p := ⟨b, off + k*11, none⟩) hb).trans (HC.out k hlt 0 _ rfl)
     rw [← HXE.out] at n0
     have N0 := Lib.hid n0
     clear n0
     go_wp2
     go_loopw [4] (fun j_ w2 => ∃ j : Nat, j ≤ k ∧ j_ = .int .i64 j ∧ Below w1.heap.size w1 w2 ∧ Hid (∀ i, i < j → (xT l i).r.num ≠ x.r.num)) (fun j_ _ => k - (intOf j_).toNat)
     case atStart => exact ⟨0, Nat.zero_le _, rfl, Below.refl _ _, fun i hi => absurd hi (Nat.not_lt_zero _)⟩
     case round =>
       obtain ⟨j, hj, rfl, hbj, hal2⟩ := hrel
       have HB4 := Lib.hid (HB3.out.trans (hbj.mono HB3.out.size))
       by_cases hjk : j < k
       · have hjl : j < l.length := by omega
         have fj := HC.out j hjl
         obtain ⟨y, hye⟩ : ∃ y, y = xT l j := ⟨_, rfl⟩
         rw [← hye] at fj
         have HYE := Lib.hid hye
         have hbj2 : b < wr.heap.size := Nat.lt_of_lt_of_le hb HB4.out.size
         have c0 := (HB4.out.cell (p := ⟨b, off + j*11, none⟩) hb).trans (fj 0 _ rfl)
         have d0 := (hbj.cell (p := ⟨b, off + k*11, none⟩) (Nat.lt_of_lt_of_le hb HB3.out.size)).trans N0.out
         have hj0 : (0 : Int) ≤ (j : Int) := by omega
         have hj1 : (j : Int) < (l.length : Int) := by omega
         have hk0 : (0 : Int) ≤ (k : Int) := by omega
         have hk1 : (k : Int) < (l.length : Int) := by omega
         clear fj hye
         by_cases he : y.r.num = x.r.num
         · have heb : (y.r.num == x.r.num) = true := by simp [he]
           have fin : Hid (okRs (rls l) = false) := okRs_bad (k := k) (j := j) (by rw [rls_len]; exact hlt) hjk (by rw [rls_at, rls_at, ← HYE.out, ← HXE.out]; exact he)
           clear he
           go_wp2
           go_quiet (fail)
           go_wp2
           go_ret
           exact ⟨by rw [fin.out] <;> rfl, below_drewN HB4.out _⟩
         · have heb : (y.r.num == x.r.num) = false := by simp [he]
           have HE : Hid ((xT l j).r.num ≠ x.r.num) := by rw [Hid, ← HYE.out]; exact he
           clear he
           go_wp2
           go_quiet (fail)
           go_wp2
           go_roundw
           case rel => exact ⟨j + 1, by omega, by go_num, below_drewN hbj _, all_snoc hal2.out HE.out⟩
           case measure => simp [intOf]; omega
       · have hall2 : ∀ i, i < k + 1 → ∀ j, j < i → (xT l j).r.num ≠ (xT l i).r.num := by
           refine all_snoc hall.out fun i hi => ?_
           rw [← HXE.out]
           exact hal2.out i (by omega)
         have HA2 := Lib.hid hall2
         clear hall2
         go_wp2
         go_roundw
         case rel => exact ⟨k + 1, by omega, by go_num, HB4.out, HA2.out⟩
         case measure => simp [intOf]; omega
   · obtain rfl : k = l.length := by omega
     have fin : Hid (okRs (rls l) = decide ((l.length : Int) ≤ 6)) := by
       have := okRs_end (l := rls l) (fun k hk => by rw [rls_at]; exact HK.out _ (xT_mem (by rw [rls_len] at hk; exact hk))) (fun k hk j hj => by rw [rls_at, rls_at]; exact hall.out k (by rw [rls_len] at hk; exact hk) j hj)
       rw [rls_len] at this
       exact this
     go_wp2
     go_ret
     exact ⟨by rw [fin.out] <;> rfl, hbl⟩
end Go.Proofs.YtijofgaekmahkaaGreatDoor

namespace Go.Proofs.YtijofgaekmahkaaGreatDoor
open Go.RowKit
def Bx (W : World) (g : Nat) (cs : List Value) : Prop := g < W.heap.size ∧ ∀ i u, cs[i]? = some u → W.cell? ⟨g, i, none⟩ = some u
theorem Bx.new (w : World) (cs : List Value) (t : TypeId) : Bx (w.alloc (.cells cs.toArray t)) w.heap.size cs :=
 ⟨by simp, fun i u h => by rw [cell_of_row _ _ i _ _ _ (heap_alloc_new w _), List.getElem?_toArray, h]⟩
theorem Bx.below {W W' : World} {g B : Nat} {cs : List Value} (h : Bx W g cs) (hb : Below B W W') (hB : W.heap.size ≤ B) : Bx W' g cs :=
 ⟨Nat.lt_of_lt_of_le h.1 hb.size, fun i u hu => (hb.cell (p := ⟨g, i, none⟩) (Nat.lt_of_lt_of_le h.1 hB)).trans (h.2 i u hu)⟩
theorem Bx.grown {W W' : World} {g : Nat} {row : Option Nat} {cs : List Value} (h : Bx W g cs) (hg : W.grownBy W' row) (hr : row ≠ some g) : Bx W' g cs :=
 ⟨Nat.lt_of_lt_of_le h.1 hg.size, fun i u hu => (World.cell?_of_block (a := ⟨g, i, none⟩) (hg.block g h.1 (fun e => hr e.symm))).trans (h.2 i u hu)⟩
set_option maxHeartbeats 1000000 in
theorem hasNumber_any (l : List Int) (v : Value) (n : Int) (w : World) (hv : Rd w 1 v l.length (it l)) :
   Calls Tryz.prog 36 #[v, .int .i64 n] w fun e w' => e = .returned (.bool (hasQ l n)) ∧ w' = w := by
 have hm := hv.len
 unfold maxLen at hm
 obtain ⟨ao, cap, rfl, _, _, hr⟩ := hv.ints
 have HR := Lib.hid hr
 clear hr hv
 go_enter Tryz.func36, Tryz.ntmps36
 go_wp2
 go_loop [9] (fun i => ∃ k : Nat, k ≤ l.length ∧ i = .int .i64 k ∧ Hid (∀ j, j < k → iG l j ≠ n)) (fun i => l.length - (intOf i).toNat)
 case atStart => exact ⟨0, Nat.zero_le _, rfl, fun j hj => absurd hj (Nat.not_lt_zero _)⟩
 case round =>
   obtain ⟨k, hk, rfl, hall⟩ := hrel
   by_cases hlt : k < l.length
   · obtain ⟨b, off, rfl, hb, hcell⟩ := HR.out (by omega)
     have h0 := hcell k hlt
     clear hcell
     by_cases he : iG l k = n
     · have heb : (iG l k == n) = true := by simp [he]
       have fin := Lib.hid (hasQ_yes hlt he)
       clear he
       go_wp2
       go_ret
       exact ⟨by rw [fin.out] <;> rfl, rfl⟩
     · have heb : (iG l k == n) = false := by simp [he]
       have HE := Lib.hid he
       clear he
       go_wp2
       go_round
       case rel => exact ⟨k+1, by omega, by go_num, all_snoc hall.out HE.out⟩
       case measure => simp [intOf]; omega
   · obtain rfl : k = l.length := by omega
     have fin := Lib.hid (hasQ_no hall.out)
     go_wp2
     go_ret
     exact ⟨by rw [fin.out] <;> rfl, rfl⟩
set_option maxHeartbeats 1000000 in
theorem isIn_any (l : List Int) (v : Value) (n : Int) (w : World) (hv : Rd w 1 v l.length (it l)) :
   Calls Tryz.prog 88 #[v, .int .i64 n] w fun e w' => e = .returned (.bool (hasQ l n)) ∧ w' = w := by
 have hm := hv.len
 unfold maxLen at hm
 obtain ⟨ao, cap, rfl, _, _, hr⟩ := hv.ints
 have HR := Lib.hid hr
 clear hr hv
 go_enter Tryz.func88, Tryz.ntmps88
 go_wp2
 go_loop [5] (fun i => ∃ k : Nat, k ≤ l.length ∧ i = .int .i64 k ∧ Hid (∀ j, j < k → iG l j ≠ n)) (fun i => l.length - (intOf i).toNat)
 case atStart => exact ⟨0, Nat.zero_le _, rfl, fun j hj => absurd hj (Nat.not_lt_zero _)⟩
 case round =>
   obtain ⟨k, hk, rfl, hall⟩ := hrel
   by_cases hlt : k < l.length
   · obtain ⟨b, off, rfl, hb, hcell⟩ := HR.out (by omega)
     have h0 := hcell k hlt
     clear hcell
     by_cases he : iG l k = n
     · have heb : (iG l k == n) = true := by simp [he]
       have fin := Lib.hid (hasQ_yes hlt he)
       clear he
       go_wp2
       go_ret
       exact ⟨by rw [fin.out] <;> rfl, rfl⟩
     · have heb : (iG l k == n) = false := by simp [he]
       have HE := Lib.hid he
       clear he
       go_wp2
       go_round
       case rel => exact ⟨k+1, by omega, by go_num, all_snoc hall.out HE.out⟩
       case measure => simp [intOf]; omega
   · obtain rfl : k = l.length := by omega
     have fin := Lib.hid (hasQ_no hall.out)
     go_wp2
     go_ret
     exact ⟨by rw [fin.out] <;> rfl, rfl⟩
set_option maxHeartbeats 1000000 in
theorem couponsOk_any (l : List Int) (v : Value) (w : World) (hv : Rd w 1 v l.length (it l)) (hq : cpnQ l = true) :
   Calls Tryz.prog 110 #[v] w fun e w' => e = .returned (.bool true) ∧ w' = w := by
 obtain ⟨ao, cap, rfl, _, _, hr⟩ := hv.ints
 have HR := Lib.hid hr
 obtain ⟨hp, h3⟩ := cpnQ_pr hq
 have HP := Lib.hid hp
 clear hr hv hp hq
 go_enter Tryz.func110, Tryz.ntmps110
 go_wp2
 go_loop [7] (fun i => ∃ k : Nat, k ≤ l.length ∧ i = .int .i64 k) (fun i => l.length - (intOf i).toNat)
 case atStart => exact ⟨0, Nat.zero_le _, rfl⟩
 case round =>
   obtain ⟨k, hk, rfl⟩ := hrel
   by_cases hlt : k < l.length
   · obtain ⟨b, off, rfl, hb, hcell⟩ := HR.out (by omega)
     have h0 := hcell k hlt
     obtain ⟨p1, p2, p3⟩ := HP.out k hlt
     have hw : wi (iG l k) 1 9 = true := wi_true.2 ⟨p1, p2⟩
     by_cases hz : 0 < k
     · obtain ⟨j, rfl⟩ : ∃ j, k = j + 1 := ⟨k - 1, by omega⟩
       have g0 := hcell j (by omega)
       have hwr : IntKind.i64.wrap (j : Int) = (j : Int) := IntWalk.i64_in _ (by omega)
       have hj : j < l.length := by omega
       have hlt2 : decide (iG l (j + 1) ≤ iG l j) = false := by
         rw [Nat.add_sub_cancel] at p3
         simp; omega
       clear hcell p1 p2 p3
       go_wp2_with (go_at_call 35; refine (within_any _ _ _ _).mono ?_; rintro e w9 ⟨rfl, h9⟩; replace h9 := h9.symm; subst h9)
       go_round
       case rel => exact ⟨j+1+1, by omega, by go_num⟩
       case measure => simp [intOf]; omega
     · clear hcell p1 p2 p3
       go_wp2_with (go_at_call 35; refine (within_any _ _ _ _).mono ?_; rintro e w9 ⟨rfl, h9⟩; replace h9 := h9.symm; subst h9)
       go_round
       case rel => exact ⟨k+1, by omega, by go_num⟩
       case measure => simp [intOf]; omega
   · obtain rfl : k = l.length := by omega
     have fin : decide ((l.length : Int) ≤ 3) = true := by simp; omega
     go_wp2
     go_ret
     exact ⟨rfl, rfl⟩
set_option maxHeartbeats 1000000 in
theorem ascends_any (l : List Int) (v : Value) (w : World) (hv : Rd w 1 v l.length (it l)) (hq : cpnQ l = true) :
   Calls Tryz.prog 161 #[v] w fun e w' => e = .returned (.bool true) ∧ Below w.heap.size w w' := by
 obtain ⟨ao, cap, rfl, _, _, hr⟩ := hv.ints
 have HR := Lib.hid hr
 obtain ⟨hp, h3⟩ := cpnQ_pr hq
 have HP := Lib.hid hp
 clear hr hv hp hq
 go_enter Tryz.func161, Tryz.ntmps161
 go_wp2
 go_loopw [3] (fun i wr => ∃ k : Nat, k ≤ l.length ∧ i = .int .i64 ((k : Int) + 1) ∧ Below w.heap.size w wr) (fun i _ => l.length - (intOf i).toNat)
 case atStart => exact ⟨0, Nat.zero_le _, rfl, Below.refl _ _⟩
 case round =>
   obtain ⟨k, hk, rfl, hbl⟩ := hrel
   by_cases hlt : k + 1 < l.length
   · obtain ⟨b, off, rfl, hb, hcell⟩ := HR.out (by omega)
     have h0 := (hbl.cell (p := ⟨b, off + (k + 1), none⟩) hb).trans (hcell (k + 1) hlt)
     have h1 := (hbl.cell (p := ⟨b, off + k, none⟩) hb).trans (hcell k (by omega))
     have hbw : b < wr.heap.size := Nat.lt_of_lt_of_le hb hbl.size
     obtain ⟨p1, p2, p3⟩ := HP.out (k + 1) hlt
     have e1 : IntKind.i64.wrap ((k : Int) + 1 - 1) = (k : Int) := by rw [IntWalk.i64_in _ (by omega)]; omega
     have e2 : IntKind.i64.wrap (k : Int) = (k : Int) := IntWalk.i64_in _ (by omega)
     have hl2 : (k : Int) + 1 < (l.length : Int) := by omega
     have hk1 : k < l.length := by omega
     have hlt2 : decide (iG l (k + 1) ≤ iG l k) = false := by
       rw [Nat.add_sub_cancel] at p3
       simp; omega
     clear hcell p1 p2 p3
     go_wp2
     go_quiet (fail)
     go_wp2
     go_roundw
     case rel => exact ⟨k+1, by omega, by go_num, below_drewN hbl _⟩
     case measure => simp [intOf]; omega
   · have hl2 : decide ((k : Int) + 1 < (l.length : Int)) = false := by simp; omega
     go_wp2
     go_ret
     exact ⟨rfl, hbl⟩
set_option maxHeartbeats 1000000 in
theorem cpAllIn_any (l : List Int) (v : Value) (w : World) (hv : Rd w 1 v l.length (it l)) (hq : cpnQ l = true) :
   Calls Tryz.prog 162 #[v, .int .i64 1, .int .i64 9] w fun e w' => e = .returned (.bool true) ∧ w' = w := by
 obtain ⟨ao, cap, rfl, _, _, hr⟩ := hv.ints
 have HR := Lib.hid hr
 obtain ⟨hp, h3⟩ := cpnQ_pr hq
 have HP := Lib.hid hp
 clear hr hv hp hq
 go_enter Tryz.func162, Tryz.ntmps162
 go_wp2
 go_loop [7] (fun i => ∃ k : Nat, k ≤ l.length ∧ i = .int .i64 k) (fun i => l.length - (intOf i).toNat)
 case atStart => exact ⟨0, Nat.zero_le _, rfl⟩
 case round =>
   obtain ⟨k, hk, rfl⟩ := hrel
   by_cases hlt : k < l.length
   · obtain ⟨b, off, rfl, hb, hcell⟩ := HR.out (by omega)
     have h0 := hcell k hlt
     obtain ⟨p1, p2, p3⟩ := HP.out k hlt
     have hw : wi (iG l k) 1 9 = true := wi_true.2 ⟨p1, p2⟩
     clear hcell p1 p2 p3
     go_wp2_with (go_at_call 54; refine (inRange_any _ _ _ _).mono ?_; rintro e w9 ⟨rfl, h9⟩; replace h9 := h9.symm; subst h9)
     go_round
     case rel => exact ⟨k+1, by omega, by go_num⟩
     case measure => simp [intOf]; omega
   · obtain rfl : k = l.length := by omega
     go_wp2
     go_ret
     exact ⟨rfl, rfl⟩
set_option maxHeartbeats 1000000 in
theorem specCoupons_any (l : List Int) (v : Value) (w : World) (hv : Rd w 1 v l.length (it l)) (hq : cpnQ l = true) :
   Calls Tryz.prog 128 #[v] w fun e w' => e = .returned (.bool true) ∧ Below w.heap.size w w' := by
 have HV := Lib.hid hv
 have HQ := Lib.hid hq
 obtain ⟨ao, cap, rfl, _⟩ := hv.ints
 have h3 := (cpnQ_pr hq).2
 have fin : decide ((l.length : Int) ≤ 3) = true := by simp; omega
 clear hv hq h3
 go_enter Tryz.func128, Tryz.ntmps128
 go_wp2_with (first | (go_at_call 161; refine (ascends_any l _ _ HV.out HQ.out).mono ?_; rintro e w1 ⟨rfl, b1⟩) | (go_at_call 162; refine (cpAllIn_any l _ _ (HV.out.below b1 (Nat.le_refl _)) HQ.out).mono ?_; rintro e w9 ⟨rfl, h9⟩; replace h9 := h9.symm; subst h9))
 go_ret
 exact ⟨rfl, b1⟩
set_option maxHeartbeats 1000000 in
theorem inSpan_any (a b n : Int) (w : World) (h : okSp a b = true) :
   Calls Tryz.prog 115 #[.agg #[.int .i64 a, .int .i64 b], .int .i64 n] w fun e w' => e = .returned (.bool (wi n a b)) ∧ Below w.heap.size w w' := by
 have B0 := Bx.new w [.int .i64 a, .int .i64 b] 38
 have BB := Lib.hid B0
 have b0 : Below w.heap.size w (w.alloc (.cells #[.int .i64 a, .int .i64 b] 38)) := (Below.refl _ w).alloc (Nat.le_refl _) _
 have HB := Lib.hid b0
 clear B0 b0
 go_enter Tryz.func115, Tryz.ntmps115
 go_wp2_with (first | (go_at_call 142; refine (implSpan_any _ _ _).mono ?_; rintro e w1 ⟨rfl, b1⟩; rw [h]; have q := BB.out.below b1 (Nat.le_refl _); have c0 := q.2 0 _ rfl; have c1 := q.2 1 _ rfl; clear q) | (go_at_call 35; refine (within_any _ _ _ _).mono ?_; rintro e w9 ⟨rfl, h9⟩; replace h9 := h9.symm; subst h9))
 go_ret
 exact ⟨rfl, HB.out.trans (b1.mono HB.out.size)⟩
set_option maxHeartbeats 2000000 in
theorem pointOk_any (tot : Int) (cnt cp : List Int) (vc vp : Value) (w : World) (hc : Rd w 1 vc cnt.length (it cnt)) (hp : Rd w 1 vp cp.length (it cp)) (ht : wi tot 0 1000000 = true) (hn : cnt.length = 3) (hm : ∀ j, j < 3 → wi (iG cnt j) 0 1000000 = true) (hq : cpnQ cp = true) :
   Calls Tryz.prog 114 #[.agg #[.int .i64 tot, vc, vp]] w fun e w' => e = .returned (.bool true) ∧ Below w.heap.size w w' := by
 have HP := Lib.hid hp
 have HQ := Lib.hid hq
 have HM := Lib.hid hm
 rw [hn] at hc
 have HN := Lib.hid hn
 obtain ⟨_, ao, cap, rfl, _, _, hr⟩ := hc
 have HR := Lib.hid hr
 have B0 := Bx.new w [.int .i64 tot, .slice ao 3 cap, vp] 110
 have BB := Lib.hid B0
 have b0 : Below w.heap.size w (w.alloc (.cells #[.int .i64 tot, .slice ao 3 cap, vp] 110)) := (Below.refl _ w).alloc (Nat.le_refl _) _
 have HB := Lib.hid b0
 obtain ⟨po, pcap, rfl, _⟩ := hp.ints
 clear B0 b0 hr hp hq hm hn
 go_enter Tryz.func114, Tryz.ntmps114
 go_wp2
 go_loop [8] (fun i => ∃ k : Nat, k ≤ 3 ∧ i = .int .i64 k) (fun i => 3 - (intOf i).toNat)
 case atStart => exact ⟨0, Nat.zero_le _, rfl⟩
 case round =>
   obtain ⟨k, hk, rfl⟩ := hrel
   have c0 := BB.out.2 0 _ rfl
   have c1 := BB.out.2 1 _ rfl
   have c2 := BB.out.2 2 _ rfl
   by_cases hlt : k < 3
   · obtain ⟨b, off, rfl, hb, hcell⟩ := HR.out (by omega)
     have h0 := (HB.out.cell (p := ⟨b, off + k, none⟩) hb).trans (hcell k _ (it_get cnt k (by rw [HN.out]; exact hlt)))
     have hw := HM.out k hlt
     have hne : ¬ b = w.heap.size := by omega
     clear hcell
     go_wp2_with (go_at_call 107; refine (money_any _ _).mono ?_; rintro e w9 ⟨rfl, h9⟩; replace h9 := h9.symm; subst h9)
     go_round
     case rel => exact ⟨k+1, by omega, by go_num⟩
     case measure => simp [intOf]; omega
   · obtain rfl : k = 3 := by omega
     go_wp2_with (first | (go_at_call 107; refine (money_any _ _).mono ?_; rintro e w9 ⟨rfl, h9⟩; replace h9 := h9.symm; subst h9) | (go_at_call 110; refine (couponsOk_any cp _ _ (HP.out.below HB.out (Nat.le_refl _)) HQ.out).mono ?_; rintro e w9 ⟨rfl, h9⟩; replace h9 := h9.symm; subst h9))
     go_ret
     exact ⟨rfl, HB.out⟩
end Go.Proofs.YtijofgaekmahkaaGreatDoor

namespace Go.Proofs.YtijofgaekmahkaaGreatDoor
open Go.RowKit
def Rdr (w : World) (R : Nat) (u : Nat) : Prop :=
 ∃ (bs : List Int) (ao : Option Addr) (cap : Nat) (p : Nat), w.heap[R]? = some (.cells #[.slice ao bs.length cap, .int .i64 p] 58 (0, 0)) ∧ p ≤ u ∧ bs.length ≤ 2000 ∧
   (∀ x ∈ bs, 0 ≤ x ∧ x ≤ 255) ∧ (0 < bs.length → ∃ b off, ao = some ⟨b, off, none⟩ ∧ b < R ∧ ∀ k, k < bs.length → w.cell? ⟨b, off + k, none⟩ = some (.int .u8 (iG bs k)))
theorem Rdr.lt {w : World} {R u : Nat} (h : Rdr w R u) : R < w.heap.size := by
 obtain ⟨_, _, _, _, h1, _⟩ := h
 exact (Array.getElem?_eq_some_iff.1 h1).1
theorem Rdr.mono {w : World} {R u u' : Nat} (h : Rdr w R u) (hu : u ≤ u') : Rdr w R u' := by
 obtain ⟨bs, ao, cap, p, h1, h2, h3⟩ := h
 exact ⟨bs, ao, cap, p, h1, by omega, h3⟩
theorem Rdr.below {w w' : World} {R u B : Nat} (h : Rdr w R u) (hb : Below B w w') (hB : R < B) : Rdr w' R u := by
 obtain ⟨bs, ao, cap, p, h1, h2, h3, h4, h5⟩ := h
 refine ⟨bs, ao, cap, p, (hb.block R hB).trans h1, h2, h3, h4, fun hn => ?_⟩
 obtain ⟨b, off, e, hlt, hc⟩ := h5 hn
 exact ⟨b, off, e, hlt, fun k hk => (hb.cell (p := ⟨b, off + k, none⟩) (Nat.lt_trans hlt hB)).trans (hc k hk)⟩
structure RdrStep (w : World) (R u : Nat) (w' : World) : Prop where
 rdr : Rdr w' R u
 grown : w.grownBy w' (some R)
theorem RdrStep.refl {w : World} {R u : Nat} (h : Rdr w R u) : RdrStep w R u w := ⟨h, World.grownBy.refl _ _⟩
theorem RdrStep.trans {a b c : World} {R u u' : Nat} (h : RdrStep a R u b) (k : RdrStep b R u' c) : RdrStep a R u' c := ⟨k.1, grownBy_trans h.2 k.2⟩
theorem RdrStep.mono {a b : World} {R u u' : Nat} (h : RdrStep a R u b) (hu : u ≤ u') : RdrStep a R u' b := ⟨h.1.mono hu, h.2⟩
theorem RdrStep.below {a b c : World} {R u B : Nat} (h : RdrStep a R u b) (hb : Below B b c) (hR : R < B) (hB : a.heap.size ≤ B) : RdrStep a R u c :=
 ⟨h.1.below hb hR, ⟨hb.os.trans h.2.os, hb.tape.trans h.2.tape, hb.output.trans h.2.output, Nat.le_trans h.2.size hb.size, fun i hi hr => (hb.block i (Nat.lt_of_lt_of_le hi hB)).trans (h.2.block i hi hr)⟩⟩
theorem RdrStep.size {a b : World} {R u : Nat} (h : RdrStep a R u b) : a.heap.size ≤ b.heap.size := h.2.size
theorem RdrStep.drewN {a b : World} {R u : Nat} (h : RdrStep a R u b) (n : Nat) : RdrStep a R u (b.drewN n) := by
 refine h.below (B := b.heap.size) (below_drewN (Below.refl _ _) n) h.1.lt ?_
 exact h.size
theorem RdrStep.drew {a b : World} {R u : Nat} (h : RdrStep a R u b) : RdrStep a R u b.drew :=
 h.below (B := b.heap.size) (Below.drew (Below.refl _ _)) h.1.lt h.size
theorem RdrStep.alloc {a b : World} {R u : Nat} (h : RdrStep a R u b) (o : Obj) : RdrStep a R u (b.alloc o) :=
 h.below (B := b.heap.size) (Below.alloc (Below.refl _ _) (Nat.le_refl _) o) h.1.lt h.size
theorem Rdr.grown {w w' : World} {R u : Nat} {row : Option Nat} (h : Rdr w R u) (hg : w.grownBy w' row) (hr : ∀ k, row = some k → R < k) : Rdr w' R u := by
 have hR := h.lt
 obtain ⟨bs, ao, cap, p, h1, h2, h3, h4, h5⟩ := h
 refine ⟨bs, ao, cap, p, (hg.block R hR (fun e => by have := hr R e.symm; omega)).trans h1, h2, h3, h4, fun hn => ?_⟩
 obtain ⟨b, off, e, hlt, hc⟩ := h5 hn
 exact ⟨b, off, e, hlt, fun k hk => (World.cell?_of_block (a := ⟨b, off + k, none⟩) (hg.block b (by omega) (fun e => by have := hr b e.symm; omega))).trans (hc k hk)⟩
theorem RdrStep.own {a b c : World} {R u : Nat} {row : Option Nat} (h : RdrStep a R u b) (hR : R < a.heap.size) (hg : b.grownBy c row) (hr : ∀ k, row = some k → a.heap.size ≤ k) : RdrStep a R u c :=
 ⟨h.1.grown hg (fun k hk => by have := hr k hk; omega), grownBy_new h.2 hg hr⟩
theorem owns_step {w w' : World} {base e sz n R u : Nat} {v : Value} {xs : List Value} (h : w.ownsRow base e sz v n xs) (hs : RdrStep w R u w') (hR : R < base) : w'.ownsRow base e sz v n xs :=
 h.kept hs.2 (by
   cases hv : v.ownBlock with
   | none => exact .inl rfl
   | some k => right; intro e; have := (h.lt k hv).1; simp only [Option.some.injEq] at e; omega)
theorem Rd.step {w w' : World} {sz n R u : Nat} {v : Value} {xs : List Value} (h : Rd w sz v n xs) (hs : RdrStep w R u w') (hne : ∀ b off c k, v = .slice (some ⟨b, off, c⟩) n k → b ≠ R) : Rd w' sz v n xs := by
 obtain ⟨h1, ao, cap, h2, h3, h4, h5⟩ := h
 refine ⟨h1, ao, cap, h2, h3, h4, fun hn => ?_⟩
 obtain ⟨b, off, rfl, hlt, hc⟩ := h5 hn
 refine ⟨b, off, rfl, Nat.lt_of_lt_of_le hlt hs.2.size, fun j u hu => ?_⟩
 exact (World.cell?_of_block (a := ⟨b, off + j, none⟩) (hs.2.block b hlt (by have := hne b off none cap h2; simpa using this))).trans (hc j u hu)
theorem RdrStep.fresh {w w1 w2 : World} {R u : Nat} (h : RdrStep w1 R u w2) (hb : Below w.heap.size w w1) (hR : w.heap.size ≤ R) : Below w.heap.size w w2 :=
 ⟨h.2.os.trans hb.os, h.2.tape.trans hb.tape, h.2.output.trans hb.output, Nat.le_trans hb.size h.2.size,
   fun i hi => (h.2.block i (Nat.lt_of_lt_of_le hi hb.size) (fun e => by simp only [Option.some.injEq] at e; omega)).trans (hb.block i hi)⟩
theorem owns_base {w : World} {base base' e sz n : Nat} {v : Value} {xs : List Value} (h : w.ownsRow base e sz v n xs) (hb : base' ≤ base) : w.ownsRow base' e sz v n xs := by
 refine ⟨h.1, ?_⟩
 rcases h.2 with hn | ⟨g, cap, cur, rfl, hg, rest⟩
 · exact .inl hn
 · exact .inr ⟨g, cap, cur, rfl, by omega, rest⟩
theorem xor_nat (a b : Nat) (ha : a < 9223372036854775808) (hb : b < 9223372036854775808) : bits .xor .i64 (a : Int) (b : Int) = ((a ^^^ b : Nat) : Int) := by
 have hx : a ^^^ b < 2 ^ 63 := Nat.xor_lt_two_pow (by omega) (by omega)
 have h1 : (BitVec.ofInt 64 (a : Int)).toNat = a := by
   rw [BitVec.ofInt_natCast, BitVec.toNat_ofNat]; exact Nat.mod_eq_of_lt (by omega)
 have h2 : (BitVec.ofInt 64 (b : Int)).toNat = b := by
   rw [BitVec.ofInt_natCast, BitVec.toNat_ofNat]; exact Nat.mod_eq_of_lt (by omega)
 show IntKind.i64.wrap ((BitVec.ofInt 64 (a : Int) ^^^ BitVec.ofInt 64 (b : Int)).toNat : Int) = _
 rw [BitVec.toNat_xor, h1, h2, IntKind.wrap_i64]
 omega
theorem xor_nonneg (a b : Int) (ha : 0 ≤ a) (ha' : a ≤ 9223372036854775807) (hb : 0 ≤ b) (hb' : b ≤ 9223372036854775807) : 0 ≤ bits .xor .i64 a b := by
 obtain ⟨x, rfl⟩ := Int.eq_ofNat_of_zero_le ha
 obtain ⟨y, rfl⟩ := Int.eq_ofNat_of_zero_le hb
 have := xor_nat x y (by omega) (by omega)
 rw [this]
 exact Int.natCast_nonneg _
end Go.Proofs.YtijofgaekmahkaaGreatDoor
