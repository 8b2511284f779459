/- Walks: weights of carts. Conditions: none. -/
import Derived.Test.YtomapdedajdkkaaCA
namespace Go.Proofs.Ytomapdedajdkkaa
open Go.RowKit

set_option maxHeartbeats 2000000 in
theorem implWeight_any (s : List Art) (u : Value) (c : List (Int × Int)) (v : Value) (w : World) (hs : Rd w 4 u s.length (ar s)) (hv : Rd w 2 v c.length (pr c)) :
    Calls Try.prog 14 #[u, v] w fun e w' => e = .returned (.int .i64 (fWeight s c)) ∧ Below w.heap.size w w' := by
  have HV := Lib.hid hv
  have HS := Lib.hid hs
  have hm := hs.len
  have hm2 := hv.len
  unfold maxLen at hm hm2
  obtain ⟨so, scap, rfl, _, _, hrs⟩ := hs.arts
  obtain ⟨co, ccap, rfl, _, _, hrc⟩ := hv.pairs
  have HRS := Lib.hid hrs
  have HRC := Lib.hid hrc
  clear hv hs hrs hrc
  cases hp : vCart s c
  · have fin := Lib.hid (fWeight_no hp)
    go_enter Try.func14, Try.ntmps14
    go_wp2_with (go_at_call 45; refine (implCart_any s _ c _ _ HS.out HV.out).mono ?_; rintro e w1 ⟨rfl, hb1⟩)
    go_ret
    exact ⟨by rw [fin.out]; rfl, hb1⟩
  · have fin := Lib.hid (fWeight_yes hp)
    have HOK := Lib.hid hp
    go_enter Try.func14, Try.ntmps14
    go_wp2_with (go_at_call 45; refine (implCart_any s _ c _ _ HS.out HV.out).mono ?_; rintro e w1 ⟨rfl, hb1⟩)
    go_loopw [5, 14] (fun n i wr => ∃ k : Nat, k ≤ c.length ∧ i = .int .i64 k ∧ n = .int .i64 (wt s c k) ∧ Below w.heap.size w wr) (fun _ i _ => c.length - (intOf i).toNat)
    case atStart => exact ⟨0, Nat.zero_le _, rfl, rfl, hb1⟩
    case round =>
      clear hb1 hp
      obtain ⟨k, hk, rfl, rfl, hbl⟩ := hrel
      by_cases hlt : k < c.length
      · obtain ⟨h4, h5, h6, h7, h8, h9⟩ := art_in HOK.out hlt
        obtain ⟨b, off, rfl, hb, hcell⟩ := HRC.out (by omega)
        obtain ⟨sb, soff, rfl, hsb, hscell⟩ := HRS.out (by omega)
        obtain ⟨a, ha⟩ := Int.eq_ofNat_of_zero_le h5
        rw [ha, Int.toNat_natCast] at h4 h9
        have g0 := (hbl.cell (p := ⟨b, off + k*2, none⟩) hb).trans (hcell k hlt).1
        have g1 := (hbl.cell (p := ⟨b, off + k*2+1, none⟩) hb).trans (hcell k hlt).2
        have g3 := (hbl.cell (p := ⟨sb, soff + a*4+3, none⟩) hsb).trans (hscell a h4).2.2.2
        have hbw : b < wr.heap.size := Nat.lt_of_lt_of_le hb hbl.size
        have hsbw : sb < wr.heap.size := Nat.lt_of_lt_of_le hsb hbl.size
        have hwb := wt_bd HOK.out k hk
        have hwa := wtAt_bd HOK.out hlt
        have hfin : wt s c (k + 1) = wt s c k + (aT s a).w * pB c k := by
          show wt s c k + wtAt s c k = _
          unfold wtAt; rw [ha, Int.toNat_natCast]
        have hwe : wtAt s c k = (aT s a).w * pB c k := by unfold wtAt; rw [ha, Int.toNat_natCast]
        rw [hwe] at hwa
        rw [ha] at g0
        have hk8 := (vLines_all (vCart_pr HOK.out).2).2
        have HF := Lib.hid hfin
        clear hfin hwe ha hcell hscell h5 h6 h7 h8 h9
        obtain ⟨x, hx⟩ : ∃ x, x = (aT s a).w := ⟨_, rfl⟩
        obtain ⟨y, hy⟩ : ∃ y, y = pB c k := ⟨_, rfl⟩
        rw [← hx, ← hy] at HF hwa
        rw [← hx] at g3
        rw [← hy] at g1
        clear hx hy
        obtain ⟨hw1, hw2⟩ := hwb
        obtain ⟨hw3, hw4⟩ := hwa
        have e1 : IntKind.i64.wrap (x * y) = x * y := IntWalk.i64_in _ (by omega)
        have e2 : IntKind.i64.wrap (wt s c k + x * y) = wt s c k + x * y := IntWalk.i64_in _ (by omega)
        have ha0 : (0 : Int) ≤ (a : Int) := by omega
        have ha1 : (a : Int) < (s.length : Int) := by omega
        go_wp2
        go_quiet (fail)
        clear e1 e2
        go_wp2
        go_roundw
        case rel => exact ⟨k+1, by omega, by go_num, by rw [HF.out], below_drewN (hbl.alloc hbl.size _) _⟩
        case measure => simp [intOf]; omega
      · obtain rfl : k = c.length := by omega
        go_wp2
        go_ret
        exact ⟨by rw [fin.out]; rfl, hbl⟩

set_option maxHeartbeats 2000000 in
theorem specWeight_any (s : List Art) (u : Value) (c : List (Int × Int)) (v : Value) (w : World) (hs : Rd w 4 u s.length (ar s)) (hv : Rd w 2 v c.length (pr c)) :
    Calls Try.prog 15 #[u, v] w fun e w' => e = .returned (.int .i64 (fWeight s c)) ∧ Below w.heap.size w w' := by
  have HV := Lib.hid hv
  have HS := Lib.hid hs
  have hm := hs.len
  have hm2 := hv.len
  unfold maxLen at hm hm2
  obtain ⟨so, scap, rfl, _, _, hrs⟩ := hs.arts
  obtain ⟨co, ccap, rfl, _, _, hrc⟩ := hv.pairs
  have HRS := Lib.hid hrs
  have HRC := Lib.hid hrc
  clear hv hs hrs hrc
  cases hp : vShop s
  · have fin := Lib.hid (fWeight_no (vCart_s (c := c) hp))
    go_enter Try.func15, Try.ntmps15
    go_wp2_with (go_at_call 46; refine (specShop_in s _ _ HS.out).mono ?_; rintro e w1 ⟨rfl, hb1⟩)
    go_ret
    exact ⟨by rw [fin.out]; rfl, hb1⟩
  cases hq : vLines s.length c
  · have fin := Lib.hid (fWeight_no (vCart_l hq))
    go_enter Try.func15, Try.ntmps15
    go_wp2_with (first | (go_at_call 46; refine (specShop_in s _ _ HS.out).mono ?_; rintro e w1 ⟨rfl, hb1⟩) | (go_at_call 47; refine (specCart_in _ _ _ c _ _ (HV.out.below hb1 (Nat.le_refl _)) (by omega)).mono ?_; rintro e w2 ⟨rfl, hb2⟩))
    go_ret
    exact ⟨by rw [fin.out]; rfl, hb1.trans (hb2.mono hb1.size)⟩
  · have HOK := Lib.hid (vCart_y hp hq)
    have fin := Lib.hid (fWeight_yes HOK.out)
    go_enter Try.func15, Try.ntmps15
    go_wp2_with (first | (go_at_call 46; refine (specShop_in s _ _ HS.out).mono ?_; rintro e w1 ⟨rfl, hb1⟩) | (go_at_call 47; refine (specCart_in _ _ _ c _ _ (HV.out.below hb1 (Nat.le_refl _)) (by omega)).mono ?_; rintro e w2 ⟨rfl, hb2⟩))
    go_loopw [5, 6] (fun n i wr => ∃ k : Nat, k ≤ c.length ∧ i = .int .i64 k ∧ n = .int .i64 (wt s c k) ∧ Below w.heap.size w wr) (fun _ i _ => c.length - (intOf i).toNat)
    case atStart => exact ⟨0, Nat.zero_le _, rfl, rfl, hb1.trans (hb2.mono hb1.size)⟩
    case round =>
      clear hb1 hb2 hp hq
      obtain ⟨k, hk, rfl, rfl, hbl⟩ := hrel
      by_cases hlt : k < c.length
      · obtain ⟨h4, h5, h6, h7, h8, h9⟩ := art_in HOK.out hlt
        obtain ⟨b, off, rfl, hb, hcell⟩ := HRC.out (by omega)
        obtain ⟨sb, soff, rfl, hsb, hscell⟩ := HRS.out (by omega)
        obtain ⟨a, ha⟩ := Int.eq_ofNat_of_zero_le h5
        rw [ha, Int.toNat_natCast] at h4 h9
        have g0 := (hbl.cell (p := ⟨b, off + k*2, none⟩) hb).trans (hcell k hlt).1
        have g1 := (hbl.cell (p := ⟨b, off + k*2+1, none⟩) hb).trans (hcell k hlt).2
        have g3 := (hbl.cell (p := ⟨sb, soff + a*4+3, none⟩) hsb).trans (hscell a h4).2.2.2
        have hbw : b < wr.heap.size := Nat.lt_of_lt_of_le hb hbl.size
        have hsbw : sb < wr.heap.size := Nat.lt_of_lt_of_le hsb hbl.size
        have hwb := wt_bd HOK.out k hk
        have hwa := wtAt_bd HOK.out hlt
        have hfin : wt s c (k + 1) = wt s c k + (aT s a).w * pB c k := by
          show wt s c k + wtAt s c k = _
          unfold wtAt; rw [ha, Int.toNat_natCast]
        have hwe : wtAt s c k = (aT s a).w * pB c k := by unfold wtAt; rw [ha, Int.toNat_natCast]
        rw [hwe] at hwa
        rw [ha] at g0
        have hk8 := (vLines_all (vCart_pr HOK.out).2).2
        have HF := Lib.hid hfin
        clear hfin hwe ha hcell hscell h5 h6 h7 h8 h9
        obtain ⟨x, hx⟩ : ∃ x, x = (aT s a).w := ⟨_, rfl⟩
        obtain ⟨y, hy⟩ : ∃ y, y = pB c k := ⟨_, rfl⟩
        rw [← hx, ← hy] at HF hwa
        rw [← hx] at g3
        rw [← hy] at g1
        clear hx hy
        obtain ⟨hw1, hw2⟩ := hwb
        obtain ⟨hw3, hw4⟩ := hwa
        have e1 : IntKind.i64.wrap (x * y) = x * y := IntWalk.i64_in _ (by omega)
        have e2 : IntKind.i64.wrap (wt s c k + x * y) = wt s c k + x * y := IntWalk.i64_in _ (by omega)
        have ha0 : (0 : Int) ≤ (a : Int) := by omega
        have ha1 : (a : Int) < (s.length : Int) := by omega
        go_wp2
        go_quiet (fail)
        clear e1 e2
        go_wp2
        go_roundw
        case rel => exact ⟨k+1, by omega, by go_num, by rw [HF.out], below_drewN hbl _⟩
        case measure => simp [intOf]; omega
      · obtain rfl : k = c.length := by omega
        go_wp2
        go_ret
        exact ⟨by rw [fin.out]; rfl, hbl⟩

end Go.Proofs.Ytomapdedajdkkaa
