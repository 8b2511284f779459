/- The program's FormatRule returns what the reference's returns, for all arguments. Conditions: none. -/
import Derived.Test.YtdofpealmngmiaaDoorRU
import Derived.Test.YtdofpealmngmiaaDoorRTB
import Derived.Test.YtdofpealmngmiaaDoorRH
namespace Go.Proofs.YtdofpealmngmiaaDoor
open Go.RowKit

set_option maxRecDepth 10000 in
set_option maxHeartbeats 4000000 in
theorem lawExactFormatRule (r : Rl) (v : Value) (w : World) (hv : Rd w 2 v r.counts.length (pr r.counts)) (hE : Env w) :
    Calls Tryd.prog 5 #[ruV r v] w fun e w' => e = .returned (.bool true) ∧ Below w.heap.size w w' := by
  have hm := hv.len
  unfold maxLen at hm
  obtain ⟨ao, cap, rfl, _⟩ := hv.pairs
  have b0 : Below w.heap.size w (w.alloc (.cells #[.int .i64 r.num, .int .i64 r.lvl, .int .i64 r.rank, .int .i64 r.group, .int .i64 r.kind, .int .i64 r.value, .int .i64 r.cap, .int .i64 r.lo, .int .i64 r.hi, .slice ao r.counts.length cap, .int .i64 r.coupon] 39)) := (Below.refl _ _).alloc (Nat.le_refl _) _
  have e0 := heap_alloc_new w (.cells #[.int .i64 r.num, .int .i64 r.lvl, .int .i64 r.rank, .int .i64 r.group, .int .i64 r.kind, .int .i64 r.value, .int .i64 r.cap, .int .i64 r.lo, .int .i64 r.hi, .slice ao r.counts.length cap, .int .i64 r.coupon] 39)
  have z0 : w.heap.size < (w.alloc (.cells #[.int .i64 r.num, .int .i64 r.lvl, .int .i64 r.rank, .int .i64 r.group, .int .i64 r.kind, .int .i64 r.value, .int .i64 r.cap, .int .i64 r.lo, .int .i64 r.hi, .slice ao r.counts.length cap, .int .i64 r.coupon] 39)).heap.size := by simp
  obtain ⟨⟨c0, c1, c2, c3, c4, c5, c6, c7, c8, c9, c10⟩, _⟩ := row11 e0
  have HV := Lib.hid hv
  have HE := Lib.hid hE
  have B0 := Lib.hid b0
  have E0 := Lib.hid e0
  clear hv hE b0 e0
  by_cases hn : r.counts.length ≤ 1048576
  · have hsz : Hid (szL 1048576 r.counts.length = 1048576 - r.counts.length) := by rw [Hid, szL, if_neg (by omega)]
    unfold ruV
    go_enter Tryd.func5, Tryd.ntmps5
    go_wp2_with fail
    refine (szRule_any r _ _ _ _ _ (by omega) (by omega) (by omega)).mono ?_
    rintro e w0 ⟨rfl, hb⟩
    rw [hsz.out]
    have hb0 := hb
    have hb := hb.mono (Nat.le_of_lt z0)
    have B1 := Lib.hid (B0.out.trans hb)
    have E1 := (hb0.block w.heap.size z0).trans E0.out
    have Z1 := Nat.lt_of_lt_of_le z0 hb0.size
    clear c0 c1 c2 c3 c4 c5 c6 c7 c8 c9 c10
    obtain ⟨⟨c0, c1, c2, c3, c4, c5, c6, c7, c8, c9, c10⟩, _⟩ := row11 E1
    clear hb hb0
    go_wp2_with fail
    refine (toRule_any r _ _ (HV.out.below B1.out (Nat.le_refl _)) hn).mono ?_
    rintro e w1 ⟨o1, rfl, ho1, hb⟩
    have hb := hb
    have B2 := Lib.hid (B1.out.trans (hb.mono B1.out.size))
    have E2 := (hb.block w.heap.size Z1).trans E1
    have Z2 := Nat.lt_of_lt_of_le Z1 hb.size
    clear c0 c1 c2 c3 c4 c5 c6 c7 c8 c9 c10
    obtain ⟨⟨c0, c1, c2, c3, c4, c5, c6, c7, c8, c9, c10⟩, _⟩ := row11 E2
    go_wp2_with fail
    refine (specFormat_any r _ _ (Rd.of_owns ho1)).mono ?_
    clear ho1 hb
    rintro e w2 ⟨rfl, hb⟩
    have B3 := Lib.hid (B2.out.trans (hb.mono B2.out.size))
    have E3 := (hb.block w.heap.size Z2).trans E2
    have Z3 := Nat.lt_of_lt_of_le Z2 hb.size
    clear c0 c1 c2 c3 c4 c5 c6 c7 c8 c9 c10
    obtain ⟨⟨c0, c1, c2, c3, c4, c5, c6, c7, c8, c9, c10⟩, _⟩ := row11 E3
    clear hb
    go_wp2_with fail
    refine (toRule_any r _ _ (HV.out.below B3.out (Nat.le_refl _)) hn).mono ?_
    rintro e w3 ⟨o2, rfl, ho2, hb⟩
    obtain ⟨xo, xcap, rfl, _⟩ := (Rd.of_owns ho2).pairs
    unfold ruV
    have B4 := Lib.hid (B3.out.trans (hb.mono B3.out.size))
    have E4 := (hb.block w.heap.size Z3).trans E3
    have Z4 := Nat.lt_of_lt_of_le Z3 hb.size
    clear c0 c1 c2 c3 c4 c5 c6 c7 c8 c9 c10
    obtain ⟨⟨c0, c1, c2, c3, c4, c5, c6, c7, c8, c9, c10⟩, _⟩ := row11 E4
    have ha : Below w3.heap.size w3 (w3.alloc (.cells #[.int .i64 r.num, .int .i64 r.lvl, .int .i64 r.rank, .int .i64 r.group, .int .i64 r.kind, .int .i64 r.value, .int .i64 r.cap, .int .i64 r.lo, .int .i64 r.hi, .slice xo r.counts.length xcap, .int .i64 r.coupon] 29)) := (Below.refl _ _).alloc (Nat.le_refl _) _
    have X4 := heap_alloc_new w3 (.cells #[.int .i64 r.num, .int .i64 r.lvl, .int .i64 r.rank, .int .i64 r.group, .int .i64 r.kind, .int .i64 r.value, .int .i64 r.cap, .int .i64 r.lo, .int .i64 r.hi, .slice xo r.counts.length xcap, .int .i64 r.coupon] 29)
    have ho2 := Lib.hid (ho2.alloc (.cells #[.int .i64 r.num, .int .i64 r.lvl, .int .i64 r.rank, .int .i64 r.group, .int .i64 r.kind, .int .i64 r.value, .int .i64 r.cap, .int .i64 r.lo, .int .i64 r.hi, .slice xo r.counts.length xcap, .int .i64 r.coupon] 29))
    clear hb
    have hb := ha
    have z5 : (w3.alloc (.cells #[.int .i64 r.num, .int .i64 r.lvl, .int .i64 r.rank, .int .i64 r.group, .int .i64 r.kind, .int .i64 r.value, .int .i64 r.cap, .int .i64 r.lo, .int .i64 r.hi, .slice xo r.counts.length xcap, .int .i64 r.coupon] 29)).heap.size = w3.heap.size + 1 := by simp
    have B5 := Lib.hid (B4.out.trans (hb.mono B4.out.size))
    have E5 := (hb.block w.heap.size Z4).trans E4
    have Z5 := Nat.lt_of_lt_of_le Z4 hb.size
    clear c0 c1 c2 c3 c4 c5 c6 c7 c8 c9 c10
    obtain ⟨⟨c0, c1, c2, c3, c4, c5, c6, c7, c8, c9, c10⟩, _⟩ := row11 E5
    obtain ⟨⟨d0, d1, d2, d3, d4, d5, d6, d7, d8, d9, d10⟩, _⟩ := row11 X4
    clear hb ha
    go_wp2_with fail
    refine (implFormat_any r _ _ (HE.out.below B5.out) (Rd.of_owns ho2.out)).mono ?_
    rintro e w5 ⟨rfl, hb⟩
    have X6 := (hb.block w3.heap.size (by omega)).trans X4
    have ho6 := Lib.hid (ownsRow_below ho2.out hb (Nat.le_refl _))
    have Z7 := hb.size
    clear d0 d1 d2 d3 d4 d5 d6 d7 d8 d9 d10
    obtain ⟨⟨d0, d1, d2, d3, d4, d5, d6, d7, d8, d9, d10⟩, _⟩ := row11 X6
    have B6 := Lib.hid (B5.out.trans (hb.mono B5.out.size))
    have E6 := (hb.block w.heap.size Z5).trans E5
    have Z6 := Nat.lt_of_lt_of_le Z5 hb.size
    clear c0 c1 c2 c3 c4 c5 c6 c7 c8 c9 c10
    obtain ⟨⟨c0, c1, c2, c3, c4, c5, c6, c7, c8, c9, c10⟩, _⟩ := row11 E6
    clear hb ho2
    go_wp2
    have bd := B6.out.drew
    have T6 : Calls Tryd.prog 14 #[.agg #[.int .i64 r.num, .int .i64 r.lvl, .int .i64 r.rank, .int .i64 r.group, .int .i64 r.kind, .int .i64 r.value, .int .i64 r.cap, .int .i64 r.lo, .int .i64 r.hi, .slice ao r.counts.length cap, .int .i64 r.coupon]] w5.drew _ := toRule_any r _ _ (HV.out.below bd (Nat.le_refl _)) hn
    have T6 := Lib.hid T6
    clear bd
    go_region_with (first
      | (go_at_call 14; refine T6.out.mono ?_; rintro e w7 ⟨o7, rfl, ho7, hb7⟩; have hb7 : Below w5.heap.size w5 w7 := ((Below.refl _ w5).drew).trans hb7; obtain ⟨⟨d0, d1, d2, d3, d4, d5, d6, d7, d8, d9, d10⟩, _⟩ := row11 ((hb7.block w3.heap.size (by omega)).trans X6))
      | (go_at_call 15; refine (eqRule_any r _ _ _ (Rd.of_owns (ownsRow_below ho6.out hb7 (Nat.le_refl _))) (Rd.of_owns ho7)).mono ?_; rintro e w8 ⟨rfl, hb8⟩))
    all_goals go_wp2
    all_goals go_ret
    all_goals exact ⟨rfl, B6.out.trans ((hb7.trans (hb8.mono hb7.size)).mono B6.out.size)⟩
  · have hsz : Hid (szL 1048576 r.counts.length = -1) := by rw [Hid, szL, if_pos (by omega)]
    unfold ruV
    go_enter Tryd.func5, Tryd.ntmps5
    go_wp2_with (go_at_call 13; refine (szRule_any r _ _ _ _ _ (by omega) (by omega) (by omega)).mono ?_; rintro e w0 ⟨rfl, hb⟩; rw [hsz.out])
    go_ret
    exact ⟨rfl, B0.out.trans (hb.mono (Nat.le_of_lt z0))⟩

end Go.Proofs.YtdofpealmngmiaaDoor
