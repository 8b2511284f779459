/- The program's ValidRule answers as the reference's, as FormatRule and as IsClear of the rule alone; for all arguments. Conditions: none. -/
import Derived.Test.YtdofpealmngmiaaDoorVR
import Derived.Test.YtdofpealmngmiaaDoorTW
namespace Go.Proofs.YtdofpealmngmiaaDoor
open Go.RowKit

set_option maxHeartbeats 4000000 in
theorem isClear_one (r : Rl) (ao : Option Addr) (cap b : Nat) (w : World) (hr : Rd w 2 (.slice ao r.counts.length cap) r.counts.length (pr r.counts)) (hb : w.heap[b]? = some (.cells #[.int .i64 r.num, .int .i64 r.lvl, .int .i64 r.rank, .int .i64 r.group, .int .i64 r.kind, .int .i64 r.value, .int .i64 r.cap, .int .i64 r.lo, .int .i64 r.hi, .slice ao r.counts.length cap, .int .i64 r.coupon] 29 (0, 0))) :
    Calls Tryd.prog 19 #[.slice (some ⟨b, 0, none⟩) 1 1] w fun e w' => e = .returned (.bool (okRu r)) ∧ Below w.heap.size w w' := by
  have HB := Lib.hid hb
  have HR := Lib.hid hr
  have lb := (Array.getElem?_eq_some_iff.1 hb).1
  clear hr hb
  cases hok : okRu r
  · go_enter Tryd.func19, Tryd.ntmps19
    go_wp2_with fail
    refine (validRules_one r _ _ b _ HR.out HB.out).mono ?_
    rintro e w1 ⟨rfl, hb1⟩
    rw [hok]
    go_wp2
    go_ret
    exact ⟨rfl, hb1⟩
  · go_enter Tryd.func19, Tryd.ntmps19
    go_wp2_with fail
    refine (validRules_one r _ _ b _ HR.out HB.out).mono ?_
    rintro e w1 ⟨rfl, hb1⟩
    rw [hok]
    have HB1 := Lib.hid hb1
    clear hb1
    go_wp2_with fail
    refine (allConflicts_one r _ _ b _ (HR.out.below HB1.out (Nat.le_refl _)) ((HB1.out.block b lb).trans HB.out) hok).mono ?_
    rintro e w2 ⟨⟨o, c, rfl⟩, hb2⟩
    go_wp2
    go_ret
    exact ⟨rfl, HB1.out.trans (hb2.mono HB1.out.size)⟩

set_option maxRecDepth 100000 in
set_option maxHeartbeats 4000000 in
theorem lawValidRule (z : List Int) (v : Value) (w : World) (hv : Rd w 1 v z.length (z.map (Value.int .u8))) (hz : ∀ x ∈ z, 0 ≤ x ∧ x ≤ 255) (hE : Env w) :
    Calls Tryd.prog 6 #[v] w fun e w' => e = .returned (.bool true) ∧ Below w.heap.size w w' := by
  have HV := Lib.hid hv
  have HE := Lib.hid hE
  have hm := hv.len
  unfold maxLen at hm
  obtain ⟨_, bo, bcap, rfl, _⟩ := hv
  clear hE
  by_cases hbig : 1048576 < z.length
  · go_enter Tryd.func6, Tryd.ntmps6
    go_wp2
    go_ret
    exact ⟨rfl, Below.refl _ _⟩
  · go_enter Tryd.func6, Tryd.ntmps6
    go_wp2_with fail
    refine (DrawValidRule_any z _ w HV.out hz).mono ?_
    rintro e w1 ⟨r, v', rfl, O1, l1, B1⟩
    unfold ruV
    obtain ⟨ao, cap, rfl, _⟩ := owns_shape O1
    have a1 := heap_alloc_new w1 (.cells #[.int .i64 r.num, .int .i64 r.lvl, .int .i64 r.rank, .int .i64 r.group, .int .i64 r.kind, .int .i64 r.value, .int .i64 r.cap, .int .i64 r.lo, .int .i64 r.hi, .slice ao r.counts.length cap, .int .i64 r.coupon] 29)
    have O2 := Lib.hid (O1.alloc (.cells #[.int .i64 r.num, .int .i64 r.lvl, .int .i64 r.rank, .int .i64 r.group, .int .i64 r.kind, .int .i64 r.value, .int .i64 r.cap, .int .i64 r.lo, .int .i64 r.hi, .slice ao r.counts.length cap, .int .i64 r.coupon] 29))
    have B2 := Lib.hid (B1.alloc B1.size (.cells #[.int .i64 r.num, .int .i64 r.lvl, .int .i64 r.rank, .int .i64 r.group, .int .i64 r.kind, .int .i64 r.value, .int .i64 r.cap, .int .i64 r.lo, .int .i64 r.hi, .slice ao r.counts.length cap, .int .i64 r.coupon] 29))
    have zz : w1.heap.size < (w1.alloc (.cells #[.int .i64 r.num, .int .i64 r.lvl, .int .i64 r.rank, .int .i64 r.group, .int .i64 r.kind, .int .i64 r.value, .int .i64 r.cap, .int .i64 r.lo, .int .i64 r.hi, .slice ao r.counts.length cap, .int .i64 r.coupon] 29)).heap.size := by simp
    have A1 := Lib.hid a1
    obtain ⟨⟨c0, c1, c2, c3, c4, c5, c6, c7, c8, c9, c10⟩, _⟩ := row11 a1
    clear a1 O1
    have z2 := zz
    have R2 := Lib.hid (Rd.of_owns O2.out)
    have A2 := A1
    obtain ⟨⟨c0, c1, c2, c3, c4, c5, c6, c7, c8, c9, c10⟩, _⟩ := row11 A2.out
    clear A1 O2 zz
    cases hok : okRu r
    · have hT : Hid (fmtR r = []) := by show fmtR r = []; unfold fmtR; rw [hok]; rfl
      go_wp2_with fail
      refine (implRule_any r _ _ R2.out).mono ?_
      rintro e w3 ⟨rfl, hb⟩
      rw [hok]
      clear c0 c1 c2 c3 c4 c5 c6 c7 c8 c9 c10
      have a3 := (hb.block w1.heap.size z2).trans A2.out
      have z3 := (Array.getElem?_eq_some_iff.1 a3).1
      have R3 := Lib.hid (R2.out.below hb (Nat.le_refl _))
      have B3 := Lib.hid (B2.out.trans (hb.mono B2.out.size))
      obtain ⟨⟨c0, c1, c2, c3, c4, c5, c6, c7, c8, c9, c10⟩, _⟩ := row11 a3
      have A3 := Lib.hid a3
      clear a3 hb A2 B2 R2
      go_wp2_with fail
      refine (specRule_any r _ _ R3.out).mono ?_
      rintro e w4 ⟨rfl, hb⟩
      rw [hok]
      clear c0 c1 c2 c3 c4 c5 c6 c7 c8 c9 c10
      have a4 := (hb.block w1.heap.size z3).trans A3.out
      have z4 := (Array.getElem?_eq_some_iff.1 a4).1
      have R4 := Lib.hid (R3.out.below hb (Nat.le_refl _))
      have B4 := Lib.hid (B3.out.trans (hb.mono B3.out.size))
      obtain ⟨⟨c0, c1, c2, c3, c4, c5, c6, c7, c8, c9, c10⟩, _⟩ := row11 a4
      have A4 := Lib.hid a4
      clear a4 hb A3 B3 R3
      go_wp2_with fail
      refine (implFormat_any r _ _ (HE.out.below B4.out) R4.out).mono ?_
      rintro e w5 ⟨rfl, hb⟩
      rw [hT.out]
      clear c0 c1 c2 c3 c4 c5 c6 c7 c8 c9 c10
      have a5 := (hb.block w1.heap.size z4).trans A4.out
      have z5 := (Array.getElem?_eq_some_iff.1 a5).1
      have R5 := Lib.hid (R4.out.below hb (Nat.le_refl _))
      have B5 := Lib.hid (B4.out.trans (hb.mono B4.out.size))
      obtain ⟨⟨c0, c1, c2, c3, c4, c5, c6, c7, c8, c9, c10⟩, _⟩ := row11 a5
      have A5 := Lib.hid a5
      clear a5 hb A4 B4 R4
      have ba : Below w5.heap.size w5 (w5.alloc (.cells #[.int .i64 r.num, .int .i64 r.lvl, .int .i64 r.rank, .int .i64 r.group, .int .i64 r.kind, .int .i64 r.value, .int .i64 r.cap, .int .i64 r.lo, .int .i64 r.hi, .slice ao r.counts.length cap, .int .i64 r.coupon] 29)) := (Below.refl _ _).alloc (Nat.le_refl _) _
      have a6 := heap_alloc_new w5 (.cells #[.int .i64 r.num, .int .i64 r.lvl, .int .i64 r.rank, .int .i64 r.group, .int .i64 r.kind, .int .i64 r.value, .int .i64 r.cap, .int .i64 r.lo, .int .i64 r.hi, .slice ao r.counts.length cap, .int .i64 r.coupon] 29)
      have R6 := Lib.hid (R5.out.below ba (Nat.le_refl _))
      have B6 := Lib.hid (B5.out.trans (ba.mono B5.out.size))
      have A6 := Lib.hid a6
      clear ba a6
      go_wp2_with fail
      refine (isClear_one r _ _ _ _ R6.out A6.out).mono ?_
      rintro e w6 ⟨rfl, hb⟩
      rw [hok]
      go_wp2
      go_ret
      exact ⟨rfl, B6.out.trans (hb.mono B6.out.size)⟩
    · have hT : Hid (fmtR r = textR r) := by show fmtR r = _; unfold fmtR; rw [hok]; rfl
      have hne : (textR r == []) = false := by simpa using text_ne r
      go_wp2_with fail
      refine (implRule_any r _ _ R2.out).mono ?_
      rintro e w3 ⟨rfl, hb⟩
      rw [hok]
      clear c0 c1 c2 c3 c4 c5 c6 c7 c8 c9 c10
      have a3 := (hb.block w1.heap.size z2).trans A2.out
      have z3 := (Array.getElem?_eq_some_iff.1 a3).1
      have R3 := Lib.hid (R2.out.below hb (Nat.le_refl _))
      have B3 := Lib.hid (B2.out.trans (hb.mono B2.out.size))
      obtain ⟨⟨c0, c1, c2, c3, c4, c5, c6, c7, c8, c9, c10⟩, _⟩ := row11 a3
      have A3 := Lib.hid a3
      clear a3 hb A2 B2 R2
      go_wp2_with fail
      refine (specRule_any r _ _ R3.out).mono ?_
      rintro e w4 ⟨rfl, hb⟩
      rw [hok]
      clear c0 c1 c2 c3 c4 c5 c6 c7 c8 c9 c10
      have a4 := (hb.block w1.heap.size z3).trans A3.out
      have z4 := (Array.getElem?_eq_some_iff.1 a4).1
      have R4 := Lib.hid (R3.out.below hb (Nat.le_refl _))
      have B4 := Lib.hid (B3.out.trans (hb.mono B3.out.size))
      obtain ⟨⟨c0, c1, c2, c3, c4, c5, c6, c7, c8, c9, c10⟩, _⟩ := row11 a4
      have A4 := Lib.hid a4
      clear a4 hb A3 B3 R3
      go_wp2_with fail
      refine (implFormat_any r _ _ (HE.out.below B4.out) R4.out).mono ?_
      rintro e w5 ⟨rfl, hb⟩
      rw [hT.out]
      clear c0 c1 c2 c3 c4 c5 c6 c7 c8 c9 c10
      have a5 := (hb.block w1.heap.size z4).trans A4.out
      have z5 := (Array.getElem?_eq_some_iff.1 a5).1
      have R5 := Lib.hid (R4.out.below hb (Nat.le_refl _))
      have B5 := Lib.hid (B4.out.trans (hb.mono B4.out.size))
      obtain ⟨⟨c0, c1, c2, c3, c4, c5, c6, c7, c8, c9, c10⟩, _⟩ := row11 a5
      have A5 := Lib.hid a5
      clear a5 hb A4 B4 R4
      have ba : Below w5.heap.size w5 (w5.alloc (.cells #[.int .i64 r.num, .int .i64 r.lvl, .int .i64 r.rank, .int .i64 r.group, .int .i64 r.kind, .int .i64 r.value, .int .i64 r.cap, .int .i64 r.lo, .int .i64 r.hi, .slice ao r.counts.length cap, .int .i64 r.coupon] 29)) := (Below.refl _ _).alloc (Nat.le_refl _) _
      have a6 := heap_alloc_new w5 (.cells #[.int .i64 r.num, .int .i64 r.lvl, .int .i64 r.rank, .int .i64 r.group, .int .i64 r.kind, .int .i64 r.value, .int .i64 r.cap, .int .i64 r.lo, .int .i64 r.hi, .slice ao r.counts.length cap, .int .i64 r.coupon] 29)
      have R6 := Lib.hid (R5.out.below ba (Nat.le_refl _))
      have B6 := Lib.hid (B5.out.trans (ba.mono B5.out.size))
      have A6 := Lib.hid a6
      clear ba a6
      go_wp2_with fail
      refine (isClear_one r _ _ _ _ R6.out A6.out).mono ?_
      rintro e w6 ⟨rfl, hb⟩
      rw [hok]
      go_wp2
      go_ret
      exact ⟨rfl, B6.out.trans (hb.mono B6.out.size)⟩

end Go.Proofs.YtdofpealmngmiaaDoor
