/- Walks: one rule in a list: is it valid, is it in conflict with itself. Conditions: none. -/
import Derived.Test.YtdofpealmngmiaaDoorRC
import Derived.Test.YtdofpealmngmiaaDoorRL
import Derived.Test.YtdofpealmngmiaaDoorShelf
namespace Go.Proofs.YtdofpealmngmiaaDoor
open Go.RowKit

theorem results_zero {fn : Func} (h : fn.results = #[]) (tmps : Array Value) (P : Program) (w : World) : (results fn tmps).run P w = .ok (.tuple #[]) w := by simp [results, h]

theorem row101 : RowTy Tryd.prog 101 3 := ⟨by kernel_rfl, by kernel_rfl⟩
theorem results_row_tmp {P : Program} {fn : Func} {p q : Tmp} {ty n : Nat} (h : fn.results = #[.cell p ty, .tmp q]) (hr : RowTy P ty n) (tmps : Array Value) (w : World) (g : Nat) (t : TypeId) (cs : Array Value) (hn : cs.size = n)
    (hp : tmps.getD p undef = .pointer (some ⟨g, 0, none⟩)) (hg : w.heap[g]? = some (.cells cs t (0, 0))) : (results fn tmps).run P w = .ok (.tuple #[.agg cs, tmps.getD q undef]) w := by
  obtain ⟨dd, hu, hd⟩ := hr.parts
  have hp' : tmps[p]?.getD undef = .pointer (some ⟨g, 0, none⟩) := by simpa using hp
  have hl := run_loadVar_row (P := P) w g t ty cs (0, 0) dd hg hu (by cases dd <;> first | rfl | exact hd) (hr.2.trans (by rw [hn]))
  simp [results, h, hp', asAddr, hl]

/-! ### The sort of nothing -/
theorem insertion_zero (v f : Value) (w : World) : Calls Tryd.prog 107 #[v, .int .i64 0, .int .i64 0, f] w fun e w' => (∃ u, e = .returned u) ∧ Below w.heap.size w w' := by
  go_enter Tryd.func107, Tryd.ntmps107
  go_wp2
  go_loopw [8] (fun iv wr => iv = .int .i64 1 ∧ Below w.heap.size w wr) (fun _ _ => 0)
  case atStart => exact ⟨rfl, Below.refl _ _⟩
  case round =>
    obtain ⟨rfl, hb⟩ := hrel
    go_wp2
    refine bodyPost_end (results_zero rfl _ _ _) rfl ?_
    exact ⟨⟨_, rfl⟩, hb⟩

set_option maxRecDepth 100000 in
theorem pdq_zero (v f : Value) (l : Int) (w : World) : Calls Tryd.prog 90 #[v, .int .i64 0, .int .i64 0, .int .i64 l, f] w fun e w' => (∃ u, e = .returned u) ∧ Below w.heap.size w w' := by
  go_enter Tryd.func90, Tryd.ntmps90
  go_wp2
  go_loopw [1, 2] (fun av bv wr => av = .int .i64 0 ∧ bv = .int .i64 0 ∧ Below w.heap.size w wr) (fun _ _ _ => 0)
  case atStart => exact ⟨rfl, rfl, Below.refl _ _⟩
  case round =>
    obtain ⟨rfl, rfl, hb⟩ := hrel
    go_wp2_with (go_at_call 107; refine (insertion_zero _ _ _).mono ?_; rintro e w1 ⟨⟨u, rfl⟩, hb1⟩)
    refine bodyPost_ret (results_zero rfl _ _ _) rfl ?_
    exact ⟨⟨_, rfl⟩, hb.trans (hb1.mono hb.size)⟩

set_option maxHeartbeats 2000000 in
theorem sort_zero (ao : Option Addr) (cap : Nat) (f : Value) (w : World) : Calls Tryd.prog 72 #[.slice ao 0 cap, f] w fun e w' => (∃ u, e = .returned u) ∧ Below w.heap.size w w' := by
  have H1 := Lib.hid (fun W => Tryd.bits_Len 0 W (by decide) (by decide))
  go_enter Tryd.func72, Tryd.ntmps72
  go_wp2_with (first
    | (go_at_call 91; refine (H1.out _).mono ?_; rintro e w1 ⟨rfl, rfl⟩)
    | (go_at_call 90; refine (pdq_zero _ _ _ _).mono ?_; rintro e w2 ⟨⟨u, rfl⟩, hb⟩))
  refine bodyPost_end (results_zero rfl _ _ _) rfl ?_
  exact ⟨⟨_, rfl⟩, hb⟩

/-! ### One rule -/
set_option maxRecDepth 100000 in
set_option maxHeartbeats 4000000 in
theorem validRules_one (r : Rl) (ao : Option Addr) (cap b : Nat) (w : World) (hr : Rd w 2 (.slice ao r.counts.length cap) r.counts.length (pr r.counts)) (hb : w.heap[b]? = some (.cells #[.int .i64 r.num, .int .i64 r.lvl, .int .i64 r.rank, .int .i64 r.group, .int .i64 r.kind, .int .i64 r.value, .int .i64 r.cap, .int .i64 r.lo, .int .i64 r.hi, .slice ao r.counts.length cap, .int .i64 r.coupon] 29 (0, 0))) :
    Calls Tryd.prog 38 #[.slice (some ⟨b, 0, none⟩) 1 1] w fun e w' => e = .returned (.bool (okRu r)) ∧ Below w.heap.size w w' := by
  have HB := Lib.hid hb
  have HR := Lib.hid hr
  have lb := (Array.getElem?_eq_some_iff.1 hb).1
  clear hr hb
  cases hok : okRu r
  · go_enter Tryd.func38, Tryd.ntmps38
    go_wp2
    go_loopw [9] (fun iv wr => iv = .int .i64 0 ∧ Below w.heap.size w wr) (fun _ _ => 0)
    case atStart => exact ⟨rfl, Below.refl _ _⟩
    case round =>
      obtain ⟨rfl, hbl⟩ := hrel
      have k := (hbl.block b lb).trans HB.out
      obtain ⟨⟨c0, c1, c2, c3, c4, c5, c6, c7, c8, c9, c10⟩, _⟩ := row11 k
      have a0 := heap_alloc_new wr (.cells #[.int .i64 r.num, .int .i64 r.lvl, .int .i64 r.rank, .int .i64 r.group, .int .i64 r.kind, .int .i64 r.value, .int .i64 r.cap, .int .i64 r.lo, .int .i64 r.hi, .slice ao r.counts.length cap, .int .i64 r.coupon] 29)
      obtain ⟨⟨d0, d1, d2, d3, d4, d5, d6, d7, d8, d9, d10⟩, _⟩ := row11 a0
      have B1 := Lib.hid (hbl.alloc hbl.size (.cells #[.int .i64 r.num, .int .i64 r.lvl, .int .i64 r.rank, .int .i64 r.group, .int .i64 r.kind, .int .i64 r.value, .int .i64 r.cap, .int .i64 r.lo, .int .i64 r.hi, .slice ao r.counts.length cap, .int .i64 r.coupon] 29))
      clear k a0 hbl
      go_wp2_with (go_at_call 17; refine (implRule_any r _ _ (HR.out.below B1.out (Nat.le_refl _))).mono ?_; rintro e w1 ⟨rfl, hb1⟩; rw [hok])
      go_ret
      exact ⟨rfl, B1.out.trans (hb1.mono B1.out.size)⟩
  · go_enter Tryd.func38, Tryd.ntmps38
    go_wp2
    go_loopw [9] (fun iv wr => ∃ i : Nat, iv = .int .i64 i ∧ i ≤ 1 ∧ Below w.heap.size w wr) (fun iv _ => 1 - (intOf iv).toNat)
    case atStart => exact ⟨0, rfl, by omega, Below.refl _ _⟩
    case round =>
      obtain ⟨i, rfl, hi, hbl⟩ := hrel
      rcases (by omega : i = 0 ∨ i = 1) with rfl | rfl
      · have k := (hbl.block b lb).trans HB.out
        obtain ⟨⟨c0, c1, c2, c3, c4, c5, c6, c7, c8, c9, c10⟩, _⟩ := row11 k
        have a0 := heap_alloc_new wr (.cells #[.int .i64 r.num, .int .i64 r.lvl, .int .i64 r.rank, .int .i64 r.group, .int .i64 r.kind, .int .i64 r.value, .int .i64 r.cap, .int .i64 r.lo, .int .i64 r.hi, .slice ao r.counts.length cap, .int .i64 r.coupon] 29)
        have A0 := Lib.hid a0
        obtain ⟨⟨d0, d1, d2, d3, d4, d5, d6, d7, d8, d9, d10⟩, _⟩ := row11 a0
        have B1 := Lib.hid (hbl.alloc hbl.size (.cells #[.int .i64 r.num, .int .i64 r.lvl, .int .i64 r.rank, .int .i64 r.group, .int .i64 r.kind, .int .i64 r.value, .int .i64 r.cap, .int .i64 r.lo, .int .i64 r.hi, .slice ao r.counts.length cap, .int .i64 r.coupon] 29))
        clear k a0 hbl
        go_wp2_with (go_at_call 17; refine (implRule_any r _ _ (HR.out.below B1.out (Nat.le_refl _))).mono ?_; rintro e w1 ⟨rfl, hb1⟩; rw [hok])
        have B2 := Lib.hid (B1.out.trans (hb1.mono B1.out.size))
        clear hb1
        go_loopw [21] (fun jv wr2 => jv = .int .i64 0 ∧ Below w.heap.size w wr2) (fun _ _ => 0)
        case atStart => exact ⟨rfl, B2.out⟩
        case round =>
          obtain ⟨rfl, hb2⟩ := hrel
          go_wp2
          go_roundw
          case rel => exact ⟨1, by go_num, by omega, hb2⟩
          case measure => simp [intOf]
      · go_wp2
        go_ret
        exact ⟨rfl, hbl⟩

theorem row3 {w : World} {g : Nat} {x0 x1 x2 : Value} {t : TypeId} (h : w.heap[g]? = some (.cells #[x0, x1, x2] t)) :
    (w.cell? ⟨g, 0, none⟩ = some x0 ∧ w.cell? ⟨g, 1, none⟩ = some x1 ∧ w.cell? ⟨g, 2, none⟩ = some x2) ∧ w.frozen? ⟨g, 0, none⟩ = false ∧ w.frozen? ⟨g, 1, none⟩ = false ∧ w.frozen? ⟨g, 2, none⟩ = false :=
  ⟨⟨cell_of_row w _ 0 _ _ _ h, cell_of_row w _ 1 _ _ _ h, cell_of_row w _ 2 _ _ _ h⟩, frozen_of_row w _ 0 _ _ h, frozen_of_row w _ 1 _ _ h, frozen_of_row w _ 2 _ _ h⟩

set_option maxRecDepth 100000 in
set_option maxHeartbeats 4000000 in
theorem conflict_self (r : Rl) (ao : Option Addr) (cap : Nat) (w : World) (hr : Rd w 2 (.slice ao r.counts.length cap) r.counts.length (pr r.counts)) (hok : okRu r = true) :
    Calls Tryd.prog 71 #[.agg #[.int .i64 r.num, .int .i64 r.lvl, .int .i64 r.rank, .int .i64 r.group, .int .i64 r.kind, .int .i64 r.value, .int .i64 r.cap, .int .i64 r.lo, .int .i64 r.hi, .slice ao r.counts.length cap, .int .i64 r.coupon], .agg #[.int .i64 r.num, .int .i64 r.lvl, .int .i64 r.rank, .int .i64 r.group, .int .i64 r.kind, .int .i64 r.value, .int .i64 r.cap, .int .i64 r.lo, .int .i64 r.hi, .slice ao r.counts.length cap, .int .i64 r.coupon]] w fun e w' => e = .returned (.tuple #[.agg #[.int .i64 0, .slice none 0 0, .slice none 0 0], .bool false]) ∧ Below w.heap.size w w' := by
  obtain ⟨e0, e1, e2, z3, b3⟩ := three_blocks w (.cells #[.int .i64 r.num, .int .i64 r.lvl, .int .i64 r.rank, .int .i64 r.group, .int .i64 r.kind, .int .i64 r.value, .int .i64 r.cap, .int .i64 r.lo, .int .i64 r.hi, .slice ao r.counts.length cap, .int .i64 r.coupon] 29) (.cells #[.int .i64 r.num, .int .i64 r.lvl, .int .i64 r.rank, .int .i64 r.group, .int .i64 r.kind, .int .i64 r.value, .int .i64 r.cap, .int .i64 r.lo, .int .i64 r.hi, .slice ao r.counts.length cap, .int .i64 r.coupon] 29) (.cells #[.int .i64 0, .slice none 0 0, .slice none 0 0] 101)
  have H0 := Lib.hid e0
  have H1 := Lib.hid e1
  have H2 := Lib.hid e2
  have HB := Lib.hid b3
  have HR := Lib.hid hr
  have hp : (r.num == r.num) = true := by simp
  obtain ⟨⟨c0, c1, c2, c3, c4, c5, c6, c7, c8, c9, c10⟩, _⟩ := row11 e0
  obtain ⟨⟨d0, d1, d2, d3, d4, d5, d6, d7, d8, d9, d10⟩, _⟩ := row11 e1
  clear e0 e1 e2 b3 hr
  go_enter Tryd.func71, Tryd.ntmps71
  go_wp2_with fail
  refine (implRule_any r _ _ (HR.out.below HB.out (Nat.le_refl _))).mono ?_
  rintro e w1 ⟨rfl, hb⟩
  rw [hok]
  have k0 := (hb.block w.heap.size (by omega)).trans H0.out
  have k1 := (hb.block (w.heap.size + 1) (by omega)).trans H1.out
  have k2 := (hb.block (w.heap.size + 2) (by omega)).trans H2.out
  have B1 := Lib.hid (HB.out.trans (hb.mono (by omega)))
  have z1 : w.heap.size + 3 ≤ w1.heap.size := by rw [← z3]; exact hb.size
  clear c0 c1 c2 c3 c4 c5 c6 c7 c8 c9 c10 d0 d1 d2 d3 d4 d5 d6 d7 d8 d9 d10 hb
  obtain ⟨⟨c0, c1, c2, c3, c4, c5, c6, c7, c8, c9, c10⟩, _⟩ := row11 k0
  obtain ⟨⟨d0, d1, d2, d3, d4, d5, d6, d7, d8, d9, d10⟩, _⟩ := row11 k1
  go_wp2_with fail
  refine (implRule_any r _ _ (HR.out.below B1.out (Nat.le_refl _))).mono ?_
  rintro e w2 ⟨rfl, hb⟩
  rw [hok]
  have j0 := (hb.block w.heap.size (by omega)).trans k0
  have j1 := (hb.block (w.heap.size + 1) (by omega)).trans k1
  have j2 : w2.heap[w.heap.size + 1 + 1]? = _ := (hb.block (w.heap.size + 2) (by omega)).trans k2
  have B2 := Lib.hid (B1.out.trans (hb.mono (by omega)))
  clear c0 c1 c2 c3 c4 c5 c6 c7 c8 c9 c10 d0 d1 d2 d3 d4 d5 d6 d7 d8 d9 d10 hb
  obtain ⟨⟨c0, c1, c2, c3, c4, c5, c6, c7, c8, c9, c10⟩, _⟩ := row11 j0
  obtain ⟨⟨d0, d1, d2, d3, d4, d5, d6, d7, d8, d9, d10⟩, _⟩ := row11 j1
  obtain ⟨⟨f0, f1, f2⟩, q0, q1, q2⟩ := row3 j2
  clear k0 k1 k2
  have k3 := Lib.hid j2
  have zB : w.heap.size ≤ w.heap.size + 1 + 1 := by omega
  clear j0 j1 j2
  go_wp2
  refine bodyPost_ret (results_row_tmp (p := 4) (q := 5) (ty := 101) rfl row101 _ _ (w.heap.size + 1 + 1) 101 #[.int .i64 0, .slice none 0 0, .slice none 0 0] rfl rfl (Joins.block_setCell (i := 2) (Joins.block_setCell (i := 1) (Joins.block_setCell (i := 0) k3.out _) _) _)) rfl ?_
  exact ⟨rfl, ((B2.out.setCell zB _).setCell zB _).setCell zB _⟩

set_option maxRecDepth 100000 in
set_option maxHeartbeats 4000000 in
theorem allConflicts_one (r : Rl) (ao : Option Addr) (cap b : Nat) (w : World) (hr : Rd w 2 (.slice ao r.counts.length cap) r.counts.length (pr r.counts)) (hb : w.heap[b]? = some (.cells #[.int .i64 r.num, .int .i64 r.lvl, .int .i64 r.rank, .int .i64 r.group, .int .i64 r.kind, .int .i64 r.value, .int .i64 r.cap, .int .i64 r.lo, .int .i64 r.hi, .slice ao r.counts.length cap, .int .i64 r.coupon] 29 (0, 0))) (hok : okRu r = true) :
    Calls Tryd.prog 39 #[.slice (some ⟨b, 0, none⟩) 1 1] w fun e w' => (∃ o c, e = .returned (.slice o 0 c)) ∧ Below w.heap.size w w' := by
  have HB := Lib.hid hb
  have HR := Lib.hid hr
  have lb := (Array.getElem?_eq_some_iff.1 hb).1
  have b0 : Below w.heap.size w (w.alloc (.cells #[] 82)) := (Below.refl _ _).alloc (Nat.le_refl _) _
  have H0 := Lib.hid (heap_keep (x := .cells #[] 82) hb)
  have B0 := Lib.hid b0
  clear hr hb b0
  go_enter Tryd.func39, Tryd.ntmps39
  go_wp2_with fail
  refine (validRules_one r _ _ b _ (HR.out.below B0.out (Nat.le_refl _)) H0.out).mono ?_
  rintro e w1 ⟨rfl, hb1⟩
  rw [hok]
  have B1 := Lib.hid (B0.out.trans (hb1.mono B0.out.size))
  clear hb1
  go_wp2
  go_loopw [3, 17] (fun ov iv wr => ov = .slice (some ⟨w.heap.size, 0, none⟩) 0 0 ∧ (iv = .int .i64 0 ∨ iv = .int .i64 1) ∧ Below w.heap.size w wr) (fun _ iv _ => 1 - (intOf iv).toNat)
  case atStart => exact ⟨rfl, .inl rfl, B1.out⟩
  case round =>
    obtain ⟨rfl, hi, hbl⟩ := hrel
    obtain ⟨wo, rfl⟩ : ∃ wo : World, wo = wr := ⟨_, rfl⟩
    rcases hi with rfl | rfl
    · have k := (hbl.block b lb).trans HB.out
      obtain ⟨⟨c0, c1, c2, c3, c4, c5, c6, c7, c8, c9, c10⟩, _⟩ := row11 k
      have a0 := heap_alloc_new wo (.cells #[.int .i64 r.num, .int .i64 r.lvl, .int .i64 r.rank, .int .i64 r.group, .int .i64 r.kind, .int .i64 r.value, .int .i64 r.cap, .int .i64 r.lo, .int .i64 r.hi, .slice ao r.counts.length cap, .int .i64 r.coupon] 29)
      have B2 := Lib.hid (hbl.alloc hbl.size (.cells #[.int .i64 r.num, .int .i64 r.lvl, .int .i64 r.rank, .int .i64 r.group, .int .i64 r.kind, .int .i64 r.value, .int .i64 r.cap, .int .i64 r.lo, .int .i64 r.hi, .slice ao r.counts.length cap, .int .i64 r.coupon] 29))
      have A0 := Lib.hid a0
      have hs := Below.refl (wo.alloc (.cells #[.int .i64 r.num, .int .i64 r.lvl, .int .i64 r.rank, .int .i64 r.group, .int .i64 r.kind, .int .i64 r.value, .int .i64 r.cap, .int .i64 r.lo, .int .i64 r.hi, .slice ao r.counts.length cap, .int .i64 r.coupon] 29)).heap.size (wo.alloc (.cells #[.int .i64 r.num, .int .i64 r.lvl, .int .i64 r.rank, .int .i64 r.group, .int .i64 r.kind, .int .i64 r.value, .int .i64 r.cap, .int .i64 r.lo, .int .i64 r.hi, .slice ao r.counts.length cap, .int .i64 r.coupon] 29))
      rw [World.size_alloc] at hs
      have HS := Lib.hid hs
      clear k a0 hbl hs
      go_wp2
      go_loopw [3, 23] (fun ov jv wr2 => ov = .slice (some ⟨w.heap.size, 0, none⟩) 0 0 ∧ (jv = .int .i64 0 ∨ jv = .int .i64 1) ∧ Below w.heap.size w wr2 ∧ Below (wo.heap.size + 1) (wo.alloc (.cells #[.int .i64 r.num, .int .i64 r.lvl, .int .i64 r.rank, .int .i64 r.group, .int .i64 r.kind, .int .i64 r.value, .int .i64 r.cap, .int .i64 r.lo, .int .i64 r.hi, .slice ao r.counts.length cap, .int .i64 r.coupon] 29)) wr2) (fun _ jv _ => 1 - (intOf jv).toNat)
      case atStart => exact ⟨rfl, .inl rfl, B2.out, HS.out⟩
      case round =>
        clear c0 c1 c2 c3 c4 c5 c6 c7 c8 c9 c10
        obtain ⟨rfl, hj, hb2, hb3⟩ := hrel
        rcases hj with rfl | rfl
        · have k := (hb2.block b lb).trans HB.out
          obtain ⟨⟨c0, c1, c2, c3, c4, c5, c6, c7, c8, c9, c10⟩, _⟩ := row11 k
          have k5 := (hb3.block wo.heap.size (Nat.lt_succ_self _)).trans A0.out
          have a7 := heap_alloc_new wr (.cells #[.int .i64 r.num, .int .i64 r.lvl, .int .i64 r.rank, .int .i64 r.group, .int .i64 r.kind, .int .i64 r.value, .int .i64 r.cap, .int .i64 r.lo, .int .i64 r.hi, .slice ao r.counts.length cap, .int .i64 r.coupon] 29)
          obtain ⟨⟨d0, d1, d2, d3, d4, d5, d6, d7, d8, d9, d10⟩, _⟩ := row11 (heap_keep (x := .cells #[.int .i64 r.num, .int .i64 r.lvl, .int .i64 r.rank, .int .i64 r.group, .int .i64 r.kind, .int .i64 r.value, .int .i64 r.cap, .int .i64 r.lo, .int .i64 r.hi, .slice ao r.counts.length cap, .int .i64 r.coupon] 29) k5)
          obtain ⟨⟨e0, e1, e2, e3, e4, e5, e6, e7, e8, e9, e10⟩, _⟩ := row11 a7
          have B3 := Lib.hid (hb2.alloc hb2.size (.cells #[.int .i64 r.num, .int .i64 r.lvl, .int .i64 r.rank, .int .i64 r.group, .int .i64 r.kind, .int .i64 r.value, .int .i64 r.cap, .int .i64 r.lo, .int .i64 r.hi, .slice ao r.counts.length cap, .int .i64 r.coupon] 29))
          have HS3 := Lib.hid (hb3.alloc (by have := hb3.size; simp at this; omega) (.cells #[.int .i64 r.num, .int .i64 r.lvl, .int .i64 r.rank, .int .i64 r.group, .int .i64 r.kind, .int .i64 r.value, .int .i64 r.cap, .int .i64 r.lo, .int .i64 r.hi, .slice ao r.counts.length cap, .int .i64 r.coupon] 29))
          clear k k5 a7 hb2 hb3
          go_wp2_with fail
          refine (conflict_self r _ _ _ (HR.out.below B3.out (Nat.le_refl _)) hok).mono ?_
          rintro e w3 ⟨rfl, hb5⟩
          have B4 := Lib.hid (B3.out.trans (hb5.mono B3.out.size))
          have HT := Lib.hid (HS3.out.trans (hb5.mono (by have := HS3.out.size; simp at this; simp; omega)))
          clear hb5 c0 c1 c2 c3 c4 c5 c6 c7 c8 c9 c10 d0 d1 d2 d3 d4 d5 d6 d7 d8 d9 d10 e0 e1 e2 e3 e4 e5 e6 e7 e8 e9 e10
          go_wp2
          go_roundw
          case rel => exact ⟨rfl, .inr rfl, B4.out.alloc B4.out.size _, HT.out.alloc (by have := HT.out.size; simp at this; omega) _⟩
          case measure => simp [intOf]
        · go_wp2
          go_roundw
          case rel => exact ⟨rfl, .inr rfl, hb2⟩
          case measure => simp [intOf]
    · go_wp2_with (go_at_call 72; refine (sort_zero _ _ _ _).mono ?_; rintro e w2 ⟨⟨u, rfl⟩, hb2⟩)
      go_ret
      exact ⟨⟨_, _, rfl⟩, hbl.trans (hb2.mono hbl.size)⟩

end Go.Proofs.YtdofpealmngmiaaDoor
