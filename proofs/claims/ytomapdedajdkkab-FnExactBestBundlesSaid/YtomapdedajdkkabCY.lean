/- Walks: how often parts are in pieces. Conditions: none. -/
import Derived.Test.YtomapdedajdkkabCA
import Derived.Test.YtomapdedajdkkabAddFns
import Derived.Test.YtomapdedajdkkabRow
import Derived.Lib.MinMax
namespace Go.Proofs.Ytomapdedajdkkab
open Go.RowKit

set_option maxHeartbeats 2000000 in
theorem implTimes_any (h : List Int) (u : Value) (c : List (Int × Int)) (v : Value) (w : World) (hs : Rd w 1 u h.length (it h)) (hv : Rd w 2 v c.length (pr c))
    (hh : ∀ j, j < h.length → 0 ≤ iG h j ∧ iG h j ≤ 1000000) (hq : ∀ k, k < c.length → 0 ≤ pA c k ∧ pA c k < h.length ∧ 1 ≤ pB c k ∧ pB c k ≤ 20) (hl : h.length ≤ 1000000) (hl2 : c.length ≤ 1000000) :
    Calls Try.prog 61 #[u, v] w fun e w' => e = .returned (.int .i64 (tmN h c c.length)) ∧ Below w.heap.size w w' := by
  obtain ⟨so, scap, rfl, _, _, hrs⟩ := hs.ints
  obtain ⟨co, ccap, rfl, _, _, hrc⟩ := hv.pairs
  have HRS := Lib.hid hrs
  have HRC := Lib.hid hrc
  have HH := Lib.hid hh
  have HQ := Lib.hid hq
  clear hv hs hrs hrc hh hq
  go_enter Try.func61, Try.ntmps61
  go_wp2
  go_loopw [5, 10] (fun n i wr => ∃ k : Nat, k ≤ c.length ∧ i = .int .i64 k ∧ n = .int .i64 (tmN h c k) ∧ Below w.heap.size w wr) (fun _ i _ => c.length - (intOf i).toNat)
  case atStart => exact ⟨0, Nat.zero_le _, rfl, rfl, Below.refl _ _⟩
  case round =>
    obtain ⟨k, hk, rfl, rfl, hbl⟩ := hrel
    by_cases hlt : k < c.length
    · obtain ⟨h4, h5, h6, h7⟩ := HQ.out k hlt
      obtain ⟨b, off, rfl, hb, hcell⟩ := HRC.out (by omega)
      obtain ⟨a, ha⟩ := Int.eq_ofNat_of_zero_le h4
      have han : a < h.length := by omega
      obtain ⟨sb, soff, rfl, hsb, hscell⟩ := HRS.out (by omega)
      obtain ⟨x1, x2⟩ := HH.out a han
      have g0 := (hbl.cell (p := ⟨b, off + k*2, none⟩) hb).trans (hcell k hlt).1
      have g1 := (hbl.cell (p := ⟨b, off + k*2+1, none⟩) hb).trans (hcell k hlt).2
      have g3 := (hbl.cell (p := ⟨sb, soff + a, none⟩) hsb).trans (hscell a han)
      have hbw : b < wr.heap.size := Nat.lt_of_lt_of_le hb hbl.size
      have hsbw : sb < wr.heap.size := Nat.lt_of_lt_of_le hsb hbl.size
      have HF : Hid (tmN h c (k + 1) = min (tmN h c k) (iG h a / pB c k)) := by show min _ (iG h (pA c k).toNat / pB c k) = _; rw [ha, Int.toNat_natCast]
      rw [ha] at g0
      clear ha hcell hscell h4 h5
      obtain ⟨x, hx⟩ : ∃ x, x = iG h a := ⟨_, rfl⟩
      obtain ⟨y, hy⟩ : ∃ y, y = pB c k := ⟨_, rfl⟩
      obtain ⟨t, ht⟩ : ∃ t, t = tmN h c k := ⟨_, rfl⟩
      rw [← hx] at g3 x1 x2
      rw [← hy] at g1 h6 h7
      rw [← hx, ← hy, ← ht] at HF
      rw [← ht]
      clear hx hy ht
      have q0 : 0 ≤ x / y := Int.ediv_nonneg x1 (by omega)
      have q1 : x / y ≤ x := Int.ediv_le_self _ x1
      have e0 : x.tdiv y = x / y := Int.tdiv_eq_ediv_of_nonneg x1
      have e1 : IntKind.i64.wrap (x / y) = x / y := IntWalk.i64_in _ (by omega)
      have ey : (y == 0) = false := by rw [beq_eq_false_iff_ne]; omega
      have ey2 : ¬ y = 0 := by omega
      have ha0 : (0 : Int) ≤ (a : Int) := by omega
      have ha1 : (a : Int) < (h.length : Int) := by omega
      go_wp2
      go_quiet (fail)
      go_wp2
      go_roundw
      case rel => exact ⟨k+1, by omega, by go_num, by rw [HF.out], below_drewN (hbl.alloc hbl.size _) _⟩
      case measure => simp [intOf]; omega
    · obtain rfl : k = c.length := by omega
      go_wp2
      go_ret
      exact ⟨rfl, hbl⟩

set_option maxHeartbeats 2000000 in
theorem specTimes_any (h : List Int) (u : Value) (c : List (Int × Int)) (v : Value) (w : World) (hs : Rd w 1 u h.length (it h)) (hv : Rd w 2 v c.length (pr c))
    (hh : ∀ j, j < h.length → 0 ≤ iG h j ∧ iG h j ≤ 1000000) (hq : ∀ k, k < c.length → 0 ≤ pA c k ∧ pA c k < h.length ∧ 1 ≤ pB c k ∧ pB c k ≤ 20) (hl : h.length ≤ 1000000) (hl2 : c.length ≤ 1000000) :
    Calls Try.prog 86 #[u, v] w fun e w' => e = .returned (.int .i64 (tmN h c c.length)) ∧ Below w.heap.size w w' := by
  obtain ⟨so, scap, rfl, _, _, hrs⟩ := hs.ints
  obtain ⟨co, ccap, rfl, _, _, hrc⟩ := hv.pairs
  have HRS := Lib.hid hrs
  have HRC := Lib.hid hrc
  have HH := Lib.hid hh
  have HQ := Lib.hid hq
  clear hv hs hrs hrc hh hq
  go_enter Try.func86, Try.ntmps86
  go_wp2
  go_loopw [5, 6] (fun n i wr => ∃ k : Nat, k ≤ c.length ∧ i = .int .i64 k ∧ n = .int .i64 (tmN h c k) ∧ Below w.heap.size w wr) (fun _ i _ => c.length - (intOf i).toNat)
  case atStart => exact ⟨0, Nat.zero_le _, rfl, rfl, Below.refl _ _⟩
  case round =>
    obtain ⟨k, hk, rfl, rfl, hbl⟩ := hrel
    by_cases hlt : k < c.length
    · obtain ⟨h4, h5, h6, h7⟩ := HQ.out k hlt
      obtain ⟨b, off, rfl, hb, hcell⟩ := HRC.out (by omega)
      obtain ⟨a, ha⟩ := Int.eq_ofNat_of_zero_le h4
      have han : a < h.length := by omega
      obtain ⟨sb, soff, rfl, hsb, hscell⟩ := HRS.out (by omega)
      obtain ⟨x1, x2⟩ := HH.out a han
      have g0 := (hbl.cell (p := ⟨b, off + k*2, none⟩) hb).trans (hcell k hlt).1
      have g1 := (hbl.cell (p := ⟨b, off + k*2+1, none⟩) hb).trans (hcell k hlt).2
      have g3 := (hbl.cell (p := ⟨sb, soff + a, none⟩) hsb).trans (hscell a han)
      have hbw : b < wr.heap.size := Nat.lt_of_lt_of_le hb hbl.size
      have hsbw : sb < wr.heap.size := Nat.lt_of_lt_of_le hsb hbl.size
      have HF : Hid (tmN h c (k + 1) = min (tmN h c k) (iG h a / pB c k)) := by show min _ (iG h (pA c k).toNat / pB c k) = _; rw [ha, Int.toNat_natCast]
      rw [ha] at g0
      clear ha hcell hscell h4 h5
      obtain ⟨x, hx⟩ : ∃ x, x = iG h a := ⟨_, rfl⟩
      obtain ⟨y, hy⟩ : ∃ y, y = pB c k := ⟨_, rfl⟩
      obtain ⟨t, ht⟩ : ∃ t, t = tmN h c k := ⟨_, rfl⟩
      rw [← hx] at g3 x1 x2
      rw [← hy] at g1 h6 h7
      rw [← hx, ← hy, ← ht] at HF
      rw [← ht]
      clear hx hy ht
      have q0 : 0 ≤ x / y := Int.ediv_nonneg x1 (by omega)
      have q1 : x / y ≤ x := Int.ediv_le_self _ x1
      have e0 : x.tdiv y = x / y := Int.tdiv_eq_ediv_of_nonneg x1
      have e1 : IntKind.i64.wrap (x / y) = x / y := IntWalk.i64_in _ (by omega)
      have ey : (y == 0) = false := by rw [beq_eq_false_iff_ne]; omega
      have ey2 : ¬ y = 0 := by omega
      have ha0 : (0 : Int) ≤ (a : Int) := by omega
      have ha1 : (a : Int) < (h.length : Int) := by omega
      go_wp2
      go_quiet (fail)
      go_wp2
      go_roundw
      case rel => exact ⟨k+1, by omega, by go_num, by rw [HF.out], below_drewN hbl _⟩
      case measure => simp [intOf]; omega
    · obtain rfl : k = c.length := by omega
      go_wp2
      go_ret
      exact ⟨rfl, hbl⟩

end Go.Proofs.Ytomapdedajdkkab
