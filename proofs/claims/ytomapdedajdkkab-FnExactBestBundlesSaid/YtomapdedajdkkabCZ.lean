/- Walks: the pieces of a cart, both texts. Conditions: none. -/
import Derived.Test.YtomapdedajdkkabCY
import Derived.RegionTactic
import Derived.ChangeAlike
namespace Go.Proofs.Ytomapdedajdkkab
open Go.RowKit

theorem Try.info3p : (Try.prog.info? 3).map (fun i => (i.zero, i.size, i.bytes)) = some (some (.int .i64 0), 1, 8) := by kernel_rfl

theorem made_itP (n : Nat) : (madeCells #[Value.int .i64 0] (n * 1)).toList = it (List.replicate n 0) := by
  apply List.ext_getElem?
  intro j
  by_cases hj : j < n
  · simp [madeCells, it, hj, Nat.mod_one]
  · rw [List.getElem?_eq_none (by simp [madeCells]; omega), List.getElem?_eq_none (by simp [it]; omega)]

theorem eqN_fresh {n : Int} {l : List (Int × Int)} {k : Nat} (h : vLines n l = true) (hk : k < l.length) : ∀ j, j ≤ k → eqN (l.take j) (pA l k) = 0
  | 0, _ => (fil_zero l _).2.2
  | j + 1, hj => by
    have h1 := ln_asc h k hk j (by omega)
    rw [eqN_no (by omega) (by omega)]
    exact eqN_fresh h hk j (by omega)

set_option maxHeartbeats 2000000 in
set_option maxRecDepth 100000 in
theorem implPieces_any (n : Nat) (c : List (Int × Int)) (v : Value) (w : World) (hv : Rd w 2 v c.length (pr c)) (hp : vLines n c = true) (hn : n ≤ 1000000) :
    Calls Try.prog 59 #[.int .i64 n, v] w fun e w' => ∃ o, e = .returned o ∧ w'.ownsRow w.heap.size 3 1 o n (it (hvL n c)) ∧ Below w.heap.size w w' := by
  obtain ⟨co, ccap, rfl, _, _, hrc⟩ := hv.pairs
  have HRC := Lib.hid hrc
  have HP := Lib.hid hp
  obtain ⟨i0, hi, hz0, hz1, hz2⟩ := info_parts Try.info3p
  have HI := Lib.hid hi
  have HZ0 := Lib.hid hz0
  have HZ1 := Lib.hid hz1
  have HZ2 := Lib.hid hz2
  clear hi hz0 hz1 hz2 hv hrc hp
  go_enter Try.func59, Try.ntmps59
  go_wp2_with (refine wpList_make_full _ rfl _ _ 42 rfl w.heap.size 3 i0 _ 1 Try.underlying42 HI.out HZ0.out HZ1.out _ _ _ _ n rfl rfl rfl rfl (by rw [HZ2.out]; omega) (by unfold maxLen; omega) (Nat.le_refl _) ?_; intro w1 hown hgr)
  have hown0 : Hid (w1.ownsRow w.heap.size 3 1 (.slice (some ⟨w.heap.size, 0, none⟩) n n) n (it (hvL n (c.take 0)))) := by
    rw [hvL_zero, ← made_itP]; exact hown
  have hb0 : Below w.heap.size w w1 := below_of_grownBy hgr
  clear hown hgr
  go_loopw [12] (fun i wr => ∃ k : Nat, k ≤ c.length ∧ i = .int .i64 k ∧ Below w.heap.size w wr ∧ Hid (wr.ownsRow w.heap.size 3 1 (.slice (some ⟨w.heap.size, 0, none⟩) n n) n (it (hvL n (c.take k))))) (fun i _ => c.length - (intOf i).toNat)
  case atStart => exact ⟨0, Nat.zero_le _, rfl, hb0, hown0⟩
  case round =>
    clear hown0 hb0
    obtain ⟨k, hk, rfl, hbl, O⟩ := hrel
    by_cases hlt : k < c.length
    · obtain ⟨h4, h5, h6, h7, _⟩ := lnOk_pr ((vLines_all HP.out).1 k hlt)
      have h8 := (vLines_all HP.out).2
      obtain ⟨b, off, rfl, hb, hcell⟩ := HRC.out (by omega)
      obtain ⟨a, ha⟩ := Int.eq_ofNat_of_zero_le h4
      have han : a < n := by omega
      have g0 := (hbl.cell (p := ⟨b, off + k*2, none⟩) hb).trans (hcell k hlt).1
      have g1 := (hbl.cell (p := ⟨b, off + k*2+1, none⟩) hb).trans (hcell k hlt).2
      have hbw : b < wr.heap.size := Nat.lt_of_lt_of_le hb hbl.size
      have hgw : w.heap.size < wr.heap.size := (O.out.lt _ rfl).2
      have hbd := eqN_bd HP.out (a : Int) k hk
      rw [← hvL_get (c.take k) han] at hbd
      obtain ⟨hx1, hx2⟩ := hbd
      have hst := hvL_step hlt ha han
      obtain ⟨c0, f0⟩ := owns_at1 O.out a han
      have HS := Lib.hid hst
      rw [ha] at g0
      clear ha hcell h4 h5 hst
      obtain ⟨y, hy⟩ : ∃ y, y = pB c k := ⟨_, rfl⟩
      obtain ⟨x, hx⟩ : ∃ x, x = iG (hvL n (c.take k)) a := ⟨_, rfl⟩
      rw [← hy] at g1 HS h6 h7
      rw [← hx] at c0 hx1 hx2 HS
      clear hy hx
      have e1 : IntKind.i64.wrap (x + y) = x + y := IntWalk.i64_in _ (by omega)
      have ha0 : (0 : Int) ≤ (a : Int) := by omega
      have ha1 : (a : Int) < (n : Int) := by omega
      have hk0 : (0 : Int) ≤ (k : Int) := by omega
      have hk1 : (k : Int) < (c.length : Int) := by omega
      have hne : ¬ b = w.heap.size := by omega
      have hne2 : ¬ w.heap.size = wr.heap.size := by omega
      have hne3 : ¬ b = wr.heap.size := by omega
      go_wp2
      go_region
      go_wp2
      have o3 := (owns_set1 O.out a (x + y)).1
      rw [HS.out] at o3
      go_roundw
      case rel => exact ⟨k + 1, by omega, by go_num, ((hbl.setCell (Nat.le_refl _) _).alloc (by simp only [World.size_setCell]; exact hbl.size) (.cells #[.int .i64 a, .int .i64 y] 46)).drew, (o3.alloc (.cells #[.int .i64 a, .int .i64 y] 46)).drew⟩
      case measure => simp [intOf]; omega
    · obtain rfl : k = c.length := by omega
      go_wp2
      go_ret
      exact ⟨_, rfl, by have := O.out; rwa [List.take_length] at this, hbl⟩

set_option maxHeartbeats 2000000 in
set_option maxRecDepth 100000 in
theorem specCounts_any (ao : Option Addr) (n cap0 : Nat) (c : List (Int × Int)) (v : Value) (w : World) (hv : Rd w 2 v c.length (pr c)) (hp : vLines n c = true) (hn : n ≤ 1000000) :
    Calls Try.prog 65 #[.slice ao n cap0, v] w fun e w' => ∃ o, e = .returned o ∧ w'.ownsRow w.heap.size 3 1 o n (it (hvL n c)) ∧ Below w.heap.size w w' := by
  obtain ⟨co, ccap, rfl, _, _, hrc⟩ := hv.pairs
  have HRC := Lib.hid hrc
  have HP := Lib.hid hp
  obtain ⟨i0, hi, hz0, hz1, hz2⟩ := info_parts Try.info3p
  have HI := Lib.hid hi
  have HZ0 := Lib.hid hz0
  have HZ1 := Lib.hid hz1
  have HZ2 := Lib.hid hz2
  clear hi hz0 hz1 hz2 hv hrc hp
  go_enter Try.func65, Try.ntmps65
  go_wp2_with (refine wpList_make_full _ rfl _ _ 42 rfl w.heap.size 3 i0 _ 1 Try.underlying42 HI.out HZ0.out HZ1.out _ _ _ _ n rfl rfl rfl rfl (by rw [HZ2.out]; omega) (by unfold maxLen; omega) (Nat.le_refl _) ?_; intro w1 hown hgr)
  have hown0 : Hid (w1.ownsRow w.heap.size 3 1 (.slice (some ⟨w.heap.size, 0, none⟩) n n) n (it (hvL n (c.take 0)))) := by
    rw [hvL_zero, ← made_itP]; exact hown
  have hb0 : Below w.heap.size w w1 := below_of_grownBy hgr
  clear hown hgr
  go_loopw [6] (fun i wr => ∃ k : Nat, k ≤ c.length ∧ i = .int .i64 k ∧ Below w.heap.size w wr ∧ Hid (wr.ownsRow w.heap.size 3 1 (.slice (some ⟨w.heap.size, 0, none⟩) n n) n (it (hvL n (c.take k))))) (fun i _ => c.length - (intOf i).toNat)
  case atStart => exact ⟨0, Nat.zero_le _, rfl, hb0, hown0⟩
  case round =>
    clear hown0 hb0
    obtain ⟨k, hk, rfl, hbl, O⟩ := hrel
    by_cases hlt : k < c.length
    · obtain ⟨h4, h5, h6, h7, _⟩ := lnOk_pr ((vLines_all HP.out).1 k hlt)
      have h8 := (vLines_all HP.out).2
      obtain ⟨b, off, rfl, hb, hcell⟩ := HRC.out (by omega)
      obtain ⟨a, ha⟩ := Int.eq_ofNat_of_zero_le h4
      have han : a < n := by omega
      have g0 := (hbl.cell (p := ⟨b, off + k*2, none⟩) hb).trans (hcell k hlt).1
      have g1 := (hbl.cell (p := ⟨b, off + k*2+1, none⟩) hb).trans (hcell k hlt).2
      have hbw : b < wr.heap.size := Nat.lt_of_lt_of_le hb hbl.size
      have hgw : w.heap.size < wr.heap.size := (O.out.lt _ rfl).2
      have hbd := eqN_bd HP.out (a : Int) k hk
      rw [← hvL_get (c.take k) han] at hbd
      obtain ⟨hx1, hx2⟩ := hbd
      have hst := hvL_step hlt ha han
      have hz := eqN_fresh HP.out hlt k (Nat.le_refl _)
      rw [ha, ← hvL_get (c.take k) han] at hz
      rw [hz, Int.zero_add] at hst
      obtain ⟨c0, f0⟩ := owns_at1 O.out a han
      have HS := Lib.hid hst
      rw [ha] at g0
      clear ha hcell h4 h5 hst hz
      obtain ⟨y, hy⟩ : ∃ y, y = pB c k := ⟨_, rfl⟩
      obtain ⟨x, hx⟩ : ∃ x, x = iG (hvL n (c.take k)) a := ⟨_, rfl⟩
      rw [← hy] at g1 HS h6 h7
      rw [← hx] at c0 hx1 hx2
      clear hy hx
      have e1 : IntKind.i64.wrap (x + y) = x + y := IntWalk.i64_in _ (by omega)
      have ha0 : (0 : Int) ≤ (a : Int) := by omega
      have ha1 : (a : Int) < (n : Int) := by omega
      have hk0 : (0 : Int) ≤ (k : Int) := by omega
      have hk1 : (k : Int) < (c.length : Int) := by omega
      have hne : ¬ b = w.heap.size := by omega
      have hne2 : ¬ w.heap.size = wr.heap.size := by omega
      have hne3 : ¬ b = wr.heap.size := by omega
      go_wp2
      go_region
      go_wp2
      have o3 := (owns_set1 O.out a (y)).1
      rw [HS.out] at o3
      go_roundw
      case rel => exact ⟨k + 1, by omega, by go_num, (hbl.setCell (Nat.le_refl _) _).drew, o3.drew⟩
      case measure => simp [intOf]; omega
    · obtain rfl : k = c.length := by omega
      go_wp2
      go_ret
      exact ⟨_, rfl, by have := O.out; rwa [List.take_length] at this, hbl⟩

end Go.Proofs.Ytomapdedajdkkab
