/- Walks: the copies, sizes and comparisons of the exact laws on spans. Conditions: none. -/
import Derived.Test.YtdofpealmngmiaaDoorWA
import Derived.StillTailTactics
namespace Go.Proofs.YtdofpealmngmiaaDoor
open Go.RowKit

set_option maxHeartbeats 400000 in
theorem toSpan_any (a b : Int) (w : World) :
    Calls Tryd.prog 66 #[.agg #[.int .i64 a, .int .i64 b]] w fun e w' => e = .returned (.agg #[.int .i64 a, .int .i64 b]) ∧ Below w.heap.size w w' := by
  go_enter Tryd.func66, Tryd.ntmps66
  go_wp2
  go_returns
  refine ⟨rfl, ?_⟩
  go_grown

set_option maxHeartbeats 400000 in
theorem eqSpan_any (a b c d : Int) (w : World) :
    Calls Tryd.prog 68 #[.agg #[.int .i64 a, .int .i64 b], .agg #[.int .i64 c, .int .i64 d]] w fun e w' => e = .returned (.bool (eqP a b c d)) ∧ Below w.heap.size w w' := by
  go_enter Tryd.func68, Tryd.ntmps68
  go_wp2
  all_goals go_ret
  · have h : (a != c) = true := by assumption
    exact ⟨ret_b (by simp [eqP, bne_t h]), by go_grown⟩
  · have h : (b != d) = true := by assumption
    exact ⟨ret_b (by simp [eqP, bne_t h]), by go_grown⟩
  · have h : (a != c) = false := by assumption
    have h2 : (b != d) = false := by assumption
    exact ⟨ret_b (by simp [eqP, bne_f h, bne_f h2]), by go_grown⟩

set_option maxHeartbeats 400000 in
theorem szSpanS_any (ao : Option Addr) (n cap : Nat) (left : Int) (w : World) (hn : n ≤ 9223372036854775807) (h0 : 0 ≤ left) (h1 : left ≤ 1048576) :
    Calls Tryd.prog 65 #[.slice ao n cap, .int .i64 left] w fun e w' => e = .returned (.int .i64 (szL left n)) ∧ w = w' := by
  go_enter Tryd.func65, Tryd.ntmps65
  go_wp2
  all_goals go_ret
  · have h : left - (n : Int) < 0 := by assumption
    exact ⟨ret_i (by rw [szL, if_pos (by omega)]), rfl⟩
  · have h : 0 ≤ left - (n : Int) := by assumption
    exact ⟨ret_i (by rw [szL, if_neg (by omega)]), rfl⟩

theorem Tryd.info24 : (Tryd.prog.info? 24).map (fun i => (i.zero, i.size, i.bytes)) = some (some (.agg #[.int .i64 0, .int .i64 0]), 2, 16) := by kernel_rfl

set_option maxHeartbeats 1000000 in
theorem toSpanS_any (l : List (Int × Int)) (v : Value) (w : World) (hv : Rd w 2 v l.length (pr l)) (hl : l.length ≤ 1048576) :
    Calls Tryd.prog 67 #[v] w fun e w' => ∃ u, e = .returned u ∧ w'.ownsRow w.heap.size 24 2 u l.length (pr l) ∧ Below w.heap.size w w' := by
  obtain ⟨ao, cap, rfl, _, _, hr⟩ := hv.pairs
  have HR := Lib.hid hr
  clear hr hv
  obtain ⟨i0, hi, hz0, hz1, hz2⟩ := info_parts Tryd.info24
  have HI := Lib.hid hi
  have HZ0 := Lib.hid hz0
  have HZ1 := Lib.hid hz1
  have HZ2 := Lib.hid hz2
  clear hi hz0 hz1 hz2
  go_enter Tryd.func67, Tryd.ntmps67
  go_wp2_with (refine wpList_make_full _ rfl _ _ 25 rfl w.heap.size 24 i0 _ 2 Tryd.underlying25 HI.out HZ0.out HZ1.out _ _ _ _ l.length rfl rfl rfl rfl (by rw [HZ2.out]; omega) (by unfold maxLen; omega) (Nat.le_refl _) ?_; intro w1 hown hgr)
  have hown0 : Hid (w1.ownsRow w.heap.size 24 2 (.slice (some ⟨w.heap.size, 0, none⟩) l.length l.length) l.length (pr (fillP l 0))) := by
    rw [fillP_zero, ← made_pr]; exact hown
  have hb0 : Below w.heap.size w w1 := below_of_grownBy hgr
  clear hown hgr
  go_loopw [4] (fun i wr => ∃ k : Nat, k ≤ l.length ∧ i = .int .i64 k ∧ Below w.heap.size w wr ∧ Hid (wr.ownsRow w.heap.size 24 2 (.slice (some ⟨w.heap.size, 0, none⟩) l.length l.length) l.length (pr (fillP l k)))) (fun i _ => l.length - (intOf i).toNat)
  case atStart => exact ⟨0, Nat.zero_le _, rfl, hb0, hown0⟩
  case round =>
    clear hown0 hb0
    obtain ⟨k, hk, rfl, hbl, hown⟩ := hrel
    by_cases hlt : k < l.length
    · obtain ⟨b, off, rfl, hb, hcell⟩ := HR.out (by omega)
      have h0 := (hbl.cell (p := ⟨b, off + k*2, none⟩) hb).trans (hcell k hlt).1
      have h1 := (hbl.cell (p := ⟨b, off + k*2+1, none⟩) hb).trans (hcell k hlt).2
      clear hcell
      go_wp2_with (go_at_call 66; refine (toSpan_any _ _ _).mono ?_; rintro e w2 ⟨rfl, hb2⟩; obtain ⟨c0, c1, f0, f1⟩ := owns_at2 (ownsRow_below hown.out hb2 (Nat.le_refl _)) k hlt)
      go_roundw
      case rel =>
        refine ⟨k + 1, by omega, by go_num, ((hbl.trans (hb2.mono hbl.size)).setCell (Nat.le_refl _) _).setCell (Nat.le_refl _) _, ?_⟩
        have := owns_set2 (ownsRow_below hown.out hb2 (Nat.le_refl _)) k (pA l k) (pB l k)
        rwa [fillP_succ l k hlt] at this
      case measure => simp [intOf]; omega
    · go_wp2
      go_ret
      obtain rfl : k = l.length := by omega
      exact ⟨_, rfl, by have := hown.out; rwa [fillP_end] at this, hbl⟩

set_option maxHeartbeats 1000000 in
set_option maxRecDepth 100000 in
theorem eqSpanS_any (l m : List (Int × Int)) (u v : Value) (w : World) (hu : Rd w 2 u l.length (pr l)) (hv : Rd w 2 v m.length (pr m)) :
    Calls Tryd.prog 69 #[u, v] w fun e w' => e = .returned (.bool (decide (l = m))) ∧ Below w.heap.size w w' := by
  have hm := hu.len
  unfold maxLen at hm
  obtain ⟨ao, cap, rfl, _, _, hr⟩ := hu.pairs
  obtain ⟨bo, cap', rfl, _, _, hs⟩ := hv.pairs
  have HR := Lib.hid hr
  have HS := Lib.hid hs
  clear hr hv hs hu
  go_enter Tryd.func69, Tryd.ntmps69
  by_cases hlm : l.length = m.length
  · have hlen : m.length ≤ l.length ∧ l.length ≤ m.length := by omega
    have hne : ((l.length : Int) != (m.length : Int)) = false := by simp [hlm]
    have HLM := Lib.hid hlm
    clear hlm
    go_wp2
    go_loopw [5] (fun i wr => ∃ k : Nat, k ≤ l.length ∧ i = .int .i64 k ∧ Below w.heap.size w wr ∧ Hid (∀ j, j < k → (pA l j, pB l j) = (pA m j, pB m j))) (fun i _ => l.length - (intOf i).toNat)
    case atStart => exact ⟨0, Nat.zero_le _, rfl, Below.refl _ _, fun j hj => absurd hj (Nat.not_lt_zero _)⟩
    case round =>
      obtain ⟨k, hk, rfl, hbl, hall⟩ := hrel
      by_cases hlt : k < l.length
      · have hlt2 : k < m.length := by omega
        obtain ⟨b, off, rfl, hb, hcell⟩ := HR.out (by omega)
        obtain ⟨b2, off2, rfl, hb2, hcell2⟩ := HS.out (by omega)
        have h0 := (hbl.cell (p := ⟨b, off + k*2, none⟩) hb).trans (hcell k hlt).1
        have h1 := (hbl.cell (p := ⟨b, off + k*2+1, none⟩) hb).trans (hcell k hlt).2
        have h2 := (hbl.cell (p := ⟨b2, off2 + k*2, none⟩) hb2).trans (hcell2 k hlt2).1
        have h3 := (hbl.cell (p := ⟨b2, off2 + k*2+1, none⟩) hb2).trans (hcell2 k hlt2).2
        clear hcell hcell2
        cases he : eqP (pA l k) (pB l k) (pA m k) (pB m k)
        · have fin : Hid (decide (l = m) = false) := by
            rw [Hid, decide_eq_false]; rintro rfl; simp [eqP] at he
          go_wp2
          go_still_tail 8, (by kernel_rfl)
          change wpList _ _ _ _ _ wr.drew
          go_wp2_with (go_at_call 68; refine (eqSpan_any _ _ _ _ _).mono ?_; rintro e w2 ⟨rfl, hb2⟩)
          go_ret
          exact ⟨by rw [fin.out]; rfl, (hbl.drew).trans (hb2.mono hbl.size)⟩
        · have fin : Hid ((pA l k, pB l k) = (pA m k, pB m k)) := by simpa [Hid, eqP] using he
          go_wp2
          go_still_tail 8, (by kernel_rfl)
          change wpList _ _ _ _ _ wr.drew
          go_wp2_with (go_at_call 68; refine (eqSpan_any _ _ _ _ _).mono ?_; rintro e w2 ⟨rfl, hb2⟩)
          go_roundw
          case rel => exact ⟨k+1, by omega, by go_num, (hbl.drew).trans (hb2.mono hbl.size), all_snoc hall.out fin.out⟩
          case measure => simp [intOf]; omega
      · go_wp2
        go_ret
        have he : l = m := pair_ext HLM.out fun j hj => hall.out j (by omega)
        exact ⟨ret_b (by rw [he]; simp), hbl⟩
  · have hne : ((l.length : Int) != (m.length : Int)) = true := by simp; omega
    have HLM := Lib.hid hlm
    clear hlm
    go_wp2
    go_ret
    exact ⟨ret_b (by rw [decide_eq_false]; intro e; exact HLM.out (by rw [e])), Below.refl _ _⟩

end Go.Proofs.YtdofpealmngmiaaDoor
