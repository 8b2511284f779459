/- Walks: amounts, sums and totals of carts. Conditions: none. -/
import Derived.Test.YtomapdedajdkkabCA
import Derived.Test.YtomapdedajdkkabTotFns
import Derived.Test.YtomapdedajdkkabRow
import Derived.StillTailTactics
import Derived.Lib.MinMax
import Derived.Deep.RegionHeld3
import Derived.Deep.AppendLies
namespace Go.Proofs.Ytomapdedajdkkab
open Go.RowKit

theorem Try.info3c : (Try.prog.info? 3).map (fun i => (i.zero, i.size, i.bytes)) = some (some (.int .i64 0), 1, 8) := by kernel_rfl

set_option maxHeartbeats 1000000 in
theorem total_any (l : List Int) (v : Value) (w : World) (hv : Rd w 1 v l.length (it l)) (hl : l.length ≤ 1000000) (hb : ∀ j, j < l.length → 0 ≤ iG l j ∧ iG l j ≤ 1000000) :
    Calls Try.prog 66 #[v] w fun e w' => e = .returned (.int .i64 (sumT l l.length)) ∧ w' = w := by
  obtain ⟨ao, cap, rfl, _, _, hr⟩ := hv.ints
  have HR := Lib.hid hr
  have HB := Lib.hid hb
  clear hr hv hb
  go_enter Try.func66, Try.ntmps66
  go_wp2
  go_loop [3, 8] (fun s i => ∃ k : Nat, k ≤ l.length ∧ i = .int .i64 k ∧ s = .int .i64 (sumT l k)) (fun _ i => l.length - (intOf i).toNat)
  case atStart => exact ⟨0, Nat.zero_le _, rfl, rfl⟩
  case round =>
    obtain ⟨k, hk, rfl, rfl⟩ := hrel
    by_cases hlt : k < l.length
    · obtain ⟨b, off, rfl, hb, hcell⟩ := HR.out (by omega)
      have h0 := hcell k hlt
      have h1 := HB.out k hlt
      obtain ⟨h11, h12⟩ := h1
      have h2 := sumT_bd HB.out k hk
      obtain ⟨h21, h22⟩ := h2
      have fin := Lib.hid (sumT_succ l k)
      clear hcell
      generalize iG l k = x at *
      go_wp2
      go_round
      case rel => exact ⟨k+1, by omega, by go_num, by rw [fin.out]⟩
      case measure => simp [intOf]; omega
    · obtain rfl : k = l.length := by omega
      go_wp2
      go_ret
      exact ⟨rfl, rfl⟩

set_option maxHeartbeats 1000000 in
theorem ssum_any (l : List Int) (v : Value) (w : World) (hv : Rd w 1 v l.length (it l)) (hl : l.length ≤ 1000000) (hb : ∀ j, j < l.length → 0 ≤ iG l j ∧ iG l j ≤ 1000000) :
    Calls Try.prog 77 #[v] w fun e w' => e = .returned (.int .i64 (sumT l l.length)) ∧ w' = w := by
  obtain ⟨ao, cap, rfl, _, _, hr⟩ := hv.ints
  have HR := Lib.hid hr
  have HB := Lib.hid hb
  clear hr hv hb
  go_enter Try.func77, Try.ntmps77
  go_wp2
  go_loop [3, 4] (fun s i => ∃ k : Nat, k ≤ l.length ∧ i = .int .i64 k ∧ s = .int .i64 (sumT l k)) (fun _ i => l.length - (intOf i).toNat)
  case atStart => exact ⟨0, Nat.zero_le _, rfl, rfl⟩
  case round =>
    obtain ⟨k, hk, rfl, rfl⟩ := hrel
    by_cases hlt : k < l.length
    · obtain ⟨b, off, rfl, hb, hcell⟩ := HR.out (by omega)
      have h0 := hcell k hlt
      have h1 := HB.out k hlt
      obtain ⟨h11, h12⟩ := h1
      have h2 := sumT_bd HB.out k hk
      obtain ⟨h21, h22⟩ := h2
      have fin := Lib.hid (sumT_succ l k)
      clear hcell
      generalize iG l k = x at *
      go_wp2
      go_round
      case rel => exact ⟨k+1, by omega, by go_num, by rw [fin.out]⟩
      case measure => simp [intOf]; omega
    · obtain rfl : k = l.length := by omega
      go_wp2
      go_ret
      exact ⟨rfl, rfl⟩

set_option maxHeartbeats 4000000 in
set_option maxRecDepth 100000 in
theorem implAmounts_any (s : List Art) (u : Value) (c : List (Int × Int)) (v : Value) (w : World) (hs : Rd w 4 u s.length (ar s)) (hv : Rd w 2 v c.length (pr c)) (hp : vCart s c = true) :
    Calls Try.prog 67 #[u, v] w fun e w' => ∃ o, e = .returned o ∧ w'.ownsRow w.heap.size 3 1 o (amK s c c.length).length (it (amK s c c.length)) ∧ Below w.heap.size w w' := by
  have HV := Lib.hid hv
  have HS := Lib.hid hs
  have hm := hs.len
  have hm2 := hv.len
  unfold maxLen at hm hm2
  obtain ⟨so, scap, rfl, _, _, hrs⟩ := hs.arts
  obtain ⟨co, ccap, rfl, _, _, hrc⟩ := hv.pairs
  have HRS := Lib.hid hrs
  have HRC := Lib.hid hrc
  clear hv hs hrs hrc
  obtain ⟨i0, hi, hz0, hz1, hz2⟩ := info_parts Try.info3c
  have HI := Lib.hid hi
  have HZ0 := Lib.hid hz0
  have HZ1 := Lib.hid hz1
  have HZ2 := Lib.hid hz2
  clear hi hz0 hz1 hz2
  have HOK := Lib.hid hp
  have O0 := Lib.hid (World.ownsRow_made w #[] 0 (Nat.le_refl _) (by simp) (by simp) : (w.alloc (.cells #[] 3)).ownsRow w.heap.size 3 1 (.slice (some ⟨w.heap.size, 0, none⟩) 0 0) 0 [])
  go_enter Try.func67, Try.ntmps67
  go_wp2_with (go_at_call 57; refine (implCart_any s _ c _ _ (HS.out.below ((Below.refl _ _).alloc (Nat.le_refl _) _) (Nat.le_refl _)) (HV.out.below ((Below.refl _ _).alloc (Nat.le_refl _) _) (Nat.le_refl _))).mono ?_; rintro e w1 ⟨rfl, hb1⟩; have B1 : Below w.heap.size w w1 := (((Below.refl _ _).alloc (Nat.le_refl _) _).trans (hb1.mono (by simp))); have O1 := Lib.hid (ownsRow_below O0.out hb1 (Nat.le_refl _)))
  go_loopw [5, 16] (fun o_ i_ wr => ∃ k : Nat, k ≤ c.length ∧ i_ = .int .i64 k ∧ Hid (wr.ownsRow w.heap.size 3 1 o_ (amK s c k).length (it (amK s c k))) ∧ Below w.heap.size w wr) (fun _ i_ _ => c.length - (intOf i_).toNat)
  case atStart => exact ⟨0, Nat.zero_le _, rfl, O1, B1⟩
  case round =>
    clear O1 B1 hp hb1
    obtain ⟨k, hk, rfl, O, hbl⟩ := hrel
    have hlen := amK_len s c k
    have hc8 := (vLines_all (vCart_pr HOK.out).2).2
    by_cases hlt : k < c.length
    · obtain ⟨h4, h5, h6, h7, h8, h9⟩ := art_in HOK.out hlt
      obtain ⟨b, off, rfl, hb, hcell⟩ := HRC.out (by omega)
      obtain ⟨sb, soff, rfl, hsb, hscell⟩ := HRS.out (by omega)
      obtain ⟨a, ha⟩ := Int.eq_ofNat_of_zero_le h5
      rw [ha, Int.toNat_natCast] at h4 h9
      have g0 := (hbl.cell (p := ⟨b, off + k*2, none⟩) hb).trans (hcell k hlt).1
      have g1 := (hbl.cell (p := ⟨b, off + k*2+1, none⟩) hb).trans (hcell k hlt).2
      have g3 := (hbl.cell (p := ⟨sb, soff + a*4, none⟩) hsb).trans (hscell a h4).1
      have hbw : b < wr.heap.size := Nat.lt_of_lt_of_le hb hbl.size
      have hsbw : sb < wr.heap.size := Nat.lt_of_lt_of_le hsb hbl.size
      have hwa := amt_bd HOK.out hlt
      have hwe : amt s c k = (aT s a).p * pB c k := by unfold amt; rw [ha, Int.toNat_natCast]
      have hst : Hid (amK s c (k + 1) = amK s c k ++ [amt s c k]) := rfl
      rw [hwe] at hwa hst
      rw [ha] at g0
      have HLEN := Lib.hid hlen
      clear hwe ha hcell hscell h5 h6 h7 h8 h9 hlen
      obtain ⟨x, hx⟩ : ∃ x, x = (aT s a).p := ⟨_, rfl⟩
      obtain ⟨y, hy⟩ : ∃ y, y = pB c k := ⟨_, rfl⟩
      rw [← hx, ← hy] at hst hwa
      rw [← hx] at g3
      rw [← hy] at g1
      clear hx hy
      obtain ⟨hw3, hw4⟩ := hwa
      have e1 : IntKind.i64.wrap (x * y) = x * y := IntWalk.i64_in _ (by omega)
      have ha0 : (0 : Int) ≤ (a : Int) := by omega
      have ha1 : (a : Int) < (s.length : Int) := by omega
      have hk0 : (0 : Int) ≤ (k : Int) := by omega
      have hk1 : (k : Int) < (c.length : Int) := by omega
      have bl1 := (hbl.alloc hbl.size (.cells #[.int .i64 a, .int .i64 y] 46))
      have ob1 := Lib.hid (O.out.alloc (.cells #[.int .i64 a, .int .i64 y] 46))
      go_wp2
      have q0 : (wr.alloc (.cells #[.int .i64 a, .int .i64 y] 46)).cell? ⟨wr.heap.size, 0, none⟩ = some (.int .i64 a) := cell_of_row _ _ _ _ _ _ (heap_alloc_new wr _)
      have q1 : (wr.alloc (.cells #[.int .i64 a, .int .i64 y] 46)).cell? ⟨wr.heap.size, 1, none⟩ = some (.int .i64 y) := cell_of_row _ _ _ _ _ _ (heap_alloc_new wr _)
      go_region_held3 (fun w' => w'.cell? ⟨wr.heap.size, 0, none⟩ = some (.int .i64 a) ∧ w'.cell? ⟨wr.heap.size, 1, none⟩ = some (.int .i64 y) ∧ w'.cell? ⟨sb, soff + a*4, none⟩ = some (.int .i64 x))
        (first
          | go_keep
          | (go_split_ands
             refine ⟨?_, ?_, ?_⟩
             · (rw [hgrow.cell_far _ (by simp; omega) (by intro hh; have := (O.out.lt _ hh.symm); dsimp only at this; omega)]; assumption)
             · (rw [hgrow.cell_far _ (by simp; omega) (by intro hh; have := (O.out.lt _ hh.symm); dsimp only at this; omega)]; assumption)
             · (rw [hgrow.cell_far _ (by simp; omega) (by intro hh; have := (O.out.lt _ hh.symm); dsimp only at this; omega)]; assumption)))
        ((refine step_append_lies _ (by rfl) _ _ _ (by rfl) w.heap.size 3 i0 _ 1 8 Try.underlying42 HI.out HZ0.out HZ1.out HZ2.out rfl (by omega) _ _ (it (amK s c k)) (by rfl) ((ob1.out.alloc _).drew)
            ⟨wr.heap.size + 1, 0, none⟩ 1 1 [.int .i64 (x * y)] (by rfl) (by rfl) (World.news_of_block (cs := #[.int .i64 (x * y)]) (t := 3) (fr := (0, 0)) (by have h9 := heap_alloc_new (wr.alloc (.cells #[.int .i64 a, .int .i64 y] 46)) (.cells #[.int .i64 (x * y)] 3); simp only [World.size_alloc] at h9; exact h9)) (by simp [Value.oneCell'])
            (by omega) (by rw [HLEN.out]; unfold maxLen; omega) (by rw [HLEN.out]; omega) (by simp; have := hbl.size; omega) (wr.heap.size + 2) (by simp) ?_; intro gg cap w9 hown9 hgrow hat hltg))
      have bl9 : Below w.heap.size w w9 := below_row ((bl1.alloc bl1.size _).drew) hgrow (fun k hk => (O.out.lt k hk).1)
      have o9' : w9.ownsRow w.heap.size 3 1 (.slice (some ⟨gg, 0, none⟩) ((amK s c k).length + 1) cap) (amK s c (k + 1)).length (it (amK s c (k + 1))) := by
        rw [hst.out, List.length_append, List.length_singleton]; simpa [it] using hown9
      have o9 := Lib.hid o9'
      clear hown9 hgrow hat hltg o9'
      go_wp2
      go_roundw
      case rel => exact ⟨k+1, by omega, by go_num, o9, bl9⟩
      case measure => simp [intOf]; omega
    · obtain rfl : k = c.length := by omega
      go_wp2
      go_ret
      exact ⟨_, rfl, O.out, hbl⟩

set_option maxHeartbeats 4000000 in
set_option maxRecDepth 100000 in
theorem specAmounts_any (s : List Art) (u : Value) (c : List (Int × Int)) (v : Value) (w : World) (hs : Rd w 4 u s.length (ar s)) (hv : Rd w 2 v c.length (pr c)) (hp : vCart s c = true) :
    Calls Try.prog 78 #[u, v] w fun e w' => ∃ o, e = .returned o ∧ w'.ownsRow w.heap.size 3 1 o (amK s c c.length).length (it (amK s c c.length)) ∧ Below w.heap.size w w' := by
  have HV := Lib.hid hv
  have HS := Lib.hid hs
  have hm := hs.len
  have hm2 := hv.len
  unfold maxLen at hm hm2
  obtain ⟨so, scap, rfl, _, _, hrs⟩ := hs.arts
  obtain ⟨co, ccap, rfl, _, _, hrc⟩ := hv.pairs
  have HRS := Lib.hid hrs
  have HRC := Lib.hid hrc
  clear hv hs hrs hrc
  obtain ⟨i0, hi, hz0, hz1, hz2⟩ := info_parts Try.info3c
  have HI := Lib.hid hi
  have HZ0 := Lib.hid hz0
  have HZ1 := Lib.hid hz1
  have HZ2 := Lib.hid hz2
  clear hi hz0 hz1 hz2
  have HOK := Lib.hid hp
  have O0 := Lib.hid (World.ownsRow_made w #[] 0 (Nat.le_refl _) (by simp) (by simp) : (w.alloc (.cells #[] 3)).ownsRow w.heap.size 3 1 (.slice (some ⟨w.heap.size, 0, none⟩) 0 0) 0 [])
  have B0 : Below w.heap.size w (w.alloc (.cells #[] 3)) := (Below.refl _ _).alloc (Nat.le_refl _) _
  go_enter Try.func78, Try.ntmps78
  go_wp2
  go_loopw [5, 6] (fun o_ i_ wr => ∃ k : Nat, k ≤ c.length ∧ i_ = .int .i64 k ∧ Hid (wr.ownsRow w.heap.size 3 1 o_ (amK s c k).length (it (amK s c k))) ∧ Below w.heap.size w wr) (fun _ i_ _ => c.length - (intOf i_).toNat)
  case atStart => exact ⟨0, Nat.zero_le _, rfl, O0, B0⟩
  case round =>
    clear O0 B0 hp
    obtain ⟨k, hk, rfl, O, hbl⟩ := hrel
    have hlen := amK_len s c k
    have hc8 := (vLines_all (vCart_pr HOK.out).2).2
    by_cases hlt : k < c.length
    · obtain ⟨h4, h5, h6, h7, h8, h9⟩ := art_in HOK.out hlt
      obtain ⟨b, off, rfl, hb, hcell⟩ := HRC.out (by omega)
      obtain ⟨sb, soff, rfl, hsb, hscell⟩ := HRS.out (by omega)
      obtain ⟨a, ha⟩ := Int.eq_ofNat_of_zero_le h5
      rw [ha, Int.toNat_natCast] at h4 h9
      have g0 := (hbl.cell (p := ⟨b, off + k*2, none⟩) hb).trans (hcell k hlt).1
      have g1 := (hbl.cell (p := ⟨b, off + k*2+1, none⟩) hb).trans (hcell k hlt).2
      have g3 := (hbl.cell (p := ⟨sb, soff + a*4, none⟩) hsb).trans (hscell a h4).1
      have hbw : b < wr.heap.size := Nat.lt_of_lt_of_le hb hbl.size
      have hsbw : sb < wr.heap.size := Nat.lt_of_lt_of_le hsb hbl.size
      have hwa := amt_bd HOK.out hlt
      have hwe : amt s c k = (aT s a).p * pB c k := by unfold amt; rw [ha, Int.toNat_natCast]
      have hst : Hid (amK s c (k + 1) = amK s c k ++ [amt s c k]) := rfl
      rw [hwe] at hwa hst
      rw [ha] at g0
      have HLEN := Lib.hid hlen
      clear hwe ha hcell hscell h5 h6 h7 h8 h9 hlen
      obtain ⟨x, hx⟩ : ∃ x, x = (aT s a).p := ⟨_, rfl⟩
      obtain ⟨y, hy⟩ : ∃ y, y = pB c k := ⟨_, rfl⟩
      rw [← hx, ← hy] at hst hwa
      rw [← hx] at g3
      rw [← hy] at g1
      clear hx hy
      obtain ⟨hw3, hw4⟩ := hwa
      have e1 : IntKind.i64.wrap (x * y) = x * y := IntWalk.i64_in _ (by omega)
      have ha0 : (0 : Int) ≤ (a : Int) := by omega
      have ha1 : (a : Int) < (s.length : Int) := by omega
      have hk0 : (0 : Int) ≤ (k : Int) := by omega
      have hk1 : (k : Int) < (c.length : Int) := by omega
      have bl1 := hbl
      have ob1 := Lib.hid O.out
      go_wp2
      have hk' : (k : Int) < (c.length : Int) := hk1
      go_region_held3 (fun w' => w'.cell? ⟨b, off + k*2, none⟩ = some (.int .i64 a) ∧ w'.cell? ⟨b, off + k*2+1, none⟩ = some (.int .i64 y) ∧ w'.cell? ⟨sb, soff + a*4, none⟩ = some (.int .i64 x))
        (first
          | go_keep
          | (go_split_ands
             refine ⟨?_, ?_, ?_⟩
             · (rw [hgrow.cell_far _ (by simp; omega) (by intro hh; have := (O.out.lt _ hh.symm).1; dsimp only at this; omega)]; assumption)
             · (rw [hgrow.cell_far _ (by simp; omega) (by intro hh; have := (O.out.lt _ hh.symm).1; dsimp only at this; omega)]; assumption)
             · (rw [hgrow.cell_far _ (by simp; omega) (by intro hh; have := (O.out.lt _ hh.symm).1; dsimp only at this; omega)]; assumption)))
        ((refine step_append_lies _ (by rfl) _ _ _ (by rfl) w.heap.size 3 i0 _ 1 8 Try.underlying42 HI.out HZ0.out HZ1.out HZ2.out rfl (by omega) _ _ (it (amK s c k)) (by rfl) ((ob1.out.alloc _).drew)
            ⟨wr.heap.size, 0, none⟩ 1 1 [.int .i64 (x * y)] (by rfl) (by rfl) (World.news_of_block (cs := #[.int .i64 (x * y)]) (t := 3) (fr := (0, 0)) (heap_alloc_new wr (.cells #[.int .i64 (x * y)] 3))) (by simp [Value.oneCell'])
            (by omega) (by rw [HLEN.out]; unfold maxLen; omega) (by rw [HLEN.out]; omega) (by simp; have := hbl.size; omega) (wr.heap.size + 1) (by simp) ?_; intro gg cap w9 hown9 hgrow hat hltg))
      have bl9 : Below w.heap.size w w9 := below_row ((bl1.alloc bl1.size _).drew) hgrow (fun k hk => (O.out.lt k hk).1)
      have o9' : w9.ownsRow w.heap.size 3 1 (.slice (some ⟨gg, 0, none⟩) ((amK s c k).length + 1) cap) (amK s c (k + 1)).length (it (amK s c (k + 1))) := by
        rw [hst.out, List.length_append, List.length_singleton]; simpa [it] using hown9
      have o9 := Lib.hid o9'
      clear hown9 hgrow hat hltg o9'
      go_wp2
      go_roundw
      case rel => exact ⟨k+1, by omega, by go_num, o9, bl9⟩
      case measure => simp [intOf]; omega
    · obtain rfl : k = c.length := by omega
      go_wp2
      go_ret
      exact ⟨_, rfl, O.out, hbl⟩

end Go.Proofs.Ytomapdedajdkkab
