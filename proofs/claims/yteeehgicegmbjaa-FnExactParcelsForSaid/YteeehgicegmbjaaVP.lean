/- Walks: packing parcels. Conditions: none. -/
import Derived.Test.YteeehgicegmbjaaVA
import Derived.Test.YteeehgicegmbjaaPackFns
import Derived.Test.YteeehgicegmbjaaRow
namespace Go.Proofs.Yteeehgicegmbjaa
open Go.RowKit

theorem Try.info3k : (Try.prog.info? 3).map (fun i => (i.zero, i.size, i.bytes)) = some (some (.int .i64 0), 1, 8) := by kernel_rfl

/-- all numbers are in a range -/
def allW (ws : List Int) (lo hi : Int) : Bool := (List.range ws.length).all fun i => wi (iG ws i) lo hi
theorem allW_bad {ws : List Int} {lo hi : Int} {k : Nat} (hk : k < ws.length) (h : wi (iG ws k) lo hi = false) : allW ws lo hi = false := by
  unfold allW; rw [List.all_eq_false]; exact ⟨k, List.mem_range.2 hk, by simp [h]⟩
theorem allW_end {ws : List Int} {lo hi : Int} (h : ∀ j, j < ws.length → wi (iG ws j) lo hi = true) : allW ws lo hi = true := by
  unfold allW; rw [List.all_eq_true]; exact fun j hj => h j (List.mem_range.1 hj)
theorem allW_pr {ws : List Int} {lo hi : Int} (h : allW ws lo hi = true) : ∀ j, j < ws.length → wi (iG ws j) lo hi = true := by
  unfold allW at h; rw [List.all_eq_true] at h; exact fun j hj => h j (List.mem_range.2 hj)
theorem allW_no {ws : List Int} {lo hi : Int} (h : allW ws lo hi = false) : ∃ k, k < ws.length ∧ wi (iG ws k) lo hi = false := by
  unfold allW at h; rw [List.all_eq_false] at h
  obtain ⟨k, hk, h2⟩ := h
  exact ⟨k, List.mem_range.1 hk, by simpa using h2⟩

set_option maxHeartbeats 1000000 in
theorem allIn_any (ws : List Int) (v : Value) (lo hi : Int) (w : World) (hv : Rd w 1 v ws.length (it ws)) :
    Calls Try.prog 50 #[v, .int .i64 lo, .int .i64 hi] w fun e w' => e = .returned (.bool (allW ws lo hi)) ∧ w' = w := by
  have hm := hv.len
  unfold maxLen at hm
  obtain ⟨ao, cap, rfl, _, _, hr⟩ := hv.ints
  have HR := Lib.hid hr
  clear hr hv
  go_enter Try.func50, Try.ntmps50
  go_wp2
  go_loop [7] (fun i => ∃ k : Nat, k ≤ ws.length ∧ i = .int .i64 k ∧ Hid (∀ j, j < k → wi (iG ws j) lo hi = true)) (fun i => ws.length - (intOf i).toNat)
  case atStart => exact ⟨0, Nat.zero_le _, rfl, fun j hj => absurd hj (Nat.not_lt_zero _)⟩
  case round =>
    obtain ⟨k, hk, rfl, hall⟩ := hrel
    by_cases hlt : k < ws.length
    · obtain ⟨b, off, rfl, hb, hcell⟩ := HR.out (by omega)
      have h0 := hcell k hlt
      clear hcell
      cases hA : wi (iG ws k) lo hi
      · have fin := Lib.hid (allW_bad hlt hA)
        go_wp2_with (go_at_call 46; refine (inRange_any _ _ _ _).mono ?_; rintro e w2 ⟨rfl, hw2⟩; subst hw2)
        go_ret
        exact ⟨by rw [fin.out]; rfl, rfl⟩
      · go_wp2_with (go_at_call 46; refine (inRange_any _ _ _ _).mono ?_; rintro e w2 ⟨rfl, hw2⟩; subst hw2)
        go_round
        case rel => exact ⟨k+1, by omega, by go_num, all_snoc hall.out hA⟩
        case measure => simp [intOf]; omega
    · have fin := Lib.hid (allW_end (ws := ws) fun j hj => hall.out j (by omega))
      go_wp2
      go_ret
      exact ⟨by rw [fin.out]; rfl, rfl⟩

/-- What packing hands back. -/
def ParcelsPost (l : List (Int × Int)) (ws : List Int) (w : World) (e : Ending) (w' : World) : Prop :=
  ∃ v : Value, e = .returned v ∧ w'.ownsRow w.heap.size 3 1 v (nats (fParcels l ws)).length (it (nats (fParcels l ws))) ∧ Below w.heap.size w w'

theorem parcels_no {l : List (Int × Int)} {ws : List Int} {w w1 : World} {v : Value} (h : fParcels l ws = []) (ho : w1.ownsRow w.heap.size 3 1 v 0 []) (hb : Below w.heap.size w w1) : ParcelsPost l ws w (.returned v) w1 :=
  ⟨v, rfl, by rw [h]; exact ho, hb⟩
theorem parcels_nil {l : List (Int × Int)} {ws : List Int} {w w1 : World} (h : fParcels l ws = []) (hb : Below w.heap.size w w1) : ParcelsPost l ws w (.returned (.slice none 0 0)) w1 :=
  parcels_no h ⟨rfl, .inl ⟨rfl, rfl⟩⟩ hb

set_option maxHeartbeats 4000000 in
theorem implParcels_v (l : List (Int × Int)) (v : Value) (ws : List Int) (u : Value) (w : World) (hv : Rd w 2 v l.length (pr l)) (hw : Rd w 1 u ws.length (it ws)) (hp : vBands l = false) :
    Calls Try.prog 28 #[v, u] w (ParcelsPost l ws w) := by
  have HV := Lib.hid hv
  have HW := Lib.hid hw
  have hm := hw.len
  unfold maxLen at hm
  obtain ⟨ao, cap, rfl, _, _, hr⟩ := hw.ints
  have HR := Lib.hid hr
  have O0 := Lib.hid (World.ownsRow_made w #[] 0 (Nat.le_refl _) (by simp) (by simp) : (w.alloc (.cells #[] 3)).ownsRow w.heap.size 3 1 (.slice (some ⟨w.heap.size, 0, none⟩) 0 0) 0 [])
  clear hr hw
  obtain ⟨bo, bcap, rfl, _⟩ := hv.pairs
  clear hv
  have fin := Lib.hid (fParcels_v (ws := ws) hp)
  go_enter Try.func28, Try.ntmps28
  go_wp2_with (go_at_call 16; refine (implValidBands_any l _ _ (HV.out.below ((Below.refl _ _).alloc (Nat.le_refl _) _) (Nat.le_refl _))).mono ?_; rintro e w1 ⟨rfl, hb1⟩; have B1 : Below w.heap.size w w1 := (((Below.refl _ _).alloc (Nat.le_refl _) _).trans (hb1.mono (by simp))); have O1 := Lib.hid (ownsRow_below O0.out hb1 (Nat.le_refl _)))
  go_ret
  exact parcels_no fin.out O1.out B1

set_option maxHeartbeats 4000000 in
theorem implParcels_n (l : List (Int × Int)) (v : Value) (ws : List Int) (u : Value) (w : World) (hv : Rd w 2 v l.length (pr l)) (hw : Rd w 1 u ws.length (it ws)) (hp : vBands l = true) (h8 : 8 < ws.length) :
    Calls Try.prog 28 #[v, u] w (ParcelsPost l ws w) := by
  have HV := Lib.hid hv
  have HW := Lib.hid hw
  have hm := hw.len
  unfold maxLen at hm
  obtain ⟨ao, cap, rfl, _, _, hr⟩ := hw.ints
  have HR := Lib.hid hr
  have O0 := Lib.hid (World.ownsRow_made w #[] 0 (Nat.le_refl _) (by simp) (by simp) : (w.alloc (.cells #[] 3)).ownsRow w.heap.size 3 1 (.slice (some ⟨w.heap.size, 0, none⟩) 0 0) 0 [])
  clear hr hw
  obtain ⟨bo, bcap, rfl, _⟩ := hv.pairs
  clear hv
  have fin := Lib.hid (fParcels_n (l := l) h8)
  go_enter Try.func28, Try.ntmps28
  go_wp2_with (go_at_call 16; refine (implValidBands_any l _ _ (HV.out.below ((Below.refl _ _).alloc (Nat.le_refl _) _) (Nat.le_refl _))).mono ?_; rintro e w1 ⟨rfl, hb1⟩; have B1 : Below w.heap.size w w1 := (((Below.refl _ _).alloc (Nat.le_refl _) _).trans (hb1.mono (by simp))); have O1 := Lib.hid (ownsRow_below O0.out hb1 (Nat.le_refl _)))
  go_ret
  exact parcels_no fin.out O1.out B1

set_option maxHeartbeats 4000000 in
theorem implParcels_y (l : List (Int × Int)) (v : Value) (ws : List Int) (u : Value) (w : World) (hv : Rd w 2 v l.length (pr l)) (hw : Rd w 1 u ws.length (it ws)) (hp : vBands l = true) (h8 : ¬ 8 < ws.length) :
    Calls Try.prog 28 #[v, u] w (ParcelsPost l ws w) := by
  have HV := Lib.hid hv
  have HW := Lib.hid hw
  have hm := hw.len
  unfold maxLen at hm
  obtain ⟨ao, cap, rfl, _, _, hr⟩ := hw.ints
  have HR := Lib.hid hr
  have O0 := Lib.hid (World.ownsRow_made w #[] 0 (Nat.le_refl _) (by simp) (by simp) : (w.alloc (.cells #[] 3)).ownsRow w.heap.size 3 1 (.slice (some ⟨w.heap.size, 0, none⟩) 0 0) 0 [])
  clear hr hw
  obtain ⟨j, hj⟩ : ∃ j, l.length = j + 1 := ⟨l.length - 1, by have := (vBands_all hp).2.1; omega⟩
  have hj5 : j ≤ 5 := by have := (vBands_all hp).2.2; omega
  obtain ⟨bo, bcap, hv0, _, _, hr0⟩ := hv.pairs
  obtain ⟨gb, offb, rfl, hgb, hcb⟩ := hr0 (by omega)
  have c0 := (hcb j (by omega)).1
  rw [hj] at hv0
  subst hv0
  have hbd := bdOk_pr ((vBands_all hp).1 j (by omega))
  obtain ⟨most, hmo⟩ : ∃ m, m = pA l j := ⟨_, rfl⟩
  rw [← hmo] at c0 hbd
  have HMO : Hid (pA l (l.length - 1) = most) := by rw [Hid, hmo, hj, Nat.add_sub_cancel]
  obtain ⟨hmo1, hmo2, _⟩ := hbd
  have hwj : IntKind.i64.wrap (j : Int) = (j : Int) := IntWalk.i64_in _ (by omega)
  clear hmo hcb hr0 hj hv
  obtain ⟨i0, hi, hz0, hz1, hz2⟩ := info_parts Try.info3k
  have HI := Lib.hid hi
  have HZ0 := Lib.hid hz0
  have HZ1 := Lib.hid hz1
  have HZ2 := Lib.hid hz2
  clear hi hz0 hz1 hz2
  go_enter Try.func28, Try.ntmps28
  go_wp2_with (go_at_call 16; refine (implValidBands_any l _ _ (HV.out.below ((Below.refl _ _).alloc (Nat.le_refl _) _) (Nat.le_refl _))).mono ?_; rintro e w1 ⟨rfl, hb1⟩; have B1 : Below w.heap.size w w1 := (((Below.refl _ _).alloc (Nat.le_refl _) _).trans (hb1.mono (by simp))); have O1 := Lib.hid (ownsRow_below O0.out hb1 (Nat.le_refl _)); have c1 := (B1.cell (p := ⟨gb, offb + j * 2, none⟩) hgb).trans c0; have hgb1 := Nat.lt_of_lt_of_le hgb B1.size)
  go_loop [31] (fun i => ∃ k : Nat, k ≤ ws.length ∧ i = .int .i64 k ∧ Hid (∀ j, j < k → wi (iG ws j) 0 most = true)) (fun i => ws.length - (intOf i).toNat)
  case atStart => exact ⟨0, Nat.zero_le _, rfl, fun j hj => absurd hj (Nat.not_lt_zero _)⟩
  case round =>
    obtain ⟨k, hk, rfl, hall⟩ := hrel
    by_cases hlt : k < ws.length
    · obtain ⟨b, off, rfl, hb, hcell⟩ := HR.out (by omega)
      have h0 := (B1.cell (p := ⟨b, off + k, none⟩) hb).trans (hcell k hlt)
      clear hcell
      cases hA : wi (iG ws k) 0 most
      · have fin := Lib.hid (fParcels_w hlt (by rw [HMO.out]; exact hA))
        go_wp2_with (go_at_call 39; refine (within_any _ _ _ _).mono ?_; rintro e w2 ⟨rfl, hw2⟩; subst hw2)
        go_ret
        exact parcels_no fin.out O1.out B1
      · go_wp2_with (go_at_call 39; refine (within_any _ _ _ _).mono ?_; rintro e w2 ⟨rfl, hw2⟩; subst hw2)
        go_round
        case rel => exact ⟨k+1, by omega, by go_num, all_snoc hall.out hA⟩
        case measure => simp [intOf]; omega
    · obtain rfl : k = ws.length := by omega
      have HALL := hall.out
      have HY := Lib.hid (fParcels_y (ws := ws) hp (by omega) (by rw [HMO.out]; exact HALL))
      have HB : Hid (∀ i, i < ws.length → 0 ≤ iG ws i ∧ iG ws i ≤ most) := fun i hi => wi_true.1 (HALL i hi)
      have hmost : 0 ≤ most ∧ most ≤ 800000 := by omega
      rw [HMO.out] at HY
      have OS : Hid (w1.ownsRow w.heap.size 3 1 (.slice (some ⟨w.heap.size, 0, none⟩) 0 0) (nats []).length (it (nats []))) := O1.out
      have BS := B1
      clear hall HALL O1 B1 hb1
      go_wp2
      go_loopw [5, 9, 43] (fun v ld i wr => ∃ (k : Nat) (o : List Nat) (load : Int), k ≤ ws.length ∧ i = .int .i64 k ∧ Hid (pk most ws k = (o, load)) ∧ Hid (wr.ownsRow w.heap.size 3 1 v (nats o).length (it (nats o))) ∧ ld = .int .i64 load ∧ Below w.heap.size w wr) (fun _ _ i _ => ws.length - (intOf i).toNat)
      case atStart => exact ⟨0, [], 0, Nat.zero_le _, rfl, rfl, OS, rfl, BS⟩
      case round =>
        clear OS BS
        obtain ⟨k, o, load, hk, rfl, hpk0, O, rfl, hbl⟩ := hrel
        have hpe := hpk0.out
        have h1 := pk_len most ws k
        have h2 := pk_load HB.out hmost.1 k hk
        have h3 := (packed_all (fun i hi => (HB.out i hi).2) k hk).cnt
        rw [hpe] at h1 h2 h3
        simp only at h1 h2 h3
        obtain ⟨hl0, hl1⟩ := h2
        by_cases hlt : k < ws.length
        · obtain ⟨b, off, rfl, hbw, hcell⟩ := HR.out (by omega)
          have h0 := (hbl.cell (p := ⟨b, off + k, none⟩) hbw).trans (hcell k hlt)
          have hbw1 : b < wr.heap.size := Nat.lt_of_lt_of_le hbw hbl.size
          have hbw2 : ∀ w3, Below w.heap.size w w3 → b < w3.heap.size ∧ w3.cell? ⟨b, off + k, none⟩ = some (.int .i64 (iG ws k)) := fun w3 h => ⟨Nat.lt_of_lt_of_le hbw h.size, (h.cell (p := ⟨b, off + k, none⟩) hbw).trans (hcell k hlt)⟩
          have hwk := HB.out k hlt
          obtain ⟨hwk1, hwk2⟩ := hwk
          clear hcell
          obtain ⟨ao0, cap0, rfl, hsh0⟩ := owns_shape O.out
          have hw1 : IntKind.i64.wrap (o.length : Int) = (o.length : Int) := IntWalk.i64_in _ (by omega)
          have H3 := Lib.hid h3
          clear h3
          by_cases hc : o = [] ∨ most < load + iG ws k
          · have hpk := Lib.hid (pk_new hpe hc)
            cases hz : (((nats o).length : Int) == 0)
            · have hcm : most < load + iG ws k := by
                rcases hc with rfl | h
                · simp [nats] at hz
                · exact h
              clear hc hsh0
              have HL : Hid ((nats o ++ [0]).length = o.length + 1) := by simp [Hid, nats_len]
              have HC0 : Hid (iG (nats o ++ [0]) o.length = 0) := by rw [Hid, ← nats_len]; exact iG_last _ _
              go_wp2_with (at_builtin; refine app_int rfl (.tmp 57) (.tmp 58) 42 rfl w.heap.size 3 _ i0 _ Try.underlying42 HI.out HZ0.out HZ1.out HZ2.out rfl _ (nats o) 0 rfl O.out rfl (by rw [nats_len]; omega) hbl.size ?_; intro v1 w3 ho3 hg3; have B3 := below_row (hbl.alloc hbl.size _) hg3 (fun k hk => (O.out.lt k hk).1); rw [HL.out] at ho3; obtain ⟨ao1, cap1, rfl, hsh⟩ := owns_shape ho3; have HSH := Lib.hid hsh; have O3 := Lib.hid ho3; clear ho3 hg3 hsh; obtain ⟨g1, rfl, hgb1⟩ := HSH.out (by omega); obtain ⟨c0, f0⟩ := owns_at1 O3.out o.length (by omega); rw [HC0.out] at c0; obtain ⟨hb31, hb32⟩ := (hbw2 w3 B3); have hbg : ¬ b = g1 := (by omega))
              have e1 := owns_set1 O3.out o.length 1
              have O4 : Hid ((w3.setCell ⟨g1, o.length, none⟩ (.int .i64 1)).ownsRow w.heap.size 3 1 (.slice (some ⟨g1, 0, none⟩) (o.length + 1) cap1) (nats (o ++ [1])).length (it (nats (o ++ [1])))) := by
                have := e1.1
                rw [show List.set (nats o ++ [0]) o.length 1 = nats o ++ [1] by rw [← nats_len]; exact set_lastI _ _ _] at this
                rw [Hid, nats_snoc, show (nats o ++ [((1 : Nat) : Int)]).length = o.length + 1 by simp [nats_len]]
                exact this
              have B4 := below_row B3 e1.2 (fun k hk => by simp only [Option.some.injEq] at hk; omega)
              clear e1 O3
              go_roundw
              case rel => exact ⟨k + 1, o ++ [1], iG ws k, by omega, by go_num, hpk, O4, rfl, B4⟩
              case measure => simp [intOf]; omega
            · clear hc hsh0
              have HL : Hid ((nats o ++ [0]).length = o.length + 1) := by simp [Hid, nats_len]
              have HC0 : Hid (iG (nats o ++ [0]) o.length = 0) := by rw [Hid, ← nats_len]; exact iG_last _ _
              go_wp2_with (at_builtin; refine app_int rfl (.tmp 57) (.tmp 58) 42 rfl w.heap.size 3 _ i0 _ Try.underlying42 HI.out HZ0.out HZ1.out HZ2.out rfl _ (nats o) 0 rfl O.out rfl (by rw [nats_len]; omega) hbl.size ?_; intro v1 w3 ho3 hg3; have B3 := below_row (hbl.alloc hbl.size _) hg3 (fun k hk => (O.out.lt k hk).1); rw [HL.out] at ho3; obtain ⟨ao1, cap1, rfl, hsh⟩ := owns_shape ho3; have HSH := Lib.hid hsh; have O3 := Lib.hid ho3; clear ho3 hg3 hsh; obtain ⟨g1, rfl, hgb1⟩ := HSH.out (by omega); obtain ⟨c0, f0⟩ := owns_at1 O3.out o.length (by omega); rw [HC0.out] at c0; obtain ⟨hb31, hb32⟩ := (hbw2 w3 B3); have hbg : ¬ b = g1 := (by omega))
              have e1 := owns_set1 O3.out o.length 1
              have O4 : Hid ((w3.setCell ⟨g1, o.length, none⟩ (.int .i64 1)).ownsRow w.heap.size 3 1 (.slice (some ⟨g1, 0, none⟩) (o.length + 1) cap1) (nats (o ++ [1])).length (it (nats (o ++ [1])))) := by
                have := e1.1
                rw [show List.set (nats o ++ [0]) o.length 1 = nats o ++ [1] by rw [← nats_len]; exact set_lastI _ _ _] at this
                rw [Hid, nats_snoc, show (nats o ++ [((1 : Nat) : Int)]).length = o.length + 1 by simp [nats_len]]
                exact this
              have B4 := below_row B3 e1.2 (fun k hk => by simp only [Option.some.injEq] at hk; omega)
              clear e1 O3
              go_roundw
              case rel => exact ⟨k + 1, o ++ [1], iG ws k, by omega, by go_num, hpk, O4, rfl, B4⟩
              case measure => simp [intOf]; omega
          · have ho : ¬ o = [] := fun e => hc (.inl e)
            have hcm : ¬ most < load + iG ws k := fun e => hc (.inr e)
            clear hc hw1
            obtain ⟨f, c, rfl⟩ := snoc_of ho
            clear ho
            have hc9 : c ≤ 8 := by have := nG_le (f ++ [c]) f.length; have h3 := H3.out; rw [nG_last] at this; omega
            have hfl : (f ++ [c]).length = f.length + 1 := by simp
            have hfn : (nats (f ++ [c])).length = f.length + 1 := by rw [nats_len]; exact hfl
            rw [hfl] at h1
            rw [hfn] at hsh0
            obtain ⟨g, rfl, hgb⟩ := hsh0 (by omega)
            rw [hfn] at O
            rw [hfn]
            have HFL := Lib.hid hfl
            have HFN := Lib.hid hfn
            have hw1 : IntKind.i64.wrap (f.length : Int) = (f.length : Int) := IntWalk.i64_in _ (by omega)
            have hne0 : (((f.length : Int) + 1) == 0) = false := by rw [beq_eq_false_iff_ne]; omega
            clear hfl hfn hsh0
            have hcm2 : load + iG ws k ≤ most := by omega
            have hcmb : decide (most < load + iG ws k) = false := by simpa using hcm
            have hpk := Lib.hid (pk_more hpe hcm2)
            obtain ⟨c0, f0⟩ := owns_at1 O.out f.length (by omega)
            rw [show iG (nats (f ++ [c])) f.length = (c : Int) by rw [nats_get, nG_last]] at c0
            have hgw : g < wr.heap.size := (O.out.lt g rfl).2
            have hbg : ¬ b = g := by omega
            go_wp2
            have e1 := owns_set1 O.out f.length ((c : Int) + 1)
            have O4 : Hid ((wr.setCell ⟨g, f.length, none⟩ (.int .i64 ((c : Int) + 1))).ownsRow w.heap.size 3 1 (.slice (some ⟨g, 0, none⟩) (f.length + 1) cap0) (nats (f ++ [c + 1])).length (it (nats (f ++ [c + 1])))) := by
              have := e1.1
              rw [show (nats (f ++ [c])).set f.length ((c : Int) + 1) = nats (f ++ [c + 1]) by rw [nats_snoc, nats_snoc, ← nats_len f]; exact set_lastI _ _ _] at this
              rw [Hid, show (nats (f ++ [c + 1])).length = f.length + 1 by simp [nats_len]]
              exact this
            have B4 := below_row hbl e1.2 (fun k hk => by simp only [Option.some.injEq] at hk; omega)
            clear e1
            go_roundw
            case rel => exact ⟨k + 1, f ++ [c + 1], load + iG ws k, by omega, by go_num, hpk, O4, rfl, B4⟩
            case measure => simp [intOf]; omega
        · obtain rfl : k = ws.length := by omega
          go_wp2
          go_ret
          refine ⟨_, rfl, ?_, hbl⟩
          rw [HY.out, show pk most ws ws.length = (o, load) from hpe]
          exact O.out

theorem implParcels_any (l : List (Int × Int)) (v : Value) (ws : List Int) (u : Value) (w : World) (hv : Rd w 2 v l.length (pr l)) (hw : Rd w 1 u ws.length (it ws)) :
    Calls Try.prog 28 #[v, u] w (ParcelsPost l ws w) := by
  cases hp : vBands l
  · exact implParcels_v l v ws u w hv hw hp
  by_cases h8 : 8 < ws.length
  · exact implParcels_n l v ws u w hv hw hp h8
  · exact implParcels_y l v ws u w hv hw hp h8

set_option maxHeartbeats 4000000 in
theorem specParcels_v (l : List (Int × Int)) (v : Value) (ws : List Int) (u : Value) (w : World) (hv : Rd w 2 v l.length (pr l)) (hw : Rd w 1 u ws.length (it ws)) (hp : vBands l = false) :
    Calls Try.prog 30 #[v, u] w (ParcelsPost l ws w) := by
  have HV := Lib.hid hv
  have HW := Lib.hid hw
  have hm := hw.len
  unfold maxLen at hm
  obtain ⟨ao, cap, rfl, _, _, hr⟩ := hw.ints
  have HR := Lib.hid hr
  have O0 := Lib.hid (World.ownsRow_made w #[] 0 (Nat.le_refl _) (by simp) (by simp) : (w.alloc (.cells #[] 3)).ownsRow w.heap.size 3 1 (.slice (some ⟨w.heap.size, 0, none⟩) 0 0) 0 [])
  clear hr hw
  obtain ⟨bo, bcap, rfl, _⟩ := hv.pairs
  clear hv
  have fin := Lib.hid (fParcels_v (ws := ws) hp)
  go_enter Try.func30, Try.ntmps30
  go_wp2_with (go_at_call 41; refine (specValidBands_in l _ _ (HV.out.below ((Below.refl _ _).alloc (Nat.le_refl _) _) (Nat.le_refl _))).mono ?_; rintro e w1 ⟨rfl, hb1⟩; have B1 : Below w.heap.size w w1 := (((Below.refl _ _).alloc (Nat.le_refl _) _).trans (hb1.mono (by simp))); have O1 := Lib.hid (ownsRow_below O0.out hb1 (Nat.le_refl _)))
  go_ret
  exact parcels_nil fin.out B1

set_option maxHeartbeats 4000000 in
theorem specParcels_n (l : List (Int × Int)) (v : Value) (ws : List Int) (u : Value) (w : World) (hv : Rd w 2 v l.length (pr l)) (hw : Rd w 1 u ws.length (it ws)) (hp : vBands l = true) (h8 : 8 < ws.length) :
    Calls Try.prog 30 #[v, u] w (ParcelsPost l ws w) := by
  have HV := Lib.hid hv
  have HW := Lib.hid hw
  have hm := hw.len
  unfold maxLen at hm
  obtain ⟨ao, cap, rfl, _, _, hr⟩ := hw.ints
  have HR := Lib.hid hr
  have O0 := Lib.hid (World.ownsRow_made w #[] 0 (Nat.le_refl _) (by simp) (by simp) : (w.alloc (.cells #[] 3)).ownsRow w.heap.size 3 1 (.slice (some ⟨w.heap.size, 0, none⟩) 0 0) 0 [])
  clear hr hw
  obtain ⟨bo, bcap, rfl, _⟩ := hv.pairs
  clear hv
  have fin := Lib.hid (fParcels_n (l := l) h8)
  go_enter Try.func30, Try.ntmps30
  go_wp2_with (go_at_call 41; refine (specValidBands_in l _ _ (HV.out.below ((Below.refl _ _).alloc (Nat.le_refl _) _) (Nat.le_refl _))).mono ?_; rintro e w1 ⟨rfl, hb1⟩; have B1 : Below w.heap.size w w1 := (((Below.refl _ _).alloc (Nat.le_refl _) _).trans (hb1.mono (by simp))); have O1 := Lib.hid (ownsRow_below O0.out hb1 (Nat.le_refl _)))
  go_ret
  exact parcels_nil fin.out B1

set_option maxHeartbeats 4000000 in
theorem specParcels_y (l : List (Int × Int)) (v : Value) (ws : List Int) (u : Value) (w : World) (hv : Rd w 2 v l.length (pr l)) (hw : Rd w 1 u ws.length (it ws)) (hp : vBands l = true) (h8 : ¬ 8 < ws.length) :
    Calls Try.prog 30 #[v, u] w (ParcelsPost l ws w) := by
  have HV := Lib.hid hv
  have HW := Lib.hid hw
  have hm := hw.len
  unfold maxLen at hm
  obtain ⟨ao, cap, rfl, _, _, hr⟩ := hw.ints
  have HR := Lib.hid hr
  have O0 := Lib.hid (World.ownsRow_made w #[] 0 (Nat.le_refl _) (by simp) (by simp) : (w.alloc (.cells #[] 3)).ownsRow w.heap.size 3 1 (.slice (some ⟨w.heap.size, 0, none⟩) 0 0) 0 [])
  clear hr hw
  obtain ⟨j, hj⟩ : ∃ j, l.length = j + 1 := ⟨l.length - 1, by have := (vBands_all hp).2.1; omega⟩
  have hj5 : j ≤ 5 := by have := (vBands_all hp).2.2; omega
  obtain ⟨bo, bcap, hv0, _, _, hr0⟩ := hv.pairs
  obtain ⟨gb, offb, rfl, hgb, hcb⟩ := hr0 (by omega)
  have c0 := (hcb j (by omega)).1
  rw [hj] at hv0
  subst hv0
  have hbd := bdOk_pr ((vBands_all hp).1 j (by omega))
  obtain ⟨most, hmo⟩ : ∃ m, m = pA l j := ⟨_, rfl⟩
  rw [← hmo] at c0 hbd
  have HMO : Hid (pA l (l.length - 1) = most) := by rw [Hid, hmo, hj, Nat.add_sub_cancel]
  obtain ⟨hmo1, hmo2, _⟩ := hbd
  have hwj : IntKind.i64.wrap (j : Int) = (j : Int) := IntWalk.i64_in _ (by omega)
  clear hmo hcb hr0 hj hv
  obtain ⟨i0, hi, hz0, hz1, hz2⟩ := info_parts Try.info3k
  have HI := Lib.hid hi
  have HZ0 := Lib.hid hz0
  have HZ1 := Lib.hid hz1
  have HZ2 := Lib.hid hz2
  clear hi hz0 hz1 hz2
  cases hA : allW ws 0 most
  · obtain ⟨k, hk, hb⟩ := allW_no hA
    have fin := Lib.hid (fParcels_w (l := l) hk (by rw [HMO.out]; exact hb))
    clear hb
    go_enter Try.func30, Try.ntmps30
    go_wp2_with (first | (go_at_call 41; refine (specValidBands_in l _ _ (HV.out.below ((Below.refl _ _).alloc (Nat.le_refl _) _) (Nat.le_refl _))).mono ?_; rintro e w1 ⟨rfl, hb1⟩; have B1 : Below w.heap.size w w1 := (((Below.refl _ _).alloc (Nat.le_refl _) _).trans (hb1.mono (by simp))); have O1 := Lib.hid (ownsRow_below O0.out hb1 (Nat.le_refl _)); have c1 := (B1.cell (p := ⟨gb, offb + j * 2, none⟩) hgb).trans c0; have hgb1 := Nat.lt_of_lt_of_le hgb B1.size) | (go_at_call 50; refine (allIn_any ws _ 0 most _ (HW.out.below B1 (Nat.le_refl _))).mono ?_; rintro e w2 ⟨rfl, hw2⟩; subst hw2))
    go_ret
    exact parcels_nil fin.out B1
  · have HALL := allW_pr hA
    have HY := Lib.hid (fParcels_y (ws := ws) hp (by omega) (by rw [HMO.out]; exact HALL))
    have HB : Hid (∀ i, i < ws.length → 0 ≤ iG ws i ∧ iG ws i ≤ most) := fun i hi => wi_true.1 (HALL i hi)
    have hmost : 0 ≤ most ∧ most ≤ 800000 := by omega
    rw [HMO.out] at HY
    clear HALL
    go_enter Try.func30, Try.ntmps30
    go_wp2_with (first | (go_at_call 41; refine (specValidBands_in l _ _ (HV.out.below ((Below.refl _ _).alloc (Nat.le_refl _) _) (Nat.le_refl _))).mono ?_; rintro e w1 ⟨rfl, hb1⟩; have B1 : Below w.heap.size w w1 := (((Below.refl _ _).alloc (Nat.le_refl _) _).trans (hb1.mono (by simp))); have O1 := Lib.hid (ownsRow_below O0.out hb1 (Nat.le_refl _)); have c1 := (B1.cell (p := ⟨gb, offb + j * 2, none⟩) hgb).trans c0; have hgb1 := Nat.lt_of_lt_of_le hgb B1.size) | (go_at_call 50; refine (allIn_any ws _ 0 most _ (HW.out.below B1 (Nat.le_refl _))).mono ?_; rintro e w2 ⟨rfl, hw2⟩; subst hw2))
    have OS : Hid (w2.ownsRow w.heap.size 3 1 (.slice (some ⟨w.heap.size, 0, none⟩) 0 0) (nats []).length (it (nats []))) := O1.out
    have BS := B1
    clear O1 B1 hb1 hA
    go_loopw [5, 7, 8] (fun v ld i wr => ∃ (k : Nat) (o : List Nat) (load : Int), k ≤ ws.length ∧ i = .int .i64 k ∧ Hid (pk most ws k = (o, load)) ∧ Hid (wr.ownsRow w.heap.size 3 1 v (nats o).length (it (nats o))) ∧ ld = .int .i64 load ∧ Below w.heap.size w wr) (fun _ _ i _ => ws.length - (intOf i).toNat)
    case atStart => exact ⟨0, [], 0, Nat.zero_le _, rfl, rfl, OS, rfl, BS⟩
    case round =>
      clear OS BS
      obtain ⟨k, o, load, hk, rfl, hpk0, O, rfl, hbl⟩ := hrel
      have hpe := hpk0.out
      have h1 := pk_len most ws k
      have h2 := pk_load HB.out hmost.1 k hk
      have h3 := (packed_all (fun i hi => (HB.out i hi).2) k hk).cnt
      rw [hpe] at h1 h2 h3
      simp only at h1 h2 h3
      obtain ⟨hl0, hl1⟩ := h2
      by_cases hlt : k < ws.length
      · obtain ⟨b, off, rfl, hbw, hcell⟩ := HR.out (by omega)
        have h0 := (hbl.cell (p := ⟨b, off + k, none⟩) hbw).trans (hcell k hlt)
        have hbw1 : b < wr.heap.size := Nat.lt_of_lt_of_le hbw hbl.size
        have hbw2 : ∀ w3, Below w.heap.size w w3 → b < w3.heap.size ∧ w3.cell? ⟨b, off + k, none⟩ = some (.int .i64 (iG ws k)) := fun w3 h => ⟨Nat.lt_of_lt_of_le hbw h.size, (h.cell (p := ⟨b, off + k, none⟩) hbw).trans (hcell k hlt)⟩
        have hwk := HB.out k hlt
        obtain ⟨hwk1, hwk2⟩ := hwk
        clear hcell
        obtain ⟨ao0, cap0, rfl, hsh0⟩ := owns_shape O.out
        have hw1 : IntKind.i64.wrap (o.length : Int) = (o.length : Int) := IntWalk.i64_in _ (by omega)
        have H3 := Lib.hid h3
        clear h3
        by_cases hc : o = [] ∨ most < load + iG ws k
        · have hpk := Lib.hid (pk_new hpe hc)
          cases hz : (((nats o).length : Int) == 0)
          · have hcm : most < load + iG ws k := by
              rcases hc with rfl | h
              · simp [nats] at hz
              · exact h
            clear hc hsh0
            have HL : Hid ((nats o ++ [0]).length = o.length + 1) := by simp [Hid, nats_len]
            have HC0 : Hid (iG (nats o ++ [0]) o.length = 0) := by rw [Hid, ← nats_len]; exact iG_last _ _
            go_wp2_with (at_builtin; refine app_int rfl (.tmp 56) (.tmp 57) 42 rfl w.heap.size 3 _ i0 _ Try.underlying42 HI.out HZ0.out HZ1.out HZ2.out rfl _ (nats o) 0 rfl O.out rfl (by rw [nats_len]; omega) hbl.size ?_; intro v1 w3 ho3 hg3; have B3 := below_row (hbl.alloc hbl.size _) hg3 (fun k hk => (O.out.lt k hk).1); rw [HL.out] at ho3; obtain ⟨ao1, cap1, rfl, hsh⟩ := owns_shape ho3; have HSH := Lib.hid hsh; have O3 := Lib.hid ho3; clear ho3 hg3 hsh; obtain ⟨g1, rfl, hgb1⟩ := HSH.out (by omega); obtain ⟨c0, f0⟩ := owns_at1 O3.out o.length (by omega); rw [HC0.out] at c0; obtain ⟨hb31, hb32⟩ := (hbw2 w3 B3); have hbg : ¬ b = g1 := (by omega))
            have e1 := owns_set1 O3.out o.length 1
            have O4 : Hid ((w3.setCell ⟨g1, o.length, none⟩ (.int .i64 1)).ownsRow w.heap.size 3 1 (.slice (some ⟨g1, 0, none⟩) (o.length + 1) cap1) (nats (o ++ [1])).length (it (nats (o ++ [1])))) := by
              have := e1.1
              rw [show List.set (nats o ++ [0]) o.length 1 = nats o ++ [1] by rw [← nats_len]; exact set_lastI _ _ _] at this
              rw [Hid, nats_snoc, show (nats o ++ [((1 : Nat) : Int)]).length = o.length + 1 by simp [nats_len]]
              exact this
            have B4 := below_row B3 e1.2 (fun k hk => by simp only [Option.some.injEq] at hk; omega)
            clear e1 O3
            go_roundw
            case rel => exact ⟨k + 1, o ++ [1], iG ws k, by omega, by go_num, hpk, O4, rfl, B4⟩
            case measure => simp [intOf]; omega
          · clear hc hsh0
            have HL : Hid ((nats o ++ [0]).length = o.length + 1) := by simp [Hid, nats_len]
            have HC0 : Hid (iG (nats o ++ [0]) o.length = 0) := by rw [Hid, ← nats_len]; exact iG_last _ _
            go_wp2_with (at_builtin; refine app_int rfl (.tmp 56) (.tmp 57) 42 rfl w.heap.size 3 _ i0 _ Try.underlying42 HI.out HZ0.out HZ1.out HZ2.out rfl _ (nats o) 0 rfl O.out rfl (by rw [nats_len]; omega) hbl.size ?_; intro v1 w3 ho3 hg3; have B3 := below_row (hbl.alloc hbl.size _) hg3 (fun k hk => (O.out.lt k hk).1); rw [HL.out] at ho3; obtain ⟨ao1, cap1, rfl, hsh⟩ := owns_shape ho3; have HSH := Lib.hid hsh; have O3 := Lib.hid ho3; clear ho3 hg3 hsh; obtain ⟨g1, rfl, hgb1⟩ := HSH.out (by omega); obtain ⟨c0, f0⟩ := owns_at1 O3.out o.length (by omega); rw [HC0.out] at c0; obtain ⟨hb31, hb32⟩ := (hbw2 w3 B3); have hbg : ¬ b = g1 := (by omega))
            have e1 := owns_set1 O3.out o.length 1
            have O4 : Hid ((w3.setCell ⟨g1, o.length, none⟩ (.int .i64 1)).ownsRow w.heap.size 3 1 (.slice (some ⟨g1, 0, none⟩) (o.length + 1) cap1) (nats (o ++ [1])).length (it (nats (o ++ [1])))) := by
              have := e1.1
              rw [show List.set (nats o ++ [0]) o.length 1 = nats o ++ [1] by rw [← nats_len]; exact set_lastI _ _ _] at this
              rw [Hid, nats_snoc, show (nats o ++ [((1 : Nat) : Int)]).length = o.length + 1 by simp [nats_len]]
              exact this
            have B4 := below_row B3 e1.2 (fun k hk => by simp only [Option.some.injEq] at hk; omega)
            clear e1 O3
            go_roundw
            case rel => exact ⟨k + 1, o ++ [1], iG ws k, by omega, by go_num, hpk, O4, rfl, B4⟩
            case measure => simp [intOf]; omega
        · have ho : ¬ o = [] := fun e => hc (.inl e)
          have hcm : ¬ most < load + iG ws k := fun e => hc (.inr e)
          clear hc hw1
          obtain ⟨f, c, rfl⟩ := snoc_of ho
          clear ho
          have hc9 : c ≤ 8 := by have := nG_le (f ++ [c]) f.length; have h3 := H3.out; rw [nG_last] at this; omega
          have hfl : (f ++ [c]).length = f.length + 1 := by simp
          have hfn : (nats (f ++ [c])).length = f.length + 1 := by rw [nats_len]; exact hfl
          rw [hfl] at h1
          rw [hfn] at hsh0
          obtain ⟨g, rfl, hgb⟩ := hsh0 (by omega)
          rw [hfn] at O
          rw [hfn]
          have HFL := Lib.hid hfl
          have HFN := Lib.hid hfn
          have hw1 : IntKind.i64.wrap (f.length : Int) = (f.length : Int) := IntWalk.i64_in _ (by omega)
          have hne0 : (((f.length : Int) + 1) == 0) = false := by rw [beq_eq_false_iff_ne]; omega
          clear hfl hfn hsh0
          have hcm2 : load + iG ws k ≤ most := by omega
          have hcmb : decide (most < load + iG ws k) = false := by simpa using hcm
          have hpk := Lib.hid (pk_more hpe hcm2)
          obtain ⟨c0, f0⟩ := owns_at1 O.out f.length (by omega)
          rw [show iG (nats (f ++ [c])) f.length = (c : Int) by rw [nats_get, nG_last]] at c0
          have hgw : g < wr.heap.size := (O.out.lt g rfl).2
          have hbg : ¬ b = g := by omega
          go_wp2
          have e1 := owns_set1 O.out f.length ((c : Int) + 1)
          have O4 : Hid ((wr.setCell ⟨g, f.length, none⟩ (.int .i64 ((c : Int) + 1))).ownsRow w.heap.size 3 1 (.slice (some ⟨g, 0, none⟩) (f.length + 1) cap0) (nats (f ++ [c + 1])).length (it (nats (f ++ [c + 1])))) := by
            have := e1.1
            rw [show (nats (f ++ [c])).set f.length ((c : Int) + 1) = nats (f ++ [c + 1]) by rw [nats_snoc, nats_snoc, ← nats_len f]; exact set_lastI _ _ _] at this
            rw [Hid, show (nats (f ++ [c + 1])).length = f.length + 1 by simp [nats_len]]
            exact this
          have B4 := below_row hbl e1.2 (fun k hk => by simp only [Option.some.injEq] at hk; omega)
          clear e1
          go_roundw
          case rel => exact ⟨k + 1, f ++ [c + 1], load + iG ws k, by omega, by go_num, hpk, O4, rfl, B4⟩
          case measure => simp [intOf]; omega
      · obtain rfl : k = ws.length := by omega
        go_wp2
        go_ret
        refine ⟨_, rfl, ?_, hbl⟩
        rw [HY.out, show pk most ws ws.length = (o, load) from hpe]
        exact O.out

theorem specParcels_any (l : List (Int × Int)) (v : Value) (ws : List Int) (u : Value) (w : World) (hv : Rd w 2 v l.length (pr l)) (hw : Rd w 1 u ws.length (it ws)) :
    Calls Try.prog 30 #[v, u] w (ParcelsPost l ws w) := by
  cases hp : vBands l
  · exact specParcels_v l v ws u w hv hw hp
  by_cases h8 : 8 < ws.length
  · exact specParcels_n l v ws u w hv hw hp h8
  · exact specParcels_y l v ws u w hv hw hp h8

end Go.Proofs.Yteeehgicegmbjaa
