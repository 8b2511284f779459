/- Walks: the drawn arguments of the laws on parcels. Conditions: none. -/
import Derived.Test.YteeehgicegmbjaaVH
import Derived.Test.YteeehgicegmbjaaRow
namespace Go.Proofs.Yteeehgicegmbjaa
open Go.RowKit

theorem Try.info3q : (Try.prog.info? 3).map (fun i => (i.zero, i.size, i.bytes)) = some (some (.int .i64 0), 1, 8) := by kernel_rfl

/-- all numbers are small -/
def smallI (l : List Int) : Prop := ∀ j, j < l.length → -1100000 ≤ iG l j ∧ iG l j ≤ 1100000

theorem smallI_snoc {l : List Int} {a : Int} (h : smallI l) (h1 : -1100000 ≤ a ∧ a ≤ 1100000) : smallI (l ++ [a]) := by
  intro j hj
  rw [List.length_append, List.length_singleton] at hj
  by_cases e : j = l.length
  · subst e; rw [iG_last]; exact h1
  · rw [iG_left _ _ (by omega)]; exact h j (by omega)
theorem smallI_set {l : List Int} {k : Nat} {a : Int} (h : smallI l) (h1 : -1100000 ≤ a ∧ a ≤ 1100000) : smallI (l.set k a) := by
  intro j hj
  rw [List.length_set] at hj
  unfold iG
  rw [List.getD_eq_getElem?_getD, List.getElem?_set]
  have := h j hj
  unfold iG at this
  rw [List.getD_eq_getElem?_getD] at this
  split
  · split
    · exact h1
    · simp
  · exact this
theorem smallI_drop {l : List Int} (h : smallI l) : smallI (l.drop 1) := by
  intro j hj
  rw [List.length_drop] at hj
  have := h (1 + j) (by omega)
  unfold iG at this ⊢
  rw [List.getD_eq_getElem?_getD, List.getElem?_drop, ← List.getD_eq_getElem?_getD]
  exact this

theorem it_drop (l : List Int) (k : Nat) : it (l.drop k) = (it l).drop k := by simp [it, List.map_drop]

set_option maxHeartbeats 1000000 in
theorem copyInts_any (base0 : Nat) (l : List Int) (v : Value) (w : World) (hv : w.ownsRow base0 3 1 v l.length (it l)) (hl : l.length ≤ 1000000) :
    Calls Try.prog 53 #[v] w fun e w' => ∃ u, e = .returned u ∧ w'.ownsRow w.heap.size 3 1 u l.length (it l) ∧ Below w.heap.size w w' := by
  obtain ⟨i0, hi, hz0, hz1, hz2⟩ := info_parts Try.info3q
  have HI := Lib.hid hi
  have HZ0 := Lib.hid hz0
  have HZ1 := Lib.hid hz1
  have HZ2 := Lib.hid hz2
  have HV := Lib.hid hv
  clear hi hz0 hz1 hz2 hv
  go_enter Try.func53, Try.ntmps53
  have hown1 := World.ownsRow_made (base := w.heap.size) (e := 3) (size := 1) w #[] 0 (Nat.le_refl _) (by simp) (by simp)
  have hr1 := HV.out.alloc (.cells #[] 3)
  have O1 := Lib.hid hown1
  have R1 := Lib.hid hr1
  clear hown1 hr1
  go_wp2_with (at_builtin; refine app_copy1 rfl (.tmp 3) (.tmp 4) 42 rfl w.heap.size base0 3 i0 _ Try.underlying42 HI.out HZ0.out HZ1.out HZ2.out rfl _ rfl O1.out l _ rfl R1.out (by omega) (by simp) ?_; intro v1 w3 ho3 hg3; have B3 := below_row ((Below.refl _ _).alloc (Nat.le_refl _) _) hg3 (fun k hk => by obtain rfl : w.heap.size = k := Option.some.inj hk; exact Nat.le_refl _); have O3 := Lib.hid ho3; clear ho3 hg3)
  go_ret
  exact ⟨v1, rfl, O3.out, B3⟩

/-- What is left of a list of numbers that may be spoilt. -/
def SpoilPost (n : Nat) (w : World) (R u : Nat) (e : Ending) (w' : World) : Prop :=
  ∃ (l : List Int) (v : Value), e = .returned v ∧ Rd w' 1 v l.length (it l) ∧ smallI l ∧ l.length ≤ n + 1 ∧ RdrStep w R (u + 5) w'

set_option maxHeartbeats 2000000 in
theorem spoil_any (R u base0 : Nat) (l : List Int) (v : Value) (w : World) (h : Rdr w R u) (hu : u ≤ 1000000001000) (hv : w.ownsRow base0 3 1 v l.length (it l)) (hs : smallI l) (hl : l.length ≤ 1000) :
    Calls Try.prog 49 #[.pointer (some ⟨R, 0, none⟩), v, .int .i64 800001] w (SpoilPost l.length w R u) := by
  have hR := h.lt
  have H := Lib.hid h
  have HV := Lib.hid hv
  have HS := Lib.hid hs
  obtain ⟨i0, hi, hz0, hz1, hz2⟩ := info_parts Try.info3q
  have HI := Lib.hid hi
  have HZ0 := Lib.hid hz0
  have HZ1 := Lib.hid hz1
  have HZ2 := Lib.hid hz2
  clear h hv hs hi hz0 hz1 hz2
  go_enter Try.func49, Try.ntmps49
  go_wp2_with fail
  refine (copyInts_any base0 l _ _ HV.out (by omega)).mono ?_
  rintro e w1 ⟨v1, rfl, ho1, hb1⟩
  have s1 : RdrStep w R u w1 := ⟨H.out.below hb1 hR, grownBy_of_below hb1⟩
  have S1 : RdrStep w R u w1 := s1
  have O1 := Lib.hid ho1
  clear ho1 hb1 s1
  obtain ⟨ao, cap, rfl, ⟨hcap1, hcap2⟩, hg⟩ := owns_shape_cap O1.out
  have HG := Lib.hid hg
  clear hg
  go_wp2_with fail
  refine (pick_any R _ _ _ S1.1 (by omega)).mono ?_
  rintro e w2 ⟨k0, rfl, hk0, _, s2⟩
  have O2 := Lib.hid (owns_step O1.out s2 hR)
  have S2 := S1.trans s2
  clear O1 S1 s2
  cases hz0 : (k0 == 0)
  · cases hz1 : (k0 == 1)
    · cases hz2 : (k0 == 2)
      · go_wp2
        go_ret
        exact ⟨l, _, rfl, Rd.of_owns O2.out, HS.out, by omega, S2.mono (by omega)⟩
      · by_cases h0 : 0 < l.length
        · obtain ⟨g, rfl, hgb⟩ := HG.out h0
          go_wp2_with fail
          refine (pick_any R _ _ _ S2.1 (by omega)).mono ?_
          rintro e w3 ⟨k1, rfl, hk1, hk2, s3⟩
          have hk3 := hk2 (by omega)
          obtain ⟨k, rfl⟩ := Int.eq_ofNat_of_zero_le hk1
          have hk4 : k < l.length := by omega
          have O3 := Lib.hid (owns_step O2.out s3 hR)
          have S3 := S2.trans s3
          clear O2 S2 s3 hk2 hk3 hk1
          go_wp2_with fail
          refine (one_lit R _ [-1, 800001, 0, 1] _ _ S3.1 (by omega) (by simp) (by simp)).mono ?_
          rintro e w4 ⟨q, hq, rfl, s4⟩
          have hq1 : -1100000 ≤ q ∧ q ≤ 1100000 := (by decide : ∀ x ∈ ([-1, 800001, 0, 1] : List Int), -1100000 ≤ x ∧ x ≤ 1100000) q hq
          have O4 := Lib.hid (owns_step O3.out s4 hR)
          have S4 := S3.trans s4
          clear O3 S3 s4 hq
          obtain ⟨c0, f0⟩ := owns_at1 O4.out k hk4
          have hgw : g < w4.heap.size := (O4.out.lt g rfl).2
          go_wp2
          go_ret
          have e1 := owns_set1 O4.out k q
          refine ⟨l.set k q, _, rfl, ?_, smallI_set HS.out hq1, by simp, (S4.own hR e1.2 (fun k hk => by simp only [Option.some.injEq] at hk; omega)).mono (by omega)⟩
          rw [List.length_set]
          exact Rd.of_owns e1.1
        · have h0b : decide (0 < l.length) = false := by simpa using h0
          go_wp2
          go_ret
          exact ⟨l, _, rfl, Rd.of_owns O2.out, HS.out, by omega, S2.mono (by omega)⟩
    · by_cases h0 : 0 < l.length
      · obtain ⟨g, rfl, hgb⟩ := HG.out h0
        by_cases hc : cap = 1
        · subst hc
          have e0 : l.length - 1 = 0 := by omega
          have T := (Rd.of_owns O2.out).drop (k := 1) (by omega) (ao := some ⟨g, 0, none⟩) (fun h => by omega)
          have E0 := Lib.hid e0
          have HT := Lib.hid T
          clear e0 T
          go_wp2
          go_ret
          refine ⟨l.drop 1, _, rfl, ?_, smallI_drop HS.out, by simp; omega, S2.mono (by omega)⟩
          rw [List.length_drop, it_drop]
          have := HT.out
          rw [show (Value.slice (some ⟨g, 0, none⟩) (l.length - 1) (1 - 1)) = Value.slice (some ⟨g, 0, none⟩) 0 0 by rw [E0.out]] at this
          rw [E0.out] at this ⊢
          exact this
        · have T := (Rd.of_owns O2.out).drop (k := 1) (by omega) (ao := some ⟨g, 1, none⟩) (fun h => by simp)
          have HT := Lib.hid T
          clear T
          go_wp2
          go_ret
          refine ⟨l.drop 1, _, rfl, ?_, smallI_drop HS.out, by simp; omega, S2.mono (by omega)⟩
          rw [List.length_drop, it_drop]
          exact HT.out
      · have h0b : decide (0 < l.length) = false := by simpa using h0
        go_wp2
        go_ret
        exact ⟨l, _, rfl, Rd.of_owns O2.out, HS.out, by omega, S2.mono (by omega)⟩
  · go_wp2_with (at_builtin; refine app_int rfl (.tmp 14) (.tmp 16) 42 rfl w.heap.size 3 _ i0 _ Try.underlying42 HI.out HZ0.out HZ1.out HZ2.out rfl _ l 800001 rfl O2.out rfl (by omega) S2.size ?_; intro v3 w3 ho3 hg3; have S3 := (S2.alloc _).own hR hg3 (fun k hk => (O2.out.lt k hk).1); have O3 := Lib.hid ho3; clear ho3 hg3)
    go_ret
    exact ⟨l ++ [800001], v3, rfl, Rd.of_owns O3.out, smallI_snoc HS.out (by omega), by simp, S3.mono (by omega)⟩

/-- Drawn bands and weights, seen from the law. -/
def DrawPPost (w : World) (e : Ending) (w' : World) : Prop :=
  ∃ (l : List (Int × Int)) (v : Value) (ws : List Int) (u : Value), e = .returned (.tuple #[v, u]) ∧ Rd w' 2 v l.length (pr l) ∧ l.length ≤ 6 ∧ Rd w' 1 u ws.length (it ws) ∧ smallI ws ∧ ws.length ≤ 10 ∧ Below w.heap.size w w'

set_option maxHeartbeats 2000000 in
theorem drawParcelsFor_any (z : List Int) (v : Value) (w : World) (hv : Rd w 1 v z.length (z.map (Value.int .u8))) (hz : ∀ x ∈ z, 0 ≤ x ∧ x ≤ 255) :
    Calls Try.prog 27 #[v] w (DrawPPost w) := by
  have HV := Lib.hid hv
  have HZ := Lib.hid hz
  obtain ⟨i0, hi, hz0, hz1, hz2⟩ := info_parts Try.info3q
  have HI := Lib.hid hi
  have HZ0 := Lib.hid hz0
  have HZ1 := Lib.hid hz1
  have HZ2 := Lib.hid hz2
  clear hv hz hi hz0 hz1 hz2
  go_enter Try.func27, Try.ntmps27
  go_wp2_with fail
  refine (newReader_any z _ _ HV.out HZ.out).mono ?_
  rintro e w1 ⟨rfl, hr, hb⟩
  have hR := hr.lt
  have HB := Lib.hid hb
  clear hb
  go_wp2_with fail
  refine (anyBands_any _ _ _ hr (by omega)).mono ?_
  rintro e w2 ⟨l, u, rfl, ho, _, hl, hst⟩
  have LU := Lib.hid (fun k hk => (ho.lt k hk).2)
  have z12 := hst.size
  have ow : (w2.alloc (.cells #[] 3)).ownsRow w2.heap.size 3 1 (.slice (some ⟨w2.heap.size, 0, none⟩) 0 0) 0 (it []) := World.ownsRow_made w2 #[] 0 (Nat.le_refl _) (by simp) (by simp)
  have W2 := Lib.hid ow
  have s2 := hst.alloc (.cells #[] 3)
  have O2a := Lib.hid (ho.alloc (.cells #[] 3))
  clear ho hst ow
  go_wp2_with fail
  have c1 := one_lit w.heap.size _ [4, 6, 2, 8, 0, 9] (w2.alloc (.cells #[] 3)) 3 s2.1 (by omega) (by simp) (by simp)
  rw [World.size_alloc] at c1
  refine c1.mono ?_
  clear c1
  rintro e w3 ⟨n0, hn0, rfl, s3⟩
  have hn1 : 0 ≤ n0 ∧ n0 ≤ 9 := (by decide : ∀ x ∈ ([4, 6, 2, 8, 0, 9] : List Int), 0 ≤ x ∧ x ≤ 9) n0 hn0
  obtain ⟨n, rfl⟩ := Int.eq_ofNat_of_zero_le hn1.1
  have hn2 : n ≤ 9 := by omega
  have O3 := Lib.hid (owns_step O2a.out s3 hR)
  have W3 := Lib.hid (owns_step W2.out s3 (by omega))
  have z23 : w2.heap.size ≤ w3.heap.size := by have := s3.size; simp at this; omega
  have S3 := s2.trans s3
  clear hn0 O2a W2 s2 s3 hr
  go_wp2
  go_loopw [6, 7] (fun ww nn wr => ∃ (m : Nat) (ws : List Int), nn = .int .i64 m ∧ ws.length + m ≤ 9 ∧ w2.heap.size ≤ wr.heap.size ∧ Hid (wr.ownsRow w2.heap.size 3 1 ww ws.length (it ws)) ∧ Hid (wr.ownsRow w1.heap.size 37 2 u l.length (pr l)) ∧ smallI ws ∧ RdrStep w1 w.heap.size (90 - m) wr) (fun _ nn _ => (intOf nn).toNat)
  case atStart => exact ⟨n, [], rfl, by simp; exact hn2, z23, W3, O3, fun j hj => absurd hj (Nat.not_lt_zero _), S3.mono (by omega)⟩
  case round =>
    clear O3 W3 S3
    clear z23
    obtain ⟨m, ws, rfl, hwm, z2r, W, O, hsm, S⟩ := hrel
    by_cases hm : 0 < m
    · go_wp2_with fail
      refine (one_lit _ _ [100, 300, 500, 0, 1, 450] _ _ S.1 (by omega) (by simp) (by simp)).mono ?_
      rintro e w5 ⟨r, hr, rfl, s5⟩
      have hr1 : -1100000 ≤ r ∧ r ≤ 1100000 := (by decide : ∀ x ∈ ([100, 300, 500, 0, 1, 450] : List Int), -1100000 ≤ x ∧ x ≤ 1100000) r hr
      have O5 := Lib.hid (owns_step O.out s5 hR)
      have W5 := Lib.hid (owns_step W.out s5 (by omega))
      have z25 : w2.heap.size ≤ w5.heap.size := Nat.le_trans z2r s5.size
      have S5 := S.trans s5
      clear hr O W S s5
      go_wp2_with (at_builtin; refine app_int rfl (.tmp 20) (.tmp 24) 42 rfl w2.heap.size 3 _ i0 _ Try.underlying42 HI.out HZ0.out HZ1.out HZ2.out rfl _ ws r rfl W5.out rfl (by omega) z25 ?_; intro v6 w6 ho6 hg6)
      have LW := Lib.hid (fun k hk => (W5.out.lt k hk).1)
      have S6 := (S5.alloc _).own hR hg6 (fun k hk => by have := LW.out k hk; omega)
      have W6 := Lib.hid ho6
      have O6 := Lib.hid (owns_apart (O5.out.alloc _) hg6 (fun k k' h1 h2 => by have := LU.out k h1; have := LW.out k' h2; omega))
      have z26 : w2.heap.size ≤ w6.heap.size := by have := hg6.size; simp at this; omega
      have sm6 := smallI_snoc hsm hr1
      have SM6 := Lib.hid sm6
      clear ho6 hg6 W5 O5 S5 hsm sm6 LW
      go_wp2
      go_roundw
      case rel => exact ⟨m - 1, ws ++ [r], by go_num, by simp; omega, z26, W6, O6, SM6.out, S6.mono (by omega)⟩
      case measure => simp [intOf]; omega
    · go_wp2_with fail
      refine (spoil_any _ _ w2.heap.size ws _ _ S.1 (by omega) W.out hsm (by omega)).mono ?_
      rintro e w7 ⟨ws7, v7, rfl, hr7, hs7, hl7, s7⟩
      have o7 := owns_step O.out s7 hR
      have R7 := Lib.hid (Rd.of_owns o7)
      have W7 := Lib.hid hr7
      have HS7 := Lib.hid hs7
      clear o7 hr7 hs7 hsm
      go_wp2
      go_ret2
      exact ⟨l, u, ws7, v7, rfl, R7.out, hl, W7.out, HS7.out, by omega, (S.trans s7).fresh HB.out (Nat.le_refl _)⟩

end Go.Proofs.Yteeehgicegmbjaa
