/- Walks: the drawn arguments of the laws on how often a bundle is in a cart. Conditions: none. -/
import Derived.Test.YtomapdedajdkkaaBE
namespace Go.Proofs.Ytomapdedajdkkaa
open Go.RowKit

/-- A drawn shop, a drawn cart and a drawn bundle, seen from the law. -/
def DrawTPost (w : World) (e : Ending) (w' : World) : Prop :=
  ∃ (s : List Art) (sv : Value) (c : List (Int × Int)) (cv : Value) (l : List (Int × Int)) (v : Value) (p : Int), e = .returned (.tuple #[sv, cv, .agg #[v, .int .i64 p]]) ∧ Rd w' 4 sv s.length (ar s) ∧ s.length ≤ 10 ∧ Rd w' 2 cv c.length (pr c) ∧ c.length ≤ 9 ∧ Rd w' 2 v l.length (pr l) ∧ l.length ≤ 10 ∧ Below w.heap.size w w'

set_option maxHeartbeats 2000000 in
theorem drawTimesIn_any (z : List Int) (v : Value) (w : World) (hv : Rd w 1 v z.length (z.map (Value.int .u8))) (hz : ∀ x ∈ z, 0 ≤ x ∧ x ≤ 255) :
    Calls Try.prog 33 #[v] w (DrawTPost w) := by
  have b0 : Below w.heap.size w (w.alloc (.cells #[.slice none 0 0, .int .i64 0] 49)) := (Below.refl _ _).alloc (Nat.le_refl _) _
  have B0 := Lib.hid b0
  have E0 := Lib.hid (heap_alloc_new w (.cells #[.slice none 0 0, .int .i64 0] 49))
  have HV := Lib.hid (hv.below b0 (Nat.le_refl _))
  have HZ := Lib.hid hz
  clear hv hz b0
  go_enter Try.func33, Try.ntmps33
  go_wp2_with fail
  refine (newReader_any z _ _ HV.out HZ.out).mono ?_
  rintro e w0 ⟨rfl, hr, hb⟩
  have hR := hr.lt
  rw [World.size_alloc] at hr hR hb
  have HB0 := Lib.hid hb
  have ZB := hb.size
  clear hb
  go_wp2_with fail
  refine (anyBasket_any _ _ _ hr (by omega)).mono ?_
  rintro e w2 ⟨s, sv, c, cv, rfl, hs, hs10, hc, hc9, _, S2⟩
  obtain ⟨so, scap, rfl, _⟩ := owns_shape hs
  obtain ⟨co, ccap, rfl, _⟩ := owns_shape hc
  have A2 := Lib.hid hs
  have C2 := Lib.hid hc
  have Z2 := S2.size
  clear hs hc
  go_wp2_with fail
  refine (someBundles_any _ _ _ _ _ _ S2.1 (by omega) hs10).mono ?_
  rintro e w1 ⟨B, bv, rfl, ho, hp, hB, st⟩
  have Z3 := st.size
  have hs := owns_step A2.out st hR
  have hc := owns_step C2.out st hR
  have hb := (S2.trans st).fresh (w := w.alloc (.cells #[.slice none 0 0, .int .i64 0] 49)) (by rw [World.size_alloc]; exact HB0.out) (by rw [World.size_alloc]; exact Nat.le_refl _)
  rw [World.size_alloc] at ZB hb
  clear A2 C2 S2 st
  have k0 := (hb.block w.heap.size (by omega)).trans E0.out
  have d0 : w1.cell? ⟨w.heap.size, 0, none⟩ = some (.slice none 0 0) := cell_of_row w1 _ 0 _ _ _ k0
  have d1 : w1.cell? ⟨w.heap.size, 1, none⟩ = some (.int .i64 0) := cell_of_row w1 _ 1 _ _ _ k0
  have f0 := frozen_of_row w1 _ 0 _ _ k0
  have f1 := frozen_of_row w1 _ 1 _ _ k0
  have Z1 := hb.size
  rw [World.size_alloc] at Z1
  have HB := Lib.hid (B0.out.trans (hb.mono (by omega)))
  obtain ⟨bo, bcap, rfl, hsh⟩ := owns_shape ho
  have HS := Lib.hid hs
  have HC := Lib.hid hc
  have HP := Lib.hid hp
  have D0 := Lib.hid d0
  have K0 := Lib.hid k0
  have D1 := Lib.hid d1
  clear hs hb hp k0 hc
  by_cases hb0 : 0 < B.length
  · obtain ⟨g, rfl, hg⟩ := hsh hb0
    have hb1 : ((B.length : Int) == 0) = false := by rw [beq_eq_false_iff_ne]; omega
    have HT := Lib.hid (HP.out _ (bT_mem hb0))
    have c0 : w1.cell? ⟨g, 0, none⟩ = some (bT B 0).v := (ho.cellAt 0 (by omega)).trans (bn_get B 0 hb0).1
    have c1 : w1.cell? ⟨g, 1, none⟩ = some (.int .i64 (bT B 0).p) := (ho.cellAt 1 (by omega)).trans (bn_get B 0 hb0).2
    have hgw : g < w1.heap.size := (ho.lt g rfl).2
    obtain ⟨po, pcap, hpe, _⟩ := owns_shape HT.out.1
    rw [hpe] at c0
    have HPE := Lib.hid hpe
    clear ho hsh hpe
    go_wp2
    go_region
    go_wp2
    (try simp only [Exit.inBlock, Exit.then])
    obtain ⟨r0, r1⟩ := set_two (X := .slice po (bT B 0).l.length pcap) (Y := .int .i64 (bT B 0).p) D0.out D1.out
    refine bodyPost_ret (by simp [results, Try.results33, go_sem, r0, r1]; try rfl) rfl ?_
    have ht := HT.out.1
    rw [HPE.out] at ht
    exact ⟨s, _, c, _, (bT B 0).l, _, (bT B 0).p, rfl, Rd.of_owns (owns_two HS.out (by omega)).drew, hs10, Rd.of_owns (owns_two HC.out (by omega)).drew, hc9, Rd.of_owns (owns_two ht (by omega)).drew, HT.out.2.1, ((HB.out.setCell (Nat.le_refl _) _).setCell (Nat.le_refl _) _).drew⟩
  · have hb1 : ((B.length : Int) == 0) = true := by rw [beq_iff_eq]; omega
    have k2 : (w1.alloc (.cells #[.int .i64 0, .int .i64 2] 57)).heap[w.heap.size]? = some (.cells #[.slice none 0 0, .int .i64 0] 49) := by rw [Below.heap_alloc _ _ _ Z1]; exact K0.out
    have e0 : (w1.alloc (.cells #[.int .i64 0, .int .i64 2] 57)).cell? ⟨w.heap.size, 0, none⟩ = some (.slice none 0 0) := cell_of_row _ _ 0 _ _ _ k2
    have e1 : (w1.alloc (.cells #[.int .i64 0, .int .i64 2] 57)).cell? ⟨w.heap.size, 1, none⟩ = some (.int .i64 0) := cell_of_row _ _ 1 _ _ _ k2
    have f2 := frozen_of_row _ _ 0 _ _ k2
    have f3 := frozen_of_row _ _ 1 _ _ k2
    have E2 := Lib.hid e0
    have E3 := Lib.hid e1
    clear ho hsh hb0 d0 d1 f0 f1 k2
    go_wp2
    (try simp only [Exit.inBlock, Exit.then])
    obtain ⟨r0, r1⟩ := set_two (X := .slice (some ⟨w1.heap.size, 0, none⟩) 1 1) (Y := .int .i64 150) E2.out E3.out
    refine bodyPost_ret (by simp [results, Try.results33, go_sem, r0, r1]; try rfl) rfl ?_
    exact ⟨s, _, c, _, [(0, 2)], _, 150, rfl, Rd.of_owns (owns_two (HS.out.alloc _) (by omega)), hs10, Rd.of_owns (owns_two (HC.out.alloc _) (by omega)), hc9, Rd.of_owns (owns_two (fixed_parts w1 _) (by omega)), by simp, ((HB.out.alloc (by omega) _).setCell (Nat.le_refl _) _).setCell (Nat.le_refl _) _⟩

end Go.Proofs.Ytomapdedajdkkaa
