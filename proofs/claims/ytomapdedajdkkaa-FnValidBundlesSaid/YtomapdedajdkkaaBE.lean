/- Walks: the drawn arguments of the laws on bundles. Conditions: none. -/
import Derived.Test.YtomapdedajdkkaaBD
import Derived.RegionTactic
import Derived.ChangeAlike
namespace Go.Proofs.Ytomapdedajdkkaa
open Go.RowKit

theorem btup3 {fn : Func} {t u v : Tmp} (h : fn.results = #[.tmp t, .tmp u, .tmp v]) (tmps : Array Value) (P : Program) (w : World) :
    (results fn tmps).run P w = .ok (.tuple #[tmps.getD t undef, tmps.getD u undef, tmps.getD v undef]) w := by
  simp [results, h]

theorem PartsB.base {w : World} {base base' : Nat} {e : TypeId} {B : List Bn} {o : Option Nat} (h : PartsB w base e B o) (hb : base' ≤ base) : PartsB w base' e B o :=
  fun x hx => ⟨owns_base (h x hx).1 hb, (h x hx).2⟩

/-- The price of the first bundle set. -/
def setP (B : List Bn) (q : Int) : List Bn := B.set 0 ⟨(bT B 0).l, (bT B 0).v, q⟩
theorem setP_len (B : List Bn) (q : Int) : (setP B q).length = B.length := by simp [setP]
theorem bn_setP (B : List Bn) (q : Int) (h : 0 < B.length) : (bn B).set 1 (.int .i64 q) = bn (setP B q) := by
  unfold setP
  rw [← bn_set]
  simp only [Nat.zero_mul, Nat.zero_add]
  rw [set_sameV (bn B) 0 _ (bn_get B 0 h).1]
theorem PartsB.setP {w : World} {base : Nat} {e : TypeId} {B : List Bn} {o : Option Nat} (h : PartsB w base e B o) (hl : 0 < B.length) (q : Int) : PartsB w base e (setP B q) o := by
  intro x hx
  rcases List.mem_or_eq_of_mem_set hx with hx | rfl
  · exact h x hx
  · have := h _ (bT_mem hl)
    exact ⟨this.1, this.2.1, this.2.2⟩

/-- A drawn shop and drawn bundles, seen from the law. -/
def DrawVBPost (w : World) (e : Ending) (w' : World) : Prop :=
  ∃ (s : List Art) (sv : Value) (B : List Bn) (bv : Value), e = .returned (.tuple #[sv, bv]) ∧ w'.ownsRow w.heap.size 43 4 sv s.length (ar s) ∧ s.length ≤ 10 ∧ w'.ownsRow w.heap.size 49 2 bv B.length (bn B) ∧ PartsB w' w.heap.size 57 B bv.ownBlock ∧ B.length ≤ 4 ∧ Below w.heap.size w w'

set_option maxHeartbeats 2000000 in
theorem drawValidBundles_any (z : List Int) (v : Value) (w : World) (hv : Rd w 1 v z.length (z.map (Value.int .u8))) (hz : ∀ x ∈ z, 0 ≤ x ∧ x ≤ 255) :
    Calls Try.prog 26 #[v] w (DrawVBPost w) := by
  have HV := Lib.hid hv
  have HZ := Lib.hid hz
  clear hv hz
  go_enter Try.func26, Try.ntmps26
  go_wp2_with fail
  refine (newReader_any z _ _ HV.out HZ.out).mono ?_
  rintro e w1 ⟨rfl, hr, hb⟩
  have hR := hr.lt
  have HB := Lib.hid hb
  have ZB := hb.size
  clear hb
  go_wp2_with fail
  refine (anyShop_any _ _ _ hr (by omega)).mono ?_
  rintro e w2 ⟨s, sv, rfl, hs, hs10, S2⟩
  obtain ⟨so, scap, rfl, _⟩ := owns_shape hs
  have A2 := Lib.hid hs
  have Z2 := S2.size
  have LS := Lib.hid (fun k hk => hs.lt k hk)
  clear hs
  go_wp2_with fail
  refine (someBundles_any _ _ _ _ _ _ S2.1 (by omega) hs10).mono ?_
  rintro e w3 ⟨B, bv, rfl, ho, hp, hB, st⟩
  have Z3 := st.size
  have A3 := Lib.hid (owns_step A2.out st hR)
  have O3 := Lib.hid ho
  have P3 := Lib.hid hp
  have S3 := S2.trans st
  clear A2 S2 st ho hp
  obtain ⟨bo, bcap, rfl, hsh⟩ := owns_shape O3.out
  have HSH := Lib.hid hsh
  clear hsh
  by_cases hb0 : 0 < B.length
  · obtain ⟨g, rfl, hg⟩ := HSH.out hb0
    go_wp2_with fail
    refine (pick_any _ _ _ _ S3.1 (by omega)).mono ?_
    rintro e w4 ⟨k0, rfl, _, _, st⟩
    have A4 := Lib.hid (owns_step A3.out st hR)
    have O4 := Lib.hid (owns_step O3.out st (by omega))
    have P4 := Lib.hid (P3.out.step st (by omega))
    have S4 := S3.trans st
    have Z4 := st.size
    clear A3 O3 P3 S3 st
    cases hk : (k0 == 0)
    · go_wp2
      go_ret2
      exact ⟨s, _, B, _, rfl, owns_base A4.out ZB, hs10, owns_base O4.out (by omega), P4.out.base (by omega), hB, S4.fresh HB.out (Nat.le_refl _)⟩
    · go_wp2_with fail
      refine (one_lit _ _ [-1, 1000001] _ _ S4.1 (by omega) (by simp) (by simp)).mono ?_
      rintro e w5 ⟨q, _, rfl, st⟩
      have A5 := Lib.hid (owns_step A4.out st hR)
      have O5 := Lib.hid (owns_step O4.out st (by omega))
      have P5 := Lib.hid (P4.out.step st (by omega))
      have S5 := S4.trans st
      have Z5 := st.size
      clear A4 O4 P4 S4 st
      have c1 : w5.cell? ⟨g, 1, none⟩ = some (.int .i64 (bT B 0).p) := (O5.out.cellAt 1 (by omega)).trans (bn_get B 0 hb0).2
      have f1 : w5.frozen? ⟨g, 1, none⟩ = false := O5.out.frozenAt 1
      have hgw : g < w5.heap.size := (O5.out.lt g rfl).2
      go_wp2
      go_ret2
      have e1 := O5.out.stored 1 (.int .i64 q)
      have e2 : (w5.setCell ⟨g, 1, none⟩ (.int .i64 q)).ownsRow w2.heap.size 49 2 (.slice (some ⟨g, 0, none⟩) B.length bcap) (setP B q).length (bn (setP B q)) := by
        rw [setP_len, ← bn_setP B q hb0]; exact e1.1
      refine ⟨s, _, setP B q, _, rfl, owns_base (owns_apart (v2 := .slice (some ⟨g, 0, none⟩) B.length bcap) A5.out e1.2 (fun k k' h1 h2 => ?_)) ZB, hs10, owns_base e2 (by omega), ((P5.out.setP hb0 q).grown e1.2 (fun x hx k hk => ?_)).base (by omega), by rw [setP_len]; exact hB, (S5.own hR e1.2 (fun k hk => ?_)).fresh HB.out (Nat.le_refl _)⟩
      · have := LS.out k h1
        simp only [Value.ownBlock, Option.some.injEq] at h2
        omega
      · exact (P5.out.setP hb0 q x hx).2.2 k hk
      · simp only [Option.some.injEq] at hk; omega
  · have hb0b : decide (0 < B.length) = false := by simpa using hb0
    go_wp2
    go_ret2
    exact ⟨s, _, B, _, rfl, owns_base A3.out ZB, hs10, owns_base O3.out (by omega), P3.out.base (by omega), hB, S3.fresh HB.out (Nat.le_refl _)⟩

/-- A drawn shop and a drawn bundle, seen from the law. -/
def DrawGPost (w : World) (e : Ending) (w' : World) : Prop :=
  ∃ (s : List Art) (sv : Value) (l : List (Int × Int)) (v : Value) (p : Int), e = .returned (.tuple #[sv, .agg #[v, .int .i64 p]]) ∧ Rd w' 4 sv s.length (ar s) ∧ s.length ≤ 10 ∧ Rd w' 2 v l.length (pr l) ∧ l.length ≤ 10 ∧ Below w.heap.size w w'

theorem fixed_parts (w : World) (t : TypeId) : (w.alloc (.cells #[.int .i64 0, .int .i64 2] t)).ownsRow w.heap.size t 2 (.slice (some ⟨w.heap.size, 0, none⟩) 1 1) [((0 : Int), (2 : Int))].length (pr [(0, 2)]) :=
  ⟨rfl, .inr ⟨w.heap.size, 1, #[.int .i64 0, .int .i64 2], rfl, Nat.le_refl _, heap_alloc_new w _, Nat.le_refl _, by decide, rfl, rfl⟩⟩

theorem set_two {w : World} {b : Nat} {X Y x y : Value} (d0 : w.cell? ⟨b, 0, none⟩ = some x) (d1 : w.cell? ⟨b, 1, none⟩ = some y) :
    ((w.setCell ⟨b, 0, none⟩ X).setCell ⟨b, 1, none⟩ Y).cell? ⟨b, 0, none⟩ = some X ∧ ((w.setCell ⟨b, 0, none⟩ X).setCell ⟨b, 1, none⟩ Y).cell? ⟨b, 1, none⟩ = some Y := by
  have n5 : (⟨b, 1, none⟩ : Addr) ≠ ⟨b, 0, none⟩ := fun e => by cases e
  refine ⟨?_, ?_⟩
  · rw [World.cell?_setCell_other (h := n5)]
    exact World.cell?_setCell_same _ _ _ (u := x) d0
  · exact World.cell?_setCell_same _ _ _ (u := y) (by rw [World.cell?_setCell_other (h := n5.symm)]; exact d1)

theorem owns_two {w : World} {base e sz n b : Nat} {v X Y : Value} {xs : List Value} (h : w.ownsRow base e sz v n xs) (hb : b < base) : ((w.setCell ⟨b, 0, none⟩ X).setCell ⟨b, 1, none⟩ Y).ownsRow base e sz v n xs :=
  ownsRow_setCell_below (ownsRow_setCell_below h hb _) hb _

set_option maxHeartbeats 2000000 in
theorem drawGainOf_any (z : List Int) (v : Value) (w : World) (hv : Rd w 1 v z.length (z.map (Value.int .u8))) (hz : ∀ x ∈ z, 0 ≤ x ∧ x ≤ 255) :
    Calls Try.prog 29 #[v] w (DrawGPost w) := by
  have b0 : Below w.heap.size w (w.alloc (.cells #[.slice none 0 0, .int .i64 0] 49)) := (Below.refl _ _).alloc (Nat.le_refl _) _
  have B0 := Lib.hid b0
  have E0 := Lib.hid (heap_alloc_new w (.cells #[.slice none 0 0, .int .i64 0] 49))
  have HV := Lib.hid (hv.below b0 (Nat.le_refl _))
  have HZ := Lib.hid hz
  clear hv hz b0
  go_enter Try.func29, Try.ntmps29
  go_wp2_with fail
  refine (drawValidBundles_any z _ _ HV.out HZ.out).mono ?_
  rintro e w1 ⟨s, sv, B, bv, rfl, hs, hs10, ho, hp, hB, hb⟩
  rw [World.size_alloc] at hs ho hp hb
  have k0 := (hb.block w.heap.size (by omega)).trans E0.out
  have d0 : w1.cell? ⟨w.heap.size, 0, none⟩ = some (.slice none 0 0) := cell_of_row w1 _ 0 _ _ _ k0
  have d1 : w1.cell? ⟨w.heap.size, 1, none⟩ = some (.int .i64 0) := cell_of_row w1 _ 1 _ _ _ k0
  have f0 := frozen_of_row w1 _ 0 _ _ k0
  have f1 := frozen_of_row w1 _ 1 _ _ k0
  have Z1 := hb.size
  rw [World.size_alloc] at Z1
  have HB := Lib.hid (B0.out.trans (hb.mono (by omega)))
  obtain ⟨bo, bcap, rfl, hsh⟩ := owns_shape ho
  have HS := Lib.hid hs
  have HP := Lib.hid hp
  have D0 := Lib.hid d0
  have K0 := Lib.hid k0
  have D1 := Lib.hid d1
  clear hs hb hp k0
  by_cases hb0 : 0 < B.length
  · obtain ⟨g, rfl, hg⟩ := hsh hb0
    have hb1 : ((B.length : Int) == 0) = false := by rw [beq_eq_false_iff_ne]; omega
    have HT := Lib.hid (HP.out _ (bT_mem hb0))
    have c0 : w1.cell? ⟨g, 0, none⟩ = some (bT B 0).v := (ho.cellAt 0 (by omega)).trans (bn_get B 0 hb0).1
    have c1 : w1.cell? ⟨g, 1, none⟩ = some (.int .i64 (bT B 0).p) := (ho.cellAt 1 (by omega)).trans (bn_get B 0 hb0).2
    have hgw : g < w1.heap.size := (ho.lt g rfl).2
    obtain ⟨po, pcap, hpe, _⟩ := owns_shape HT.out.1
    rw [hpe] at c0
    have HPE := Lib.hid hpe
    clear ho hsh hpe
    go_wp2
    go_region
    go_wp2
    (try simp only [Exit.inBlock, Exit.then])
    obtain ⟨r0, r1⟩ := set_two (X := .slice po (bT B 0).l.length pcap) (Y := .int .i64 (bT B 0).p) D0.out D1.out
    refine bodyPost_ret (by simp [results, Try.results29, go_sem, r0, r1]; try rfl) rfl ?_
    have ht := HT.out.1
    rw [HPE.out] at ht
    exact ⟨s, _, (bT B 0).l, _, (bT B 0).p, rfl, Rd.of_owns (owns_two HS.out (by omega)).drew, hs10, Rd.of_owns (owns_two ht (by omega)).drew, HT.out.2.1, ((HB.out.setCell (Nat.le_refl _) _).setCell (Nat.le_refl _) _).drew⟩
  · have hb1 : ((B.length : Int) == 0) = true := by rw [beq_iff_eq]; omega
    have k2 : (w1.alloc (.cells #[.int .i64 0, .int .i64 2] 57)).heap[w.heap.size]? = some (.cells #[.slice none 0 0, .int .i64 0] 49) := by rw [Below.heap_alloc _ _ _ Z1]; exact K0.out
    have e0 : (w1.alloc (.cells #[.int .i64 0, .int .i64 2] 57)).cell? ⟨w.heap.size, 0, none⟩ = some (.slice none 0 0) := cell_of_row _ _ 0 _ _ _ k2
    have e1 : (w1.alloc (.cells #[.int .i64 0, .int .i64 2] 57)).cell? ⟨w.heap.size, 1, none⟩ = some (.int .i64 0) := cell_of_row _ _ 1 _ _ _ k2
    have f2 := frozen_of_row _ _ 0 _ _ k2
    have f3 := frozen_of_row _ _ 1 _ _ k2
    have E2 := Lib.hid e0
    have E3 := Lib.hid e1
    clear ho hsh hb0 d0 d1 f0 f1 k2
    go_wp2
    (try simp only [Exit.inBlock, Exit.then])
    obtain ⟨r0, r1⟩ := set_two (X := .slice (some ⟨w1.heap.size, 0, none⟩) 1 1) (Y := .int .i64 150) E2.out E3.out
    refine bodyPost_ret (by simp [results, Try.results29, go_sem, r0, r1]; try rfl) rfl ?_
    exact ⟨s, _, [(0, 2)], _, 150, rfl, Rd.of_owns (owns_two (HS.out.alloc _) (by omega)), hs10, Rd.of_owns (owns_two (fixed_parts w1 _) (by omega)), by simp, ((HB.out.alloc (by omega) _).setCell (Nat.le_refl _) _).setCell (Nat.le_refl _) _⟩

end Go.Proofs.Ytomapdedajdkkaa
