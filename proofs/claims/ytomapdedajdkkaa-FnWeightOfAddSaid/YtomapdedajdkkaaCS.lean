/- Walks: the drawn arguments of the laws on carts. Conditions: none. -/
import Derived.Test.YtomapdedajdkkaaCR
namespace Go.Proofs.Ytomapdedajdkkaa
open Go.RowKit

theorem ctup4 {fn : Func} {t u v x : Tmp} (h : fn.results = #[.tmp t, .tmp u, .tmp v, .tmp x]) (tmps : Array Value) (P : Program) (w : World) :
    (results fn tmps).run P w = .ok (.tuple #[tmps.getD t undef, tmps.getD u undef, tmps.getD v undef, tmps.getD x undef]) w := by
  simp [results, h]

/-- A drawn shop and cart, seen from the law. -/
def DrawCPost (w : World) (e : Ending) (w' : World) : Prop :=
  ∃ (s : List Art) (sv : Value) (c : List (Int × Int)) (cv : Value), e = .returned (.tuple #[sv, cv]) ∧ Rd w' 4 sv s.length (ar s) ∧ s.length ≤ 10 ∧ w'.ownsRow w.heap.size 57 2 cv c.length (pr c) ∧ c.length ≤ 9 ∧ Below w.heap.size w w'

set_option maxHeartbeats 1000000 in
theorem drawWeightOf_any (z : List Int) (v : Value) (w : World) (hv : Rd w 1 v z.length (z.map (Value.int .u8))) (hz : ∀ x ∈ z, 0 ≤ x ∧ x ≤ 255) :
    Calls Try.prog 13 #[v] w (DrawCPost w) := by
  have HV := Lib.hid hv
  have HZ := Lib.hid hz
  clear hv hz
  go_enter Try.func13, Try.ntmps13
  go_wp2_with fail
  refine (newReader_any z _ _ HV.out HZ.out).mono ?_
  rintro e w1 ⟨rfl, hr, hb⟩
  go_wp2_with fail
  refine (anyBasket_any _ _ _ hr (by omega)).mono ?_
  rintro e w2 ⟨s, sv, c, cv, rfl, hs, hs10, hc, hc9, _, hst⟩
  go_wp2
  go_ret2
  exact ⟨s, sv, c, cv, rfl, Rd.of_owns hs, hs10, owns_base hc hb.size, hc9, hst.fresh hb (Nat.le_refl _)⟩

/-- A drawn shop, a cart, an article and a count, seen from the law. -/
def DrawAPost (w : World) (e : Ending) (w' : World) : Prop :=
  ∃ (s : List Art) (sv : Value) (c : List (Int × Int)) (cv : Value) (a n : Int), e = .returned (.tuple #[sv, cv, .int .i64 a, .int .i64 n]) ∧ Rd w' 4 sv s.length (ar s) ∧ s.length ≤ 10 ∧ Rd w' 2 cv c.length (pr c) ∧ c.length ≤ 9 ∧ (-1 ≤ a ∧ a ≤ 100 ∧ 0 ≤ n ∧ n ≤ 100) ∧ Below w.heap.size w w'

set_option maxHeartbeats 1000000 in
theorem drawAddPieces_any (z : List Int) (v : Value) (w : World) (hv : Rd w 1 v z.length (z.map (Value.int .u8))) (hz : ∀ x ∈ z, 0 ≤ x ∧ x ≤ 255) :
    Calls Try.prog 22 #[v] w (DrawAPost w) := by
  have HV := Lib.hid hv
  have HZ := Lib.hid hz
  clear hv hz
  go_enter Try.func22, Try.ntmps22
  go_wp2_with fail
  refine (newReader_any z _ _ HV.out HZ.out).mono ?_
  rintro e w1 ⟨rfl, hr, hb⟩
  have hR := hr.lt
  have HB := Lib.hid hb
  clear hb
  go_wp2_with fail
  refine (anyBasket_any _ _ _ hr (by omega)).mono ?_
  rintro e w2 ⟨s, sv, c, cv, rfl, hs, hs10, hc, hc9, _, S2⟩
  obtain ⟨so, scap, rfl, _⟩ := owns_shape hs
  have A2 := Lib.hid hs
  have C2 := Lib.hid hc
  clear hs hc
  go_wp2_with fail
  refine (pick_any _ _ _ _ S2.1 (by omega)).mono ?_
  rintro e w3 ⟨k0, rfl, hk0, hk1, st⟩
  have hk2 := hk1 (by omega)
  have A3 := Lib.hid (owns_step A2.out st hR)
  have C3 := Lib.hid (owns_step C2.out st hR)
  have S3 := S2.trans st
  clear A2 C2 S2 st hk1
  have hw0 : IntKind.i64.wrap (k0 - 1) = k0 - 1 := IntWalk.i64_in _ (by omega)
  go_wp2_with fail
  refine (one_lit _ _ [1, 2, 5, 20, 21, 0] _ _ S3.1 (by omega) (by simp) (by simp)).mono ?_
  rintro e w4 ⟨n, hn, rfl, st⟩
  have hn1 : 0 ≤ n ∧ n ≤ 100 := (by decide : ∀ x ∈ ([1, 2, 5, 20, 21, 0] : List Int), 0 ≤ x ∧ x ≤ 100) n hn
  have A4 := Lib.hid (owns_step A3.out st hR)
  have C4 := Lib.hid (owns_step C3.out st hR)
  have S4 := S3.trans st
  clear A3 C3 S3 st hn
  go_wp2
  (try simp only [Exit.inBlock, Exit.then])
  refine bodyPost_ret (ctup4 rfl _ _ _) rfl ?_
  exact ⟨s, _, c, cv, k0 - 1, n, rfl, Rd.of_owns A4.out, hs10, Rd.of_owns C4.out, hc9, ⟨by omega, by omega, hn1.1, hn1.2⟩, S4.fresh HB.out (Nat.le_refl _)⟩

end Go.Proofs.Ytomapdedajdkkaa
