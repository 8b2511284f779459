/- Walks: the drawn arguments of the laws on the best choice of bundles. Conditions: none. -/
import Derived.Test.YtomapdedajdkkabBD
import Derived.Test.YtomapdedajdkkabVN
import Derived.Lib.MinMax
namespace Go.Proofs.Ytomapdedajdkkab
open Go.RowKit

theorem gtup3 {fn : Func} {t u v : Tmp} (h : fn.results = #[.tmp t, .tmp u, .tmp v]) (tmps : Array Value) (P : Program) (w : World) :
    (results fn tmps).run P w = .ok (.tuple #[tmps.getD t undef, tmps.getD u undef, tmps.getD v undef]) w := by
  simp [results, h]

theorem pr_setB (c : List (Int × Int)) (k : Nat) (x : Int) (h : k < c.length) : (pr c).set (k * 2 + 1) (.int .i64 x) = pr (c.set k (pA c k, x)) := by
  rw [← pr_set, set_sameV (pr c) (k * 2) _ (pr_get c k h).1]

/-- A drawn shop, a drawn cart and drawn bundles, seen from the law. -/
def DrawBPost (w : World) (e : Ending) (w' : World) : Prop :=
  ∃ (s : List Art) (sv : Value) (c : List (Int × Int)) (cv : Value) (B : List Bn) (bv : Value), e = .returned (.tuple #[sv, cv, bv]) ∧ Rd w' 4 sv s.length (ar s) ∧ s.length ≤ 10 ∧ Rd w' 2 cv c.length (pr c) ∧ c.length ≤ 9 ∧ w'.ownsRow w.heap.size 33 2 bv B.length (bn B) ∧ RdB w' bv B ∧ B.length ≤ 4 ∧ Below w.heap.size w w'

set_option maxHeartbeats 4000000 in
set_option maxRecDepth 100000 in
theorem drawBest_any (z : List Int) (v : Value) (w : World) (hv : Rd w 1 v z.length (z.map (Value.int .u8))) (hz : ∀ x ∈ z, 0 ≤ x ∧ x ≤ 255) :
    Calls Try.prog 20 #[v] w (DrawBPost w) := by
  have HV := Lib.hid hv
  have HZ := Lib.hid hz
  clear hv hz
  go_enter Try.func20, Try.ntmps20
  go_wp2_with fail
  refine (newReader_any z _ _ HV.out HZ.out).mono ?_
  rintro e w1 ⟨rfl, hr, hb⟩
  have hR := hr.lt
  have HB := Lib.hid hb
  have ZB := hb.size
  clear hb
  go_wp2_with fail
  refine (anyBasket_any _ _ _ hr (by omega)).mono ?_
  rintro e w2 ⟨s, sv, c, cv, rfl, hs, hs10, hc, hc9, hne, S2⟩
  obtain ⟨so, scap, rfl, _⟩ := owns_shape hs
  obtain ⟨co, ccap, rfl, hsh⟩ := owns_shape hc
  have A2 := Lib.hid hs
  have C2 := Lib.hid hc
  have HNE := Lib.hid hne
  have HSH := Lib.hid hsh
  clear hs hc hne hsh
  go_wp2
  go_loopw [8] (fun i_ wr => ∃ (i : Nat) (c' : List (Int × Int)), i ≤ c.length ∧ i_ = .int .i64 i ∧ c'.length = c.length ∧ Hid (wr.ownsRow w1.heap.size 46 2 (.slice co c.length ccap) c.length (pr c')) ∧ Hid (wr.ownsRow w1.heap.size 75 4 (.slice so s.length scap) s.length (ar s)) ∧ RdrStep w1 w.heap.size (0 + 100) wr) (fun i_ _ => c.length - (intOf i_).toNat)
  case atStart => exact ⟨0, c, Nat.zero_le _, rfl, rfl, C2, A2, S2⟩
  case round =>
    clear C2 A2 S2
    obtain ⟨i, c', hi, rfl, hcl, C, A, S⟩ := hrel
    have HCL := Lib.hid hcl
    clear hcl
    by_cases hlt : i < c.length
    · obtain ⟨g, rfl, hg⟩ := HSH.out (by omega)
      obtain ⟨c0, c1, f0, f1⟩ := owns_at2 C.out i hlt
      have e1 := C.out.stored (i * 2 + 1) (.int .i64 (min (pB c' i) 5))
      rw [pr_setB c' i _ (by rw [HCL.out]; exact hlt)] at e1
      have E1 := Lib.hid e1
      clear e1
      go_wp2
      go_roundw
      case rel => exact ⟨i + 1, c'.set i (pA c' i, min (pB c' i) 5), by omega, by go_num, by rw [List.length_set]; exact HCL.out, Lib.hid E1.out.1, Lib.hid (owns_apart (v2 := .slice (some ⟨g, 0, none⟩) c.length ccap) A.out E1.out.2 (fun k k' h1 h2 => HNE.out k k' h1 h2)), S.own hR E1.out.2 (fun k hk => by simp only [Option.some.injEq] at hk; omega)⟩
      case measure => simp [intOf]; omega
    · go_wp2_with fail
      refine (someBundles_any _ _ _ _ _ _ S.1 (by omega) hs10).mono ?_
      rintro e w3 ⟨B, bv, rfl, ho, hp, hB, st⟩
      have Z3 := st.size
      have Z2 := S.size
      have A3 := Lib.hid (owns_step A.out st hR)
      have C3 := Lib.hid (owns_step C.out st hR)
      have S3 := Lib.hid ((S.trans st).fresh HB.out (Nat.le_refl _))
      have O3 := Lib.hid ho
      have P3 := Lib.hid hp
      clear A C S st ho hp
      go_wp2
      (try simp only [Exit.inBlock, Exit.then])
      refine bodyPost_ret (gtup3 rfl _ _ _) rfl ?_
      have hc4 : Rd w3 2 (.slice co c.length ccap) c'.length (pr c') := by rw [HCL.out]; exact Rd.of_owns C3.out
      exact ⟨s, .slice so s.length scap, c', .slice co c.length ccap, B, bv, rfl, Rd.of_owns A3.out, hs10, hc4, by rw [HCL.out]; exact hc9, owns_base O3.out (by omega), ⟨Rd.of_owns O3.out, fun x hx => Rd.of_owns (P3.out x hx).1⟩, hB, S3.out⟩

end Go.Proofs.Ytomapdedajdkkab
