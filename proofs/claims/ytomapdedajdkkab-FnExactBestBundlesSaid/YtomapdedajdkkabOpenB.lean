/- How arguments are opened: a bundle, which is a struct of a slice of pairs and a number. Conditions: none. -/
import Derived.Test.YtomapdedajdkkabOpenA
namespace Go.Proofs.Ytomapdedajdkkab
open Go.ChangeShapes Go.WideShapes Go.ChangeAt Go.RowKit Go.Deep

theorem open_bundle {H : Type} {enc : TypeId × Value → H} {P : Program} {w : World} {base : Nat} {spare : Nat → Bool} {held : Bool} {t e : TypeId} {g0 g1 f0 f1 : Field} {fuel : Nat} {a b : Value} {x : DataW H × List MemPlace} (ht : P.underlying t = some (.struct #[g0, g1]))
    (p0 : g0.offset = 0) (p1 : g1.offset = 1) (q0 : P.cellsOf g0.type = 1) (q1 : P.cellsOf g1.type = 1) (hg0 : P.underlying g0.type = some (.slice e)) (hg1 : P.underlying g1.type = some (.int .i64)) (he : P.underlying e = some (.struct #[f0, f1]))
    (ce : P.cellsOf e = 2) (o0 : f0.offset = 0) (o1 : f1.offset = 1) (c0 : P.cellsOf f0.type = 1) (c1 : P.cellsOf f1.type = 1) (u0 : P.underlying f0.type = some (.int .i64)) (u1 : P.underlying f1.type = some (.int .i64))
    (h : DataW.trod enc P w base spare held fuel t [a, b] = some x) : ∃ (l : List (Int × Int)) (z : Int), Rd w 2 a l.length (pr l) ∧ b = .int .i64 z ∧ (Lit.int .i64 z).wf = true := by
  obtain ⟨y0, y1, n, _, _, h0, h1⟩ := trod_struct2 ht h
  rw [p0, q0] at h0
  rw [p1, q1] at h1
  obtain ⟨l, hl⟩ := open_prs hg0 he ce o0 o1 c0 c1 u0 u1 (show DataW.trod enc P w base spare held n g0.type [a] = some y0 from h0)
  obtain ⟨z, e1, _, e3⟩ := DataW.trod_int hg1 (show DataW.trod enc P w base spare held n g1.type [b] = some y1 from h1)
  simp only [List.cons.injEq, and_true] at e1
  exact ⟨l, z, hl, e1, e3⟩

end Go.Proofs.Ytomapdedajdkkab
