/- How arguments are opened: a slice of articles. Conditions: none. -/
import Derived.Test.YtomapdedajdkkabOpen
import Derived.Test.YtomapdedajdkkabCartFns
namespace Go.Proofs.Ytomapdedajdkkab
open Go.ChangeShapes Go.WideShapes Go.ChangeAt Go.RowKit Go.Deep

/-- A slice of articles. -/
theorem open_arts {H : Type} {enc : TypeId × Value → H} {P : Program} {w : World} {base : Nat} {spare : Nat → Bool} {held : Bool} {t e : TypeId} {f0 f1 f2 f3 : Field} {fuel : Nat} {v : Value} {x : DataW H × List MemPlace} (ht : P.underlying t = some (.slice e)) (he : P.underlying e = some (.struct #[f0, f1, f2, f3]))
    (ce : P.cellsOf e = 4) (o0 : f0.offset = 0) (o1 : f1.offset = 1) (o2 : f2.offset = 2) (o3 : f3.offset = 3) (c0 : P.cellsOf f0.type = 1) (c1 : P.cellsOf f1.type = 1) (c2 : P.cellsOf f2.type = 1) (c3 : P.cellsOf f3.type = 1)
    (u0 : P.underlying f0.type = some (.int .i64)) (u1 : P.underlying f1.type = some (.int .i64)) (u2 : P.underlying f2.type = some (.int .i64)) (u3 : P.underlying f3.type = some (.int .i64))
    (h : DataW.trod enc P w base spare held fuel t [v] = some x) : ∃ l : List Art, Rd w 4 v l.length (ar l) := by
  obtain ⟨n, L, hR, _⟩ := open_recs ht he (by simpa using ce) (by simp) (fun j f hf => by
    match j, hf with
    | 0, hf => simp at hf; subst hf; exact ⟨o0, c0, u0⟩
    | 1, hf => simp at hf; subst hf; exact ⟨o1, c1, u1⟩
    | 2, hf => simp at hf; subst hf; exact ⟨o2, c2, u2⟩
    | 3, hf => simp at hf; subst hf; exact ⟨o3, c3, u3⟩
    | j + 4, hf => simp at hf) h
  refine ⟨(List.range n).map fun i => ⟨L i 0, L i 1, L i 2, L i 3⟩, ?_⟩
  have e : ar ((List.range n).map fun i => ⟨L i 0, L i 1, L i 2, L i 3⟩) = (List.range n).flatMap fun i => (List.range (#[f0, f1, f2, f3] : Array Field).size).map fun j => Value.int .i64 (L i j) := by
    simp [ar, List.flatMap_map, List.range_succ]
  rw [e]
  simpa using hR

end Go.Proofs.Ytomapdedajdkkab
