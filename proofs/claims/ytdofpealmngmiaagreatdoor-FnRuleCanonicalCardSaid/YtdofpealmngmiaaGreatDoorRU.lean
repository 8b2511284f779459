/- Walks: comparisons of a guard and of a rule with itself. Conditions: none. -/
import Derived.Test.YtdofpealmngmiaaGreatDoorRT
namespace Go.Proofs.YtdofpealmngmiaaGreatDoor
open Go.RowKit

theorem two_blocks (w : World) (a b : Obj) : (((w.alloc a).alloc b).heap[w.heap.size]? = some a) ∧ (((w.alloc a).alloc b).heap[w.heap.size + 1]? = some b) ∧ ((w.alloc a).alloc b).heap.size = w.heap.size + 2 ∧ Below w.heap.size w ((w.alloc a).alloc b) := by
  refine ⟨?_, ?_, by simp, ((Below.refl _ _).alloc (Nat.le_refl _) _).alloc (by simp) _⟩
  · rw [Below.heap_alloc _ _ _ (by simp)]; exact heap_alloc_new w _
  · have h := heap_alloc_new (w.alloc a) b; rw [World.size_alloc] at h; exact h

end Go.Proofs.YtdofpealmngmiaaGreatDoor
