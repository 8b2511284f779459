/- What the generators of rules keep: rows of the call's own while the reader turns. Conditions: none. -/
import Derived.Test.YtdofpealmngmiaaGreatDoorWR
import Derived.Test.YtdofpealmngmiaaGreatDoorRV
import Derived.Test.YtdofpealmngmiaaGreatDoorRT
import Derived.Lib.SmallJoins
namespace Go.Proofs.YtdofpealmngmiaaGreatDoor
open Go.RowKit

theorem RdrStep.row {w w' : World} {R u g : Nat} {o : Obj} (st : RdrStep w R u w') (h : w.heap[g]? = some o) (hne : g ≠ R) : w'.heap[g]? = some o :=
  (st.2.block g (Array.getElem?_eq_some_iff.1 h).1 (by simpa using hne)).trans h
theorem RdrStep.set {a b : World} {R u : Nat} (s : RdrStep a R u b) (hR : R < a.heap.size) {g i : Nat} (hg : a.heap.size ≤ g) (v : Value) : RdrStep a R u (b.setCell ⟨g, i, none⟩ v) :=
  s.own hR (row := some g) ⟨rfl, rfl, rfl, by simp [World.setCell], fun k _ hk => heap_setCell_other b ⟨g, i, none⟩ k _ (fun e => hk (by simp [e]))⟩ (fun k hk => by simp only [Option.some.injEq] at hk; omega)
theorem RdrStep.setRow {a b : World} {R u : Nat} (s : RdrStep a R u b) (hR : R < a.heap.size) {g : Nat} (hg : a.heap.size ≤ g) (cs : Array Value) : RdrStep a R u (b.setRow g cs) :=
  s.own hR (row := some g) (grown_setRow b g cs) (fun k hk => by simp only [Option.some.injEq] at hk; omega)
theorem heap_set {w : World} {g k i : Nat} {v : Value} {o : Obj} (h : w.heap[g]? = some o) (hne : g ≠ k) : (w.setCell ⟨k, i, none⟩ v).heap[g]? = some o := (Below.heap_setCell _ _ _ _ hne).trans h

theorem heap_keep {w : World} {g : Nat} {o x : Obj} (h : w.heap[g]? = some o) : (w.alloc x).heap[g]? = some o := (Below.heap_alloc _ _ _ (Array.getElem?_eq_some_iff.1 h).1).trans h
theorem one_at (R u g t : Nat) (l : List Int) (W : World) (h : Rdr W R u) (hu : u ≤ 1099511627776) (hg : g ≠ R) (hl : 0 < l.length) (hl2 : l.length ≤ 1000000) (hb : W.heap[g]? = some (.cells (it l).toArray t (0, 0))) :
    Calls Tryz.prog 35 #[.pointer (some ⟨R, 0, none⟩), .slice (some ⟨g, 0, none⟩) l.length l.length] W (OnePost l W R u) :=
  one_gen R u g l W h hu hg (Array.getElem?_eq_some_iff.1 hb).1 hl hl2 (fun k hk => by rw [cell_of_row _ g k _ _ _ hb, List.getElem?_toArray]; exact it_get l k hk)

theorem row2 {w : World} {g : Nat} {x0 x1 : Value} {t : TypeId} (h : w.heap[g]? = some (.cells #[x0, x1] t)) :
    (w.cell? ⟨g, 0, none⟩ = some x0 ∧ w.cell? ⟨g, 1, none⟩ = some x1) ∧ w.frozen? ⟨g, 0, none⟩ = false ∧ w.frozen? ⟨g, 1, none⟩ = false :=
  ⟨⟨cell_of_row w _ 0 _ _ _ h, cell_of_row w _ 1 _ _ _ h⟩, frozen_of_row w _ 0 _ _ h, frozen_of_row w _ 1 _ _ h⟩

/-- the three spans of a row -/
theorem six_at {w : World} {g k : Nat} {a0 b0 a1 b1 a2 b2 : Int} {t : TypeId} (h : w.heap[g]? = some (.cells #[.int .i64 a0, .int .i64 b0, .int .i64 a1, .int .i64 b1, .int .i64 a2, .int .i64 b2] t)) (hk : k < 3) :
    ∃ x y : Value, w.cell? ⟨g, k * 2, none⟩ = some x ∧ w.cell? ⟨g, k * 2 + 1, none⟩ = some y ∧ w.frozen? ⟨g, k * 2, none⟩ = false ∧ w.frozen? ⟨g, k * 2 + 1, none⟩ = false := by
  match k, hk with
  | 0, _ => exact ⟨_, _, cell_of_row w _ 0 _ _ _ h, cell_of_row w _ 1 _ _ _ h, frozen_of_row w _ 0 _ _ h, frozen_of_row w _ 1 _ _ h⟩
  | 1, _ => exact ⟨_, _, cell_of_row w _ 2 _ _ _ h, cell_of_row w _ 3 _ _ _ h, frozen_of_row w _ 2 _ _ h, frozen_of_row w _ 3 _ _ h⟩
  | 2, _ => exact ⟨_, _, cell_of_row w _ 4 _ _ _ h, cell_of_row w _ 5 _ _ _ h, frozen_of_row w _ 4 _ _ h, frozen_of_row w _ 5 _ _ h⟩
theorem six_set {w : World} {g k : Nat} {a0 b0 a1 b1 a2 b2 : Int} {t : TypeId} (h : w.heap[g]? = some (.cells #[.int .i64 a0, .int .i64 b0, .int .i64 a1, .int .i64 b1, .int .i64 a2, .int .i64 b2] t)) (hk : k < 3) (p q : Int) :
    ∃ a0 b0 a1 b1 a2 b2 : Int, ((w.setCell ⟨g, k * 2, none⟩ (.int .i64 p)).setCell ⟨g, k * 2 + 1, none⟩ (.int .i64 q)).heap[g]? = some (.cells #[.int .i64 a0, .int .i64 b0, .int .i64 a1, .int .i64 b1, .int .i64 a2, .int .i64 b2] t) := by
  match k, hk with
  | 0, _ => exact ⟨p, q, a1, b1, a2, b2, Joins.block_setCell (i := 1) (Joins.block_setCell (i := 0) h _) _⟩
  | 1, _ => exact ⟨a0, b0, p, q, a2, b2, Joins.block_setCell (i := 3) (Joins.block_setCell (i := 2) h _) _⟩
  | 2, _ => exact ⟨a0, b0, a1, b1, p, q, Joins.block_setCell (i := 5) (Joins.block_setCell (i := 4) h _) _⟩

theorem row6 {w : World} {g : Nat} {x0 x1 x2 x3 x4 x5 : Value} {t : TypeId} (h : w.heap[g]? = some (.cells #[x0, x1, x2, x3, x4, x5] t)) :
    (w.cell? ⟨g, 0, none⟩ = some x0 ∧ w.cell? ⟨g, 1, none⟩ = some x1 ∧ w.cell? ⟨g, 2, none⟩ = some x2 ∧ w.cell? ⟨g, 3, none⟩ = some x3 ∧ w.cell? ⟨g, 4, none⟩ = some x4 ∧ w.cell? ⟨g, 5, none⟩ = some x5) ∧ w.frozen? ⟨g, 0, none⟩ = false ∧ w.frozen? ⟨g, 1, none⟩ = false ∧ w.frozen? ⟨g, 2, none⟩ = false ∧ w.frozen? ⟨g, 3, none⟩ = false ∧ w.frozen? ⟨g, 4, none⟩ = false ∧ w.frozen? ⟨g, 5, none⟩ = false :=
  ⟨⟨cell_of_row w _ 0 _ _ _ h, cell_of_row w _ 1 _ _ _ h, cell_of_row w _ 2 _ _ _ h, cell_of_row w _ 3 _ _ _ h, cell_of_row w _ 4 _ _ _ h, cell_of_row w _ 5 _ _ _ h⟩, frozen_of_row w _ 0 _ _ h, frozen_of_row w _ 1 _ _ h, frozen_of_row w _ 2 _ _ h, frozen_of_row w _ 3 _ _ h, frozen_of_row w _ 4 _ _ h, frozen_of_row w _ 5 _ _ h⟩

end Go.Proofs.YtdofpealmngmiaaGreatDoor
