/- A region that leaves its order open, whose loads read what was there before and whose calls make new memory alone: one walk in the order of the text serves every order. Conditions: none. -/
import Derived.Test.YtdofpealmngmiaaGreatDoorMem
import Derived.Deep.QuietTactic
import Derived.BigQuiet
import Derived.Handy
namespace Go.Proofs.YtdofpealmngmiaaGreatDoor
open Go.RowKit

/-- A world in which all that was there in w is as it was. -/
structure Later (w : World) where
  wld : World
  below : Below w.heap.size w wld

instance (w : World) : Nonempty (Later w) := ⟨⟨w, Below.refl _ _⟩⟩

@[go_sem] theorem Later.cell {w : World} (x : Later w) {b o : Nat} (h : b < w.heap.size) : x.wld.cell? ⟨b, o, none⟩ = w.cell? ⟨b, o, none⟩ := x.below.cell (p := ⟨b, o, none⟩) h

theorem Later.next {w : World} (x : Later w) {w' : World} (h : Below x.wld.heap.size x.wld w') : ∃ y : Later w, w' = y.wld := ⟨⟨w', x.below.trans (h.mono x.below.size)⟩, rfl⟩

theorem Calls.later_of {P : Program} {f : FuncId} {args : Array Value} {w : World} {x : Later w} {v : Value}
    (h : Calls P f args x.wld fun e w' => e = .returned v ∧ Below x.wld.heap.size x.wld w') : Calls P f args x.wld fun e w' => e = .returned v ∧ ∃ y : Later w, w' = y.wld :=
  h.mono fun _ _ ⟨he, hb⟩ => ⟨he, x.next hb⟩

theorem Calls.later_same {P : Program} {f : FuncId} {args : Array Value} {w : World} {x : Later w} {v : Value}
    (h : Calls P f args x.wld fun e w' => e = .returned v ∧ w' = x.wld) : Calls P f args x.wld fun e w' => e = .returned v ∧ ∃ y : Later w, w' = y.wld :=
  h.mono fun _ _ ⟨he, hb⟩ => ⟨he, x, hb⟩

theorem wp_region_later {P : Program} {id : Nat} {Q : Exit → Act → World → Prop} {a : Act} {w : World} {l : List Oper} (hm : P.follows .mixedOrders = true) (hB : Region.lexB .any l.toArray = true)
    (h : wpQuiet P l.toArray (fun w' => ∃ x : Later w, w' = x.wld) (fun a' => ∀ w', (∃ x : Later w, w' = x.wld) → Q .normal a' w') l a) : (Code.region id l.toArray true).wp P Q a w :=
  wp_region_quiet (C := fun w' => ∃ x : Later w, w' = x.wld) hm hB ⟨⟨{ w with drawn := w.drawn + 1 }, ⟨rfl, rfl, rfl, Nat.le_refl _, fun _ _ => rfl⟩⟩, rfl⟩ (by simpa using h)

end Go.Proofs.YtdofpealmngmiaaGreatDoor
