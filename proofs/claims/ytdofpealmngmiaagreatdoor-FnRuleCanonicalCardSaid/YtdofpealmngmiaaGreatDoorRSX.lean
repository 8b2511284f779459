/- A row of three spans as a row of the call's own; what stays of it. Conditions: none. -/
import Derived.Test.YtdofpealmngmiaaGreatDoorRN
namespace Go.Proofs.YtdofpealmngmiaaGreatDoor
open Go.RowKit

theorem six_owns {w : World} {g base : Nat} {a0 b0 a1 b1 a2 b2 : Int} (h : w.heap[g]? = some (.cells #[.int .i64 a0, .int .i64 b0, .int .i64 a1, .int .i64 b1, .int .i64 a2, .int .i64 b2] 25 (0, 0))) (hg : base ≤ g) :
    w.ownsRow base 25 2 (.slice (some ⟨g, 0, none⟩) 3 3) [(a0, b0), (a1, b1), (a2, b2)].length (pr [(a0, b0), (a1, b1), (a2, b2)]) :=
  ⟨rfl, .inr ⟨g, 3, _, rfl, hg, h, Nat.le_refl _, by decide, rfl, by rfl⟩⟩

theorem owns_away {w : World} {base e sz n g i : Nat} {v : Value} {xs : List Value} (h : w.ownsRow base e sz v n xs) (hne : ∀ k, v.ownBlock = some k → k ≠ g) (x : Value) : (w.setCell ⟨g, i, none⟩ x).ownsRow base e sz v n xs :=
  h.kept (row := some g) ⟨rfl, rfl, rfl, by simp [World.setCell], fun k _ hk => heap_setCell_other w ⟨g, i, none⟩ k _ (fun e => hk (by simp [e]))⟩ (by
    cases hv : v.ownBlock with
    | none => exact .inl rfl
    | some k => right; intro e; simp only [Option.some.injEq] at e; exact hne k hv e)

theorem owns_ne_ty {w : World} {base e sz n b t : Nat} {v : Value} {xs : List Value} {cs : Array Value} (h : w.ownsRow base e sz v n xs) (hb : w.heap[b]? = some (.cells cs t (0, 0))) (ht : t ≠ e) : ∀ k, v.ownBlock = some k → k ≠ b := by
  intro k hk he
  subst he
  rcases h.2 with ⟨hn, _⟩ | ⟨g, cap, cur, rfl, hg, hh, _⟩
  · rw [hn] at hk; cases hk
  · have : g = k := Option.some.inj hk
    subst this
    rw [hh] at hb
    simp only [Option.some.injEq, Obj.cells.injEq] at hb
    exact ht hb.2.1.symm
theorem owns_row0 {w : World} {base e sz n g : Nat} {v : Value} {xs : List Value} (h : w.ownsRow base e sz v n xs) (hne : ∀ k, v.ownBlock = some k → k ≠ g) (cs : Array Value) : (w.setRow g cs).ownsRow base e sz v n xs :=
  h.kept (grown_setRow w g cs) (by
    cases hv : v.ownBlock with
    | none => exact .inl rfl
    | some k => right; intro e; simp only [Option.some.injEq] at e; exact hne k hv e)

end Go.Proofs.YtdofpealmngmiaaGreatDoor
