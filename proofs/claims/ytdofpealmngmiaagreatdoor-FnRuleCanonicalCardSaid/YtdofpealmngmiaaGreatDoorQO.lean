/- What both readings of a text end in. Conditions: none. -/
import Derived.Test.YtdofpealmngmiaaGreatDoorPW
import Derived.Test.YtdofpealmngmiaaGreatDoorPK
namespace Go.Proofs.YtdofpealmngmiaaGreatDoor
open Go.RowKit

/-- the rule of zeros -/
def rz : Rl := ⟨0, 0, 0, 0, 0, 0, 0, 0, 0, [], 0⟩
/-- the rule of a text, and whether there is one -/
def Res (T : List UInt8) (ok : Bool) (r : Rl) : Prop := (ok = true ∧ okRu r = true ∧ textR r = T ∧ ∀ r0, okRu r0 = true → textR r0 = T → r0 = r) ∨ (ok = false ∧ r = rz ∧ ∀ r0, okRu r0 = true → textR r0 ≠ T)
theorem Res.one {T : List UInt8} {a b : Bool} {r s : Rl} (h : Res T a r) (k : Res T b s) : a = b ∧ r = s := by
  rcases h with ⟨h1, h2, h3, h4⟩ | ⟨h1, h2, h3⟩ <;> rcases k with ⟨k1, k2, k3, k4⟩ | ⟨k1, k2, k3⟩
  · exact ⟨h1.trans k1.symm, k4 r h2 h3⟩
  · exact absurd h3 (k3 r h2)
  · exact absurd k3 (h3 s k2)
  · exact ⟨h1.trans k1.symm, h2.trans k2.symm⟩
theorem Res.len {T : List UInt8} {a : Bool} {r : Rl} (h : Res T a r) : r.counts.length ≤ 3 := by
  rcases h with ⟨_, h2, _⟩ | ⟨_, rfl, _⟩
  · rw [(okRu_num h2).2.2.2.2.2.2.1]; exact Nat.le_refl _
  · exact Nat.zero_le _
/-- What a reading ends in, both ways in one form. -/
def Out (T : List UInt8) (w : World) (e : Ending) (w' : World) : Prop :=
  ∃ (ok : Bool) (r : Rl) (v : Value), Res T ok r ∧ e = .returned (.tuple #[ruV r v, .bool ok]) ∧ w'.ownsRow w.heap.size 25 2 v r.counts.length (pr r.counts) ∧ Below w.heap.size w w'
theorem Parsed.out {T : List UInt8} {w w' : World} {e : Ending} (h : Parsed T w e w') : Out T w e w' := by
  obtain ⟨h, hb⟩ := h
  rcases h with ⟨r, v, h1, h2, h3, rfl, ho⟩ | ⟨h1, rfl⟩
  · exact ⟨true, r, v, .inl ⟨rfl, h1, h2, h3⟩, rfl, ho, hb⟩
  · exact ⟨false, rz, .slice none 0 0, .inr ⟨rfl, rfl, h1⟩, rfl, World.ownsRow_nil _ _ _ _, hb⟩
theorem specOut (T : List UInt8) (w : World) (hl : T.length ≤ 1000000000) : Calls Tryz.prog 6 #[.string ⟨T.toArray⟩] w (Out T w) := (specParse T w hl).mono fun _ _ h => h.out
theorem implOut (T : List UInt8) (w : World) (hE : EnvB w.heap.size w) (hl : T.length ≤ 1000000000) : Calls Tryz.prog 5 #[.string ⟨T.toArray⟩] w (Out T w) := (implParse T w hE hl).mono fun _ _ h => h.out

theorem EnvB.upTo {B C : Nat} {W : World} (h : EnvB B W) (hc : B ≤ C) : EnvB C W := by
  obtain ⟨W0, h1, h2⟩ := h
  exact ⟨W0, Nat.le_trans h1 hc, h2⟩
theorem EnvB.any {B : Nat} {W W' : World} {row : Option Nat} (h : EnvB B W) (hg : W.grownBy W' row) (hr : ∀ k, row = some k → B ≤ k) : EnvB B W' := by
  cases row with
  | none => exact h.below (below_of_grownBy hg)
  | some k => exact h.grown hg (hr k rfl)

end Go.Proofs.YtdofpealmngmiaaGreatDoor
