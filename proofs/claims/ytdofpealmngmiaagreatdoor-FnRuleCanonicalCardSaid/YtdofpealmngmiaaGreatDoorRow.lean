/- Small laws on rows of numbers that a call owns: reading, storing, copying. Conditions: none. -/
import Derived.Test.YtdofpealmngmiaaGreatDoorMem
import Derived.Laws.AppendOwnNone
namespace Go.Proofs.YtdofpealmngmiaaGreatDoor
open Go.RowKit

/-- Below, behind a write into what is new. -/
theorem below_row {w a b : World} {row : Option Nat} (h : Below w.heap.size w a) (hg : a.grownBy b row) (hr : ∀ k, row = some k → w.heap.size ≤ k) : Below w.heap.size w b :=
  below_of_grownBy (grownBy_new (grownBy_of_below h) hg hr)

/-- A row stays where another one is written. -/
theorem owns_apart {w w' : World} {b1 e sz n1 : Nat} {v1 v2 : Value} {xs : List Value} (h : w.ownsRow b1 e sz v1 n1 xs) (hg : w.grownBy w' v2.ownBlock) (hne : ∀ k k', v1.ownBlock = some k → v2.ownBlock = some k' → k ≠ k') : w'.ownsRow b1 e sz v1 n1 xs :=
  h.kept hg (by
    cases hv : v1.ownBlock with
    | none => exact .inl rfl
    | some k => right; intro e; exact hne k k hv e.symm rfl)

theorem owns_at1 {w : World} {base e g n cap : Nat} {m : List Int} (h : w.ownsRow base e 1 (.slice (some ⟨g, 0, none⟩) n cap) n (it m)) (k : Nat) (hk : k < n) :
    w.cell? ⟨g, k, none⟩ = some (.int .i64 (iG m k)) ∧ w.frozen? ⟨g, k, none⟩ = false := by
  have hl : m.length = n := by have := h.1; rw [it_len] at this; omega
  exact ⟨(h.cellAt k (by omega)).trans (it_get m k (by omega)), h.frozenAt _⟩

theorem owns_set1 {w : World} {base e g n cap : Nat} {m : List Int} (h : w.ownsRow base e 1 (.slice (some ⟨g, 0, none⟩) n cap) n (it m)) (k : Nat) (a : Int) :
    (w.setCell ⟨g, k, none⟩ (.int .i64 a)).ownsRow base e 1 (.slice (some ⟨g, 0, none⟩) n cap) n (it (m.set k a)) ∧ w.grownBy (w.setCell ⟨g, k, none⟩ (.int .i64 a)) (some g) := by
  rw [← it_set]
  exact h.stored _ _

theorem iG_last (m : List Int) (a : Int) : iG (m ++ [a]) m.length = a := by
  unfold iG; rw [List.getD_eq_getElem?_getD, List.getElem?_append_right (Nat.le_refl _), Nat.sub_self]; rfl
theorem iG_left (m : List Int) (a : Int) {k : Nat} (h : k < m.length) : iG (m ++ [a]) k = iG m k := by
  unfold iG; rw [List.getD_eq_getElem?_getD, List.getElem?_append_left h, List.getD_eq_getElem?_getD]
theorem set_lastI (m : List Int) (a b : Int) : (m ++ [a]).set m.length b = m ++ [b] := by
  rw [List.set_append_right _ _ (Nat.le_refl _), Nat.sub_self]; rfl

/-- append of a whole list of numbers to a new, empty row. -/
theorem app_copy1 {P : Program} {w : World} {ops : Array Oper} {rest : List Oper} {o : Oper} {a : Act} {Q : Exit → Act → World → Prop} (hgd : o.guard = none) (s x : Operand) (t : TypeId)
    (ho : o.op = .call { callee := .builtin .append, args := #[s, x], argTypes := #[t, t] }) (base base0 e : Nat) (i : TypeInfo) (z : Value) (ht : P.underlying t = some (.slice e)) (hi : P.info? e = some i) (hz : i.zero = some z)
    (hs : i.size = 1) (hby : i.bytes = 8) (hzs : z.cells.size = 1) (v : Value) (hv : a.eval s = v) (hown : w.ownsRow base e 1 v 0 []) (l : List Int) (u : Value) (hx : a.eval x = u) (hr : w.ownsRow base0 e 1 u l.length (it l))
    (hlen : l.length ≤ 1099511627776) (hbase : base ≤ w.heap.size)
    (h : ∀ v' w1, w1.ownsRow base e 1 v' l.length (it l) → w.grownBy w1 v.ownBlock → wpList P ops Q rest (a.put o.dst v') w1) : wpList P ops Q (o :: rest) a w := by
  rcases hr.2 with ⟨rfl, hn⟩ | ⟨g, cap, cur, rfl, hb, hg, hn, hc, hsz, htk⟩
  · obtain rfl : l = [] := List.eq_nil_of_length_eq_zero hn
    exact wpList_append_own_none hgd s x t ho base e i 1 ht hi v 0 [] hv hown hx (h v w hown (World.grownBy.refl _ _))
  · refine wpList_append_own w hgd s x t ho base e i z 1 8 ht hi hz hs hby hzs (by decide) v 0 [] hv hown ⟨g, 0, none⟩ l.length cap (it l) hx (it_len l) (hr.cells (g := g) rfl) (fun q hq => ?_) (by unfold maxLen; omega) (by omega) hbase ?_
    · obtain ⟨y, _, rfl⟩ := List.mem_map.1 hq
      rfl
    · intro v' w1 h1 h2 _
      rw [Nat.zero_add, List.nil_append] at h1
      exact h v' w1 h1 h2

end Go.Proofs.YtdofpealmngmiaaGreatDoor
