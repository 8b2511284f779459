/- The law of a copy of pairs by append. Conditions: none. -/
import Derived.Test.YtomapdedajdkkabMem
import Derived.Laws.AppendOwnNone
namespace Go.Proofs.Ytomapdedajdkkab
open Go.RowKit

/-- append of a whole list of pairs to a new, empty row. -/
theorem app_copy {P : Program} {w : World} {ops : Array Oper} {rest : List Oper} {o : Oper} {a : Act} {Q : Exit → Act → World → Prop} (hgd : o.guard = none) (s x : Operand) (t : TypeId)
    (ho : o.op = .call { callee := .builtin .append, args := #[s, x], argTypes := #[t, t] }) (base base0 e : Nat) (i : TypeInfo) (z : Value) (ht : P.underlying t = some (.slice e)) (hi : P.info? e = some i) (hz : i.zero = some z)
    (hs : i.size = 2) (hby : i.bytes = 16) (hzs : z.cells.size = 2) (v : Value) (hv : a.eval s = v) (hown : w.ownsRow base e 2 v 0 []) (l : List (Int × Int)) (u : Value) (hx : a.eval x = u) (hr : w.ownsRow base0 e 2 u l.length (pr l))
    (hlen : l.length ≤ 1099511627776) (hbase : base ≤ w.heap.size)
    (h : ∀ v' w1, w1.ownsRow base e 2 v' l.length (pr l) → w.grownBy w1 v.ownBlock → wpList P ops Q rest (a.put o.dst v') w1) : wpList P ops Q (o :: rest) a w := by
  rcases hr.2 with ⟨rfl, hn⟩ | ⟨g, cap, cur, rfl, hb, hg, hn, hc, hsz, htk⟩
  · obtain rfl : l = [] := List.eq_nil_of_length_eq_zero hn
    exact wpList_append_own_none hgd s x t ho base e i 2 ht hi v 0 [] hv hown hx (h v w hown (World.grownBy.refl _ _))
  · refine wpList_append_own w hgd s x t ho base e i z 2 16 ht hi hz hs hby hzs (by decide) v 0 [] hv hown ⟨g, 0, none⟩ l.length cap (pr l) hx (pr_len l) (hr.cells (g := g) rfl) (fun q hq => ?_) (by unfold maxLen; omega) (by omega) hbase ?_
    · obtain ⟨y, _, hy⟩ := List.mem_flatMap.1 hq
      rcases List.mem_cons.1 hy with rfl | hy
      · rfl
      · rcases List.mem_cons.1 hy with rfl | hy
        · rfl
        · cases hy
    · intro v' w1 h1 h2 _
      rw [Nat.zero_add, List.nil_append] at h1
      exact h v' w1 h1 h2

end Go.Proofs.Ytomapdedajdkkab
