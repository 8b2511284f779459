/- What setting a price comes to, as plain functions on lists; and the law of a copy by append. Conditions: none. -/
import Derived.Test.YtphjdgncfamloaaPriceLaws
import Derived.Laws.AppendOwnNone
namespace Go.Proofs.Ytphjdgncfamloaa
open Go.RowKit

/-- the day of the last change -/
def lastA (l : List (Int × Int)) : Int := pA l (l.length - 1)
/-- the changes that stay before the new one -/
def base1 (l : List (Int × Int)) (d : Int) : List (Int × Int) := if 0 < l.length ∧ lastA l = d then l.take (l.length - 1) else l
def out1 (l : List (Int × Int)) (d p : Int) : List (Int × Int) := base1 l d ++ [(d, p)]
def setOk (l : List (Int × Int)) (d p : Int) : Bool := vPrices l && (decide (l.length = 0) || decide (lastA l ≤ d)) && vPrices (out1 l d p)
def setL (l : List (Int × Int)) (d p : Int) : List (Int × Int) := if setOk l d p then out1 l d p else []

theorem pA_last (b : List (Int × Int)) (d p : Int) : pA (b ++ [(d, p)]) b.length = d ∧ pB (b ++ [(d, p)]) b.length = p := by
  unfold pA pB
  rw [List.getD_eq_getElem?_getD, List.getElem?_append_right (Nat.le_refl _), Nat.sub_self]
  exact ⟨rfl, rfl⟩
theorem pA_left (b : List (Int × Int)) (d p : Int) {k : Nat} (h : k < b.length) : pA (b ++ [(d, p)]) k = pA b k ∧ pB (b ++ [(d, p)]) k = pB b k := by
  unfold pA pB
  rw [List.getD_eq_getElem?_getD, List.getElem?_append_left h, List.getD_eq_getElem?_getD]
  exact ⟨rfl, rfl⟩
theorem snoc_len (b : List (Int × Int)) (d p : Int) : (b ++ [(d, p)]).length = b.length + 1 := by simp

theorem snoc_valid {b : List (Int × Int)} {d p : Int} (h : vPrices (b ++ [(d, p)]) = true) : vPrices b = true ∧ wi d 0 999 = true ∧ wi p 1 5000 = true ∧ (∀ k, k < b.length → pA b k < d) ∧ b.length ≤ 11 := by
  have h1 := vPrices_take h b.length
  rw [List.take_left' rfl] at h1
  have h2 := vPrices_all h
  rw [snoc_len] at h2
  have h3 := chOk_pr (h2.1 b.length (by omega))
  rw [(pA_last b d p).1, (pA_last b d p).2] at h3
  refine ⟨h1, wi_true.2 (by omega), wi_true.2 (by omega), fun k hk => ?_, by omega⟩
  have := asc h b.length (by rw [snoc_len]; omega) k hk
  rwa [(pA_last b d p).1, (pA_left b d p hk).1] at this

theorem valid_snoc {b : List (Int × Int)} {d p : Int} (h : vPrices b = true) (hd : wi d 0 999 = true) (hp : wi p 1 5000 = true) (hk : b.length = 0 ∨ pA b (b.length - 1) < d) (hl : b.length ≤ 11) : vPrices (b ++ [(d, p)]) = true := by
  have hd := wi_true.1 hd
  have hp := wi_true.1 hp
  refine vPrices_mk (fun j hj => ?_) (by rw [snoc_len]; omega)
  rw [snoc_len] at hj
  by_cases e : j = b.length
  · subst e
    refine chOk_mk (by rw [(pA_last b d p).1]; exact hd) (by rw [(pA_last b d p).2]; exact hp) ?_
    rcases hk with h0 | h0
    · exact .inl h0
    · by_cases e0 : b.length = 0
      · exact .inl e0
      · right; rw [(pA_last b d p).1, (pA_left b d p (by omega)).1]; exact h0
  · have h1 := chOk_pr ((vPrices_all h).1 j (by omega))
    refine chOk_mk (by rw [(pA_left b d p (by omega)).1]; omega) (by rw [(pA_left b d p (by omega)).2]; omega) ?_
    by_cases e0 : j = 0
    · exact .inl e0
    · right
      rw [(pA_left b d p (by omega)).1, (pA_left b d p (by omega)).1]
      have := h1.2.2.2.2
      omega

theorem setOk_wi {l : List (Int × Int)} {d p : Int} (h : setOk l d p = true) : vPrices l = true ∧ wi p 1 5000 = true ∧ wi d 0 999 = true := by
  simp only [setOk, Bool.and_eq_true] at h
  have := snoc_valid h.2
  exact ⟨h.1.1, this.2.2.1, this.2.1⟩

theorem setOk_v {l : List (Int × Int)} {d p : Int} (h : vPrices l = false) : setOk l d p = false := by simp [setOk, h]
theorem setOk_p {l : List (Int × Int)} {d p : Int} (h : wi p 1 5000 = false) : setOk l d p = false := by
  cases hs : setOk l d p
  · rfl
  · rw [(setOk_wi hs).2.1] at h; cases h
theorem setOk_d {l : List (Int × Int)} {d p : Int} (h : wi d 0 999 = false) : setOk l d p = false := by
  cases hs : setOk l d p
  · rfl
  · rw [(setOk_wi hs).2.2] at h; cases h
theorem setOk_gt {l : List (Int × Int)} {d p : Int} (h0 : 0 < l.length) (h : d < lastA l) : setOk l d p = false := by
  simp only [setOk, Bool.and_eq_false_iff, Bool.or_eq_false_iff, decide_eq_false_iff_not]
  left; right; omega
theorem setOk_in {l : List (Int × Int)} {d p : Int} (hv : vPrices l = true) (h : l.length = 0 ∨ lastA l ≤ d) : setOk l d p = vPrices (out1 l d p) := by
  unfold setOk
  rw [hv]
  rcases h with h | h <;> simp [h]
theorem setL_no {l : List (Int × Int)} {d p : Int} (h : setOk l d p = false) : setL l d p = [] := by simp [setL, h]
theorem setL_yes {l : List (Int × Int)} {d p : Int} (h : setOk l d p = true) : setL l d p = out1 l d p := by simp [setL, h]

theorem out1_eq {l : List (Int × Int)} {d p : Int} (h0 : 0 < l.length) (h : lastA l = d) : out1 l d p = l.take (l.length - 1) ++ [(d, p)] := by unfold out1 base1; rw [if_pos ⟨h0, h⟩]
theorem out1_ne {l : List (Int × Int)} {d p : Int} (h : ¬ (0 < l.length ∧ lastA l = d)) : out1 l d p = l ++ [(d, p)] := by unfold out1 base1; rw [if_neg h]
theorem set_last {l : List (Int × Int)} {d p : Int} (h0 : 0 < l.length) (h : lastA l = d) : l.set (l.length - 1) (d, p) = out1 l d p := by
  rw [out1_eq h0 h]
  apply List.ext_getElem?
  intro j
  rw [List.getElem?_set]
  have ht : (l.take (l.length - 1)).length = l.length - 1 := by rw [List.length_take]; omega
  by_cases e : l.length - 1 = j
  · rw [if_pos e, if_pos (by omega), List.getElem?_append_right (by omega), ht, show j - (l.length - 1) = 0 by omega]; rfl
  · rw [if_neg e]
    by_cases hj : j < l.length - 1
    · rw [List.getElem?_append_left (by omega), List.getElem?_take, if_pos hj]
    · rw [List.getElem?_eq_none (by omega), List.getElem?_eq_none (by simp; omega)]

theorem set_same {α : Type} (xs : List α) (k : Nat) (a : α) (h : xs[k]? = some a) : xs.set k a = xs := by
  apply List.ext_getElem?
  intro j
  rw [List.getElem?_set]
  split
  · rename_i e
    subst e
    have := (List.getElem?_eq_some_iff.1 h).1
    rw [if_pos this, h]
  · rfl

/-- append of a whole list of pairs to a new, empty row. -/
theorem app_copy {P : Program} {w : World} {ops : Array Oper} {rest : List Oper} {o : Oper} {a : Act} {Q : Exit → Act → World → Prop} (hgd : o.guard = none) (s x : Operand) (t : TypeId)
    (ho : o.op = .call { callee := .builtin .append, args := #[s, x], argTypes := #[t, t] }) (base base0 e : Nat) (i : TypeInfo) (z : Value) (ht : P.underlying t = some (.slice e)) (hi : P.info? e = some i) (hz : i.zero = some z)
    (hs : i.size = 2) (hby : i.bytes = 16) (hzs : z.cells.size = 2) (v : Value) (hv : a.eval s = v) (hown : w.ownsRow base e 2 v 0 []) (l : List (Int × Int)) (u : Value) (hx : a.eval x = u) (hr : w.ownsRow base0 e 2 u l.length (pr l))
    (hlen : l.length ≤ 1099511627776) (hbase : base ≤ w.heap.size)
    (h : ∀ v' w1, w1.ownsRow base e 2 v' l.length (pr l) → w.grownBy w1 v.ownBlock → wpList P ops Q rest (a.put o.dst v') w1) : wpList P ops Q (o :: rest) a w := by
  rcases hr.2 with ⟨rfl, hn⟩ | ⟨g, cap, cur, rfl, hb, hg, hn, hc, hsz, htk⟩
  · obtain rfl : l = [] := List.eq_nil_of_length_eq_zero hn
    exact wpList_append_own_none hgd s x t ho base e i 2 ht hi v 0 [] hv hown hx (h v w hown (World.grownBy.refl _ _))
  · refine wpList_append_own w hgd s x t ho base e i z 2 16 ht hi hz hs hby hzs (by decide) v 0 [] hv hown ⟨g, 0, none⟩ l.length cap (pr l) hx (pr_len l) (hr.cells (g := g) rfl) (fun q hq => ?_) (by unfold maxLen; omega) (by omega) hbase ?_
    · obtain ⟨y, _, hy⟩ := List.mem_flatMap.1 hq
      rcases List.mem_cons.1 hy with rfl | hy
      · rfl
      · rcases List.mem_cons.1 hy with rfl | hy
        · rfl
        · cases hy
    · intro v' w1 h1 h2 _
      rw [Nat.zero_add, List.nil_append] at h1
      exact h v' w1 h1 h2

end Go.Proofs.Ytphjdgncfamloaa
