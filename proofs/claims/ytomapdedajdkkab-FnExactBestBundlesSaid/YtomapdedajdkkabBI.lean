/- What the closure of BestBundles keeps: its captured variables and the rows they hold. Conditions: none. -/
import Derived.Test.YtomapdedajdkkabBS
namespace Go.Proofs.Ytomapdedajdkkab
open Go.RowKit

/-- The blocks of the captured variables and of their rows, in the order in which they were made. -/
def Ord (z S L M N Bb Hb Tb gH gN : Nat) : Prop := z ≤ S ∧ S < L ∧ L < gH ∧ gH < Hb ∧ Hb < Bb ∧ Bb < M ∧ M < gN ∧ gN < N ∧ N < Tb

/-- What the closure keeps. -/
structure Env (W : World) (sv lv : Value) (S L M N Bb Hb Tb gH gN cH cN nH nN : Nat) (w : World) (h now best : List Int) (m : Int) : Prop where
  old : Below W.heap.size W w
  iS : w.heap[S]? = some (.cells #[sv] 29 (0, 0))
  iL : w.heap[L]? = some (.cells #[lv] 39 (0, 0))
  iT : w.heap[Tb]? = some (.cells #[.func (Fn.func 60) #[] #[.pointer (some ⟨L, 0, none⟩), .pointer (some ⟨M, 0, none⟩), .pointer (some ⟨N, 0, none⟩), .pointer (some ⟨Bb, 0, none⟩), .pointer (some ⟨S, 0, none⟩), .pointer (some ⟨Hb, 0, none⟩), .pointer (some ⟨Tb, 0, none⟩)]] 87 (0, 0))
  iH : w.heap[Hb]? = some (.cells #[(.slice (some ⟨gH, 0, none⟩) nH cH)] 42 (0, 0))
  iN : w.heap[N]? = some (.cells #[(.slice (some ⟨gN, 0, none⟩) nN cN)] 42 (0, 0))
  iM : w.heap[M]? = some (.cells #[.int .i64 m] 3 (0, 0))
  iB : ∃ v, w.heap[Bb]? = some (.cells #[v] 42 (0, 0)) ∧ w.ownsRow W.heap.size 3 1 v best.length (it best) ∧ ∀ k, v.ownBlock = some k → k ≠ gH ∧ k ≠ gN ∧ k ≠ M ∧ k ≠ Bb
  oH : w.ownsRow W.heap.size 3 1 (.slice (some ⟨gH, 0, none⟩) nH cH) nH (it h)
  oN : w.ownsRow W.heap.size 3 1 (.slice (some ⟨gN, 0, none⟩) nN cN) nN (it now)

variable {W : World} {sv lv : Value} {S L M N Bb Hb Tb gH gN cH cN nH nN : Nat} {w : World} {h now best : List Int} {m : Int}

theorem Env.hl (E : Env W sv lv S L M N Bb Hb Tb gH gN cH cN nH nN w h now best m) : h.length = nH := by have := E.oH.1; rw [it_len] at this; omega
theorem Env.nl (E : Env W sv lv S L M N Bb Hb Tb gH gN cH cN nH nN w h now best m) : now.length = nN := by have := E.oN.1; rw [it_len] at this; omega

theorem Env.below (E : Env W sv lv S L M N Bb Hb Tb gH gN cH cN nH nN w h now best m) {w' : World} (hb : Below w.heap.size w w') : Env W sv lv S L M N Bb Hb Tb gH gN cH cN nH nN w' h now best m := by
  obtain ⟨v, v1, v2, v3⟩ := E.iB
  exact ⟨E.old.trans (hb.mono E.old.size), (hb.block S (lt_of_block E.iS)).trans E.iS, (hb.block L (lt_of_block E.iL)).trans E.iL, (hb.block Tb (lt_of_block E.iT)).trans E.iT,
    (hb.block Hb (lt_of_block E.iH)).trans E.iH, (hb.block N (lt_of_block E.iN)).trans E.iN, (hb.block M (lt_of_block E.iM)).trans E.iM,
    ⟨v, (hb.block Bb (lt_of_block v1)).trans v1, ownsRow_below v2 hb (Nat.le_refl _), v3⟩, ownsRow_below E.oH hb (Nat.le_refl _), ownsRow_below E.oN hb (Nat.le_refl _)⟩
theorem Env.drew (E : Env W sv lv S L M N Bb Hb Tb gH gN cH cN nH nN w h now best m) : Env W sv lv S L M N Bb Hb Tb gH gN cH cN nH nN w.drew h now best m := E.below (Below.refl _ _).drew
theorem Env.alloc (E : Env W sv lv S L M N Bb Hb Tb gH gN cH cN nH nN w h now best m) (o : Obj) : Env W sv lv S L M N Bb Hb Tb gH gN cH cN nH nN (w.alloc o) h now best m := E.below ((Below.refl _ _).alloc (Nat.le_refl _) _)

theorem Env.setHave (O : Ord W.heap.size S L M N Bb Hb Tb gH gN) (E : Env W sv lv S L M N Bb Hb Tb gH gN cH cN nH nN w h now best m) (i : Nat) (x : Int) : Env W sv lv S L M N Bb Hb Tb gH gN cH cN nH nN (w.setCell ⟨gH, i, none⟩ (.int .i64 x)) (h.set i x) now best m := by
  unfold Ord at O
  obtain ⟨v, v1, v2, v3⟩ := E.iB
  have nb : ∀ b, b ≠ gH → (w.setCell ⟨gH, i, none⟩ (.int .i64 x)).heap[b]? = w.heap[b]? := fun b hb => Below.heap_setCell _ _ _ _ hb
  exact ⟨E.old.setCell (show W.heap.size ≤ gH by omega) _, (nb S (by omega)).trans E.iS, (nb L (by omega)).trans E.iL, (nb Tb (by omega)).trans E.iT, (nb Hb (by omega)).trans E.iH, (nb N (by omega)).trans E.iN, (nb M (by omega)).trans E.iM,
    ⟨v, (nb Bb (by omega)).trans v1, ownsRow_setCell_other v2 (fun e => (v3 gH e).1 rfl) _, v3⟩, (owns_set1 E.oH i x).1, ownsRow_setCell_other E.oN (by simp [Value.ownBlock]; omega) _⟩

theorem Env.setNow (O : Ord W.heap.size S L M N Bb Hb Tb gH gN) (E : Env W sv lv S L M N Bb Hb Tb gH gN cH cN nH nN w h now best m) (i : Nat) (x : Int) : Env W sv lv S L M N Bb Hb Tb gH gN cH cN nH nN (w.setCell ⟨gN, i, none⟩ (.int .i64 x)) h (now.set i x) best m := by
  unfold Ord at O
  obtain ⟨v, v1, v2, v3⟩ := E.iB
  have nb : ∀ b, b ≠ gN → (w.setCell ⟨gN, i, none⟩ (.int .i64 x)).heap[b]? = w.heap[b]? := fun b hb => Below.heap_setCell _ _ _ _ hb
  exact ⟨E.old.setCell (show W.heap.size ≤ gN by omega) _, (nb S (by omega)).trans E.iS, (nb L (by omega)).trans E.iL, (nb Tb (by omega)).trans E.iT, (nb Hb (by omega)).trans E.iH, (nb N (by omega)).trans E.iN, (nb M (by omega)).trans E.iM,
    ⟨v, (nb Bb (by omega)).trans v1, ownsRow_setCell_other v2 (fun e => (v3 gN e).2.1 rfl) _, v3⟩, ownsRow_setCell_other E.oH (by simp [Value.ownBlock]; omega) _, (owns_set1 E.oN i x).1⟩

theorem Env.setMost (O : Ord W.heap.size S L M N Bb Hb Tb gH gN) (E : Env W sv lv S L M N Bb Hb Tb gH gN cH cN nH nN w h now best m) (x : Int) : Env W sv lv S L M N Bb Hb Tb gH gN cH cN nH nN (w.setCell ⟨M, 0, none⟩ (.int .i64 x)) h now best x := by
  unfold Ord at O
  obtain ⟨v, v1, v2, v3⟩ := E.iB
  have nb : ∀ b, b ≠ M → (w.setCell ⟨M, 0, none⟩ (.int .i64 x)).heap[b]? = w.heap[b]? := fun b hb => Below.heap_setCell _ _ _ _ hb
  exact ⟨E.old.setCell (show W.heap.size ≤ M by omega) _, (nb S (by omega)).trans E.iS, (nb L (by omega)).trans E.iL, (nb Tb (by omega)).trans E.iT, (nb Hb (by omega)).trans E.iH, (nb N (by omega)).trans E.iN, one_setCell E.iM,
    ⟨v, (nb Bb (by omega)).trans v1, ownsRow_setCell_other v2 (fun e => (v3 M e).2.2.1 rfl) _, v3⟩, ownsRow_setCell_other E.oH (by simp [Value.ownBlock]; omega) _, ownsRow_setCell_other E.oN (by simp [Value.ownBlock]; omega) _⟩

theorem Env.setBest (O : Ord W.heap.size S L M N Bb Hb Tb gH gN) (E : Env W sv lv S L M N Bb Hb Tb gH gN cH cN nH nN w h now best m) (u : Value) (l : List Int) (hu : w.ownsRow W.heap.size 3 1 u l.length (it l)) (hk : ∀ k, u.ownBlock = some k → k ≠ gH ∧ k ≠ gN ∧ k ≠ M ∧ k ≠ Bb) : Env W sv lv S L M N Bb Hb Tb gH gN cH cN nH nN (w.setCell ⟨Bb, 0, none⟩ u) h now l m := by
  unfold Ord at O
  obtain ⟨v, v1, v2, v3⟩ := E.iB
  have nb : ∀ b, b ≠ Bb → (w.setCell ⟨Bb, 0, none⟩ u).heap[b]? = w.heap[b]? := fun b hb => Below.heap_setCell _ _ _ _ hb
  exact ⟨E.old.setCell (show W.heap.size ≤ Bb by omega) _, (nb S (by omega)).trans E.iS, (nb L (by omega)).trans E.iL, (nb Tb (by omega)).trans E.iT, (nb Hb (by omega)).trans E.iH, (nb N (by omega)).trans E.iN, (nb M (by omega)).trans E.iM,
    ⟨u, one_setCell v1, ownsRow_setCell_other hu (fun e => (hk Bb e).2.2.2 rfl) _, hk⟩, ownsRow_setCell_other E.oH (by simp [Value.ownBlock]; omega) _, ownsRow_setCell_other E.oN (by simp [Value.ownBlock]; omega) _⟩

/-- the better of what is and of a new choice -/
def upd (st : Int × List Int) (v : Int) (x : List Int) : Int × List Int := if st.1 < v then (v, x) else st
theorem upd_upd (st : Int × List Int) (a b : Int) (x y : List Int) : upd (upd st a x) b y = if a < b then upd st b y else upd st a x := by
  unfold upd
  by_cases h1 : st.1 < a
  · rw [if_pos h1]
    by_cases h2 : a < b
    · rw [if_pos h2, if_pos h2, if_pos (by omega)]
    · rw [if_neg h2, if_neg h2]
  · rw [if_neg h1]
    by_cases h2 : st.1 < b
    · rw [if_pos h2, if_pos (by omega)]
    · rw [if_neg h2]; split <;> rfl
/-- what the closure holds after j counts -/
def stJ (st : Int × List Int) (gain : Int) (pre : List Int) (lp : Nat → Int × List Int) (j : Nat) : Int × List Int := if j = 0 then st else upd st (gain + (lp j).1) (pre ++ (lp j).2)
theorem stJ_succ {st : Int × List Int} {gain : Int} {pre : List Int} {lp : Nat → Int × List Int} {j : Nat} {v c : Int} {r : List Int} (h : lp (j + 1) = if (lp j).1 < v then (v, c :: r) else lp j) (h0 : lp 0 = (-1, [])) (hv : 0 ≤ v) :
    upd (stJ st gain pre lp j) (gain + v) (pre ++ c :: r) = stJ st gain pre lp (j + 1) := by
  unfold stJ
  rw [if_neg (Nat.succ_ne_zero j), h]
  by_cases e : j = 0
  · subst e
    rw [if_pos rfl, h0, if_pos (by show (-1 : Int) < v; omega)]
  · rw [if_neg e, upd_upd]
    by_cases h2 : (lp j).1 < v
    · rw [if_pos h2, if_pos (by omega)]
    · rw [if_neg h2, if_neg (by omega)]

end Go.Proofs.Ytomapdedajdkkab
