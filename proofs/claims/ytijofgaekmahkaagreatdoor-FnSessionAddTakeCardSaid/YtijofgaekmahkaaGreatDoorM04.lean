/- Joined texts: Plain laws: rules in a list, their conflicts and their order; no program. Plain laws: the reference's way to cut a text and to read a number; no program. Conditions: none. -/
import Derived.Test.YtijofgaekmahkaaGreatDoorM03
namespace Go.Proofs.YtijofgaekmahkaaGreatDoor
open Go.RowKit
def rT (l : List Rl) (k : Nat) : Rl := l.getD k ⟨0, 0, 0, 0, 0, 0, 0, 0, 0, [], 0⟩
theorem rT_get {l : List Rl} {k : Nat} (h : k < l.length) : rT l k = l[k] := by simp [rT, List.getD, h]
theorem rT_mem {l : List Rl} {k : Nat} (h : k < l.length) : rT l k ∈ l := by rw [rT_get h]; exact List.getElem_mem h
theorem mem_rT {l : List Rl} {r : Rl} (h : r ∈ l) : ∃ k, k < l.length ∧ rT l k = r := by
 obtain ⟨k, hk, e⟩ := List.getElem_of_mem h
 exact ⟨k, hk, by rw [rT_get hk]; exact e⟩
def okRk (l : List Rl) (k : Nat) : Bool := okRu (rT l k) && (List.range k).all fun j => !decide ((rT l j).num = (rT l k).num)
def okRs (l : List Rl) : Bool := (List.range l.length).all (okRk l) && decide (l.length ≤ 6)
theorem okRs_bad {l : List Rl} {k j : Nat} (hk : k < l.length) (hj : j < k) (h : (rT l j).num = (rT l k).num) : okRs l = false := by
 unfold okRs
 rw [Bool.and_eq_false_iff]
 left
 rw [List.all_eq_false]
 refine ⟨k, List.mem_range.2 hk, ?_⟩
 have : (List.range k).all (fun j => !decide ((rT l j).num = (rT l k).num)) = false := by
   rw [List.all_eq_false]
   exact ⟨j, List.mem_range.2 hj, by simp [h]⟩
 unfold okRk
 rw [this]
 simp
theorem okRs_end {l : List Rl} (h1 : ∀ k, k < l.length → okRu (rT l k) = true) (h2 : ∀ k, k < l.length → ∀ j, j < k → (rT l j).num ≠ (rT l k).num) : okRs l = decide ((l.length : Int) ≤ 6) := by
 unfold okRs
 have : (List.range l.length).all (okRk l) = true := by
   rw [List.all_eq_true]
   intro k hk
   have hk := List.mem_range.1 hk
   unfold okRk
   rw [h1 k hk, Bool.true_and, List.all_eq_true]
   intro j hj
   have := h2 k hk j (List.mem_range.1 hj)
   simpa using this
 rw [this, Bool.true_and]
 exact decide_eq_decide.2 (by omega)
theorem okRs_pr {l : List Rl} (h : okRs l = true) : (∀ k, k < l.length → okRu (rT l k) = true) ∧ (∀ k, k < l.length → ∀ j, j < k → (rT l j).num ≠ (rT l k).num) ∧ l.length ≤ 6 := by
 unfold okRs at h
 rw [Bool.and_eq_true, List.all_eq_true, decide_eq_true_eq] at h
 have hk : ∀ k, k < l.length → okRk l k = true := fun k hk => h.1 k (List.mem_range.2 hk)
 refine ⟨fun k h1 => ?_, fun k h1 j hj => ?_, h.2⟩
 · have := hk k h1
   unfold okRk at this
   rw [Bool.and_eq_true] at this
   exact this.1
 · have := hk k h1
   unfold okRk at this
   rw [Bool.and_eq_true, List.all_eq_true] at this
   have := this.2 j (List.mem_range.2 hj)
   simpa using this
theorem okRs_mem {l : List Rl} (h : okRs l = true) : ∀ r ∈ l, okRu r = true := fun r hr => by
 obtain ⟨k, hk, rfl⟩ := mem_rT hr
 exact (okRs_pr h).1 k hk
theorem okRs_ne {l : List Rl} (h : okRs l = true) {i j : Nat} (hi : i < l.length) (hj : j < l.length) (e : (rT l i).num = (rT l j).num) : i = j := by
 have h2 := (okRs_pr h).2.1
 rcases Nat.lt_trichotomy i j with k | k | k
 · exact absurd e (h2 j hj i k)
 · exact k
 · exact absurd e.symm (h2 i hi j k)
theorem okRs_one {l : List Rl} (h : okRs l = true) {r q : Rl} (hr : r ∈ l) (hq : q ∈ l) (e : r.num = q.num) : r = q := by
 obtain ⟨i, hi, rfl⟩ := mem_rT hr
 obtain ⟨j, hj, rfl⟩ := mem_rT hq
 rw [okRs_ne h hi hj e]
def meeQ (a b c d : Int) : Bool := decide (max a c ≤ min b d)
def metC (r q : Rl) (k : Nat) : Bool := meeQ (pA r.counts k) (pB r.counts k) (pA q.counts k) (pB q.counts k)
def metK (r q : Rl) : Nat → Bool
 | 0 => meeQ r.lo r.hi q.lo q.hi
 | k + 1 => metK r q k && metC r q k
def metQ (r q : Rl) : Bool := metK r q 3
def togQ (r q : Rl) : Bool := decide (r.group = -1) || decide (q.group = -1) || decide (r.group = q.group)
def cnfQ (r q : Rl) : Bool := decide (r.lvl = q.lvl) && decide (r.rank = q.rank) && togQ r q && metQ r q
theorem meeQ_comm (a b c d : Int) : meeQ a b c d = meeQ c d a b := by unfold meeQ; rw [Int.max_comm, Int.min_comm]
theorem metK_comm (r q : Rl) : ∀ k, metK r q k = metK q r k
 | 0 => meeQ_comm _ _ _ _
 | k + 1 => by unfold metK metC; rw [metK_comm r q k, meeQ_comm]
theorem togQ_comm (r q : Rl) : togQ r q = togQ q r := by
 unfold togQ
 rw [Bool.or_comm (decide (r.group = -1))]
 congr 1
 exact decide_eq_decide.2 ⟨Eq.symm, Eq.symm⟩
theorem cnfQ_comm (r q : Rl) : cnfQ r q = cnfQ q r := by
 unfold cnfQ metQ
 rw [togQ_comm, metK_comm]
 congr 2
 congr 1
 · exact decide_eq_decide.2 ⟨Eq.symm, Eq.symm⟩
 · exact decide_eq_decide.2 ⟨Eq.symm, Eq.symm⟩
theorem cnf_lvl {r q : Rl} (h : ¬ r.lvl = q.lvl) : cnfQ r q = false := by simp [cnfQ, h]
theorem cnf_rank {r q : Rl} (h : ¬ r.rank = q.rank) : cnfQ r q = false := by simp [cnfQ, h]
theorem cnf_tog {r q : Rl} (h : togQ r q = false) : cnfQ r q = false := by simp [cnfQ, h]
theorem cnf_yes {r q : Rl} (h1 : r.lvl = q.lvl) (h2 : r.rank = q.rank) (h3 : togQ r q = true) : cnfQ r q = metQ r q := by simp [cnfQ, h1, h2, h3]
def pairQ (l : List Rl) (a b : Int) : Bool := (List.range l.length).any fun i => (List.range l.length).any fun k => decide ((rT l i).num = a) && decide ((rT l k).num = b) && cnfQ (rT l i) (rT l k)
theorem pairQ_at {l : List Rl} (h : okRs l = true) {i k : Nat} (hi : i < l.length) (hk : k < l.length) : pairQ l (rT l i).num (rT l k).num = cnfQ (rT l i) (rT l k) := by
 cases hc : cnfQ (rT l i) (rT l k)
 · unfold pairQ
   rw [List.any_eq_false]
   intro x hx
   rw [Bool.not_eq_true, List.any_eq_false]
   intro y hy
   rw [Bool.not_eq_true, Bool.and_eq_false_iff]
   by_cases e1 : (rT l x).num = (rT l i).num
   · by_cases e2 : (rT l y).num = (rT l k).num
     · right
       rw [okRs_ne h (List.mem_range.1 hx) hi e1, okRs_ne h (List.mem_range.1 hy) hk e2]
       exact hc
     · left; simp [e2]
   · left; simp [e1]
 · unfold pairQ
   rw [List.any_eq_true]
   refine ⟨i, List.mem_range.2 hi, ?_⟩
   rw [List.any_eq_true]
   exact ⟨k, List.mem_range.2 hk, by simp [hc]⟩
theorem pairQ_pr {l : List Rl} {a b : Int} (h : pairQ l a b = true) : ∃ i k, i < l.length ∧ k < l.length ∧ (rT l i).num = a ∧ (rT l k).num = b ∧ cnfQ (rT l i) (rT l k) = true := by
 unfold pairQ at h
 rw [List.any_eq_true] at h
 obtain ⟨i, hi, h⟩ := h
 rw [List.any_eq_true] at h
 obtain ⟨k, hk, h⟩ := h
 simp only [Bool.and_eq_true, decide_eq_true_eq] at h
 exact ⟨i, k, List.mem_range.1 hi, List.mem_range.1 hk, h.1.1, h.1.2, h.2⟩
theorem pairQ_no {l : List Rl} {a b : Int} (h : ∀ i k, i < l.length → k < l.length → ¬ ((rT l i).num = a ∧ (rT l k).num = b)) : pairQ l a b = false := by
 cases hp : pairQ l a b
 · rfl
 · obtain ⟨i, k, hi, hk, e1, e2, _⟩ := pairQ_pr hp
   exact absurd ⟨e1, e2⟩ (h i k hi hk)
def cnfB (l : List Rl) (a : Nat) : Nat → List (Int × Int)
 | 0 => []
 | k + 1 => cnfB l a k ++ (if pairQ l a ((a + 1 + k : Nat) : Int) then [((a : Int), ((a + 1 + k : Nat) : Int))] else [])
def cnfA (l : List Rl) : Nat → List (Int × Int)
 | 0 => []
 | k + 1 => cnfA l k ++ cnfB l (k + 1) (99 - (k + 1))
def cnfL (l : List Rl) : List (Int × Int) := cnfA l 99
def ltP (x y : Int × Int) : Bool := if x.1 = y.1 then decide (x.2 < y.2) else decide (x.1 < y.1)
theorem ltP_iff {x y : Int × Int} : ltP x y = true ↔ x.1 < y.1 ∨ (x.1 = y.1 ∧ x.2 < y.2) := by
 unfold ltP
 split
 · rw [decide_eq_true_eq]; omega
 · rw [decide_eq_true_eq]; omega
theorem ltP_no {x y : Int × Int} : ltP x y = false ↔ y.1 < x.1 ∨ (x.1 = y.1 ∧ y.2 ≤ x.2) := by
 rw [Bool.eq_false_iff, ne_eq, ltP_iff]; omega
theorem cnfB_mem (l : List Rl) (a : Nat) : ∀ k x, x ∈ cnfB l a k ↔ (x.1 = (a : Int) ∧ (a : Int) < x.2 ∧ x.2 ≤ (a : Int) + k ∧ pairQ l x.1 x.2 = true)
 | 0, x => by simp [cnfB]; omega
 | k + 1, x => by
   have ih := cnfB_mem l a k x
   unfold cnfB
   rw [List.mem_append, ih]
   constructor
   · rintro (h | h)
     · exact ⟨h.1, h.2.1, by omega, h.2.2.2⟩
     · split at h
       · rename_i hp
         rw [List.mem_singleton] at h
         subst h
         exact ⟨rfl, by simp; omega, by simp; omega, hp⟩
       · cases h
   · rintro ⟨h1, h2, h3, h4⟩
     by_cases e : x.2 = ((a + 1 + k : Nat) : Int)
     · right
       rw [if_pos (by rw [← e, ← h1]; exact h4), List.mem_singleton]
       exact Prod.ext h1 e
     · left
       exact ⟨h1, h2, by omega, h4⟩
theorem cnfA_mem (l : List Rl) : ∀ k x, x ∈ cnfA l k ↔ (1 ≤ x.1 ∧ x.1 ≤ k ∧ x.1 < x.2 ∧ x.2 ≤ x.1 + (99 - x.1.toNat : Nat) ∧ pairQ l x.1 x.2 = true)
 | 0, x => by simp [cnfA]; omega
 | k + 1, x => by
   have ih := cnfA_mem l k x
   unfold cnfA
   rw [List.mem_append, ih, cnfB_mem]
   constructor
   · rintro (h | h)
     · exact ⟨h.1, by omega, h.2.2⟩
     · obtain ⟨h1, h2, h3, h4⟩ := h
       refine ⟨by omega, by omega, by omega, ?_, h4⟩
       rw [h1] at *
       simp only [Int.toNat_natCast]
       omega
   · rintro ⟨h1, h2, h3, h4, h5⟩
     by_cases e : x.1 = ((k + 1 : Nat) : Int)
     · right
       refine ⟨e, by omega, ?_, h5⟩
       rw [e] at h4
       simp only [Int.toNat_natCast] at h4
       omega
     · left
       exact ⟨h1, by omega, h3, h4, h5⟩
theorem cnfB_sorted (l : List Rl) (a : Nat) : ∀ k, (cnfB l a k).Pairwise fun x y => ltP x y = true
 | 0 => .nil
 | k + 1 => by
   unfold cnfB
   rw [List.pairwise_append]
   refine ⟨cnfB_sorted l a k, ?_, fun x hx y hy => ?_⟩
   · split
     · exact List.pairwise_singleton _ _
     · exact .nil
   · have h1 := (cnfB_mem l a k x).1 hx
     split at hy
     · rw [List.mem_singleton] at hy
       subst hy
       rw [ltP_iff]
       simp only
       omega
     · cases hy
theorem cnfA_sorted (l : List Rl) : ∀ k, (cnfA l k).Pairwise fun x y => ltP x y = true
 | 0 => .nil
 | k + 1 => by
   unfold cnfA
   rw [List.pairwise_append]
   refine ⟨cnfA_sorted l k, cnfB_sorted l _ _, fun x hx y hy => ?_⟩
   have h1 := (cnfA_mem l k x).1 hx
   have h2 := (cnfB_mem l (k + 1) _ y).1 hy
   rw [ltP_iff]
   omega
theorem cnfL_mem {l : List Rl} (h : okRs l = true) (x : Int × Int) : x ∈ cnfL l ↔ x.1 < x.2 ∧ pairQ l x.1 x.2 = true := by
 unfold cnfL
 rw [cnfA_mem]
 constructor
 · rintro ⟨_, _, h3, _, h5⟩; exact ⟨h3, h5⟩
 · rintro ⟨h3, h5⟩
   obtain ⟨i, k, hi, hk, e1, e2, _⟩ := pairQ_pr h5
   have o1 := okRu_parts ((okRs_pr h).1 i hi)
   have o2 := okRu_parts ((okRs_pr h).1 k hk)
   exact ⟨by omega, by omega, h3, by omega, h5⟩
def fndB (l : List Rl) (i : Nat) : Nat → List (Int × Int)
 | 0 => []
 | k + 1 => fndB l i k ++ (if cnfQ (rT l i) (rT l k) = true ∧ (rT l i).num < (rT l k).num then [((rT l i).num, (rT l k).num)] else [])
def fndA (l : List Rl) : Nat → List (Int × Int)
 | 0 => []
 | k + 1 => fndA l k ++ fndB l k l.length
theorem fndB_mem (l : List Rl) (i : Nat) : ∀ k x, x ∈ fndB l i k ↔ ∃ j, j < k ∧ x = ((rT l i).num, (rT l j).num) ∧ cnfQ (rT l i) (rT l j) = true ∧ (rT l i).num < (rT l j).num
 | 0, x => by simp [fndB]
 | k + 1, x => by
   have ih := fndB_mem l i k x
   unfold fndB
   rw [List.mem_append, ih]
   constructor
   · rintro (⟨j, h1, h2⟩ | h)
     · exact ⟨j, by omega, h2⟩
     · split at h
       · rename_i hp
         rw [List.mem_singleton] at h
         exact ⟨k, by omega, h, hp⟩
       · cases h
   · rintro ⟨j, h1, h2, h3⟩
     by_cases e : j = k
     · subst e
       right
       rw [if_pos h3, List.mem_singleton]
       exact h2
     · exact .inl ⟨j, by omega, h2, h3⟩
theorem fndA_mem (l : List Rl) : ∀ k x, x ∈ fndA l k ↔ ∃ i, i < k ∧ x ∈ fndB l i l.length
 | 0, x => by simp [fndA]
 | k + 1, x => by
   have ih := fndA_mem l k x
   unfold fndA
   rw [List.mem_append, ih]
   constructor
   · rintro (⟨j, h1, h2⟩ | h)
     · exact ⟨j, by omega, h2⟩
     · exact ⟨k, by omega, h⟩
   · rintro ⟨j, h1, h2⟩
     by_cases e : j = k
     · subst e; exact .inr h2
     · exact .inl ⟨j, by omega, h2⟩
theorem fndB_nodup {l : List Rl} (h : okRs l = true) (i : Nat) : ∀ k, k ≤ l.length → (fndB l i k).Nodup
 | 0, _ => .nil
 | k + 1, hk => by
   unfold fndB
   rw [List.nodup_append]
   refine ⟨fndB_nodup h i k (by omega), by split <;> simp, fun x hx y hy => ?_⟩
   obtain ⟨j, h1, h2, _⟩ := (fndB_mem l i k x).1 hx
   split at hy
   · rw [List.mem_singleton] at hy
     subst h2; subst hy
     intro e
     have := (Prod.mk.inj e).2
     have := okRs_ne h (by omega) (by omega) this
     omega
   · cases hy
theorem fndA_nodup {l : List Rl} (h : okRs l = true) : ∀ k, k ≤ l.length → (fndA l k).Nodup
 | 0, _ => .nil
 | k + 1, hk => by
   unfold fndA
   rw [List.nodup_append]
   refine ⟨fndA_nodup h k (by omega), fndB_nodup h k _ (Nat.le_refl _), fun x hx y hy => ?_⟩
   obtain ⟨i, h1, h2⟩ := (fndA_mem l k x).1 hx
   obtain ⟨j, h3, h4, _⟩ := (fndB_mem l i _ x).1 h2
   obtain ⟨j2, h5, h6, _⟩ := (fndB_mem l k _ y).1 hy
   subst h4; subst h6
   intro e
   have := (Prod.mk.inj e).1
   have := okRs_ne h (by omega) (by omega) this
   omega
theorem fnd_mem {l : List Rl} (h : okRs l = true) (x : Int × Int) : x ∈ fndA l l.length ↔ x.1 < x.2 ∧ pairQ l x.1 x.2 = true := by
 rw [fndA_mem]
 constructor
 · rintro ⟨i, hi, hx⟩
   obtain ⟨j, hj, e, hc, hl⟩ := (fndB_mem l i _ x).1 hx
   subst e
   exact ⟨hl, by rw [pairQ_at h hi hj]; exact hc⟩
 · rintro ⟨h1, h2⟩
   obtain ⟨i, k, hi, hk, e1, e2, e3⟩ := pairQ_pr h2
   exact ⟨i, hi, (fndB_mem l i _ x).2 ⟨k, hk, Prod.ext e1.symm e2.symm, e3, by omega⟩⟩
theorem nodup_of_sorted {l : List (Int × Int)} (h : l.Pairwise fun x y => ltP x y = true) : l.Nodup :=
 h.imp fun {x y} hxy e => by subst e; rw [ltP_iff] at hxy; omega
theorem fnd_perm {l : List Rl} (h : okRs l = true) : (fndA l l.length).Perm (cnfL l) := by
 refine (List.perm_ext_iff_of_nodup (l₂ := cnfL l) (fndA_nodup h _ (Nat.le_refl _)) (nodup_of_sorted (cnfA_sorted l 99))).2 fun x => ?_
 rw [fnd_mem h, cnfL_mem h]
theorem fnd_len (l : List Rl) : ∀ k, (fndA l k).length ≤ k * l.length := by
 have hb : ∀ i k, (fndB l i k).length ≤ k := by
   intro i k
   induction k with
   | zero => simp [fndB]
   | succ k ih =>
     unfold fndB
     rw [List.length_append]
     split <;> simp <;> omega
 intro k
 induction k with
 | zero => simp [fndA]
 | succ k ih =>
   unfold fndA
   rw [List.length_append, Nat.add_mul]
   have := hb k l.length
   omega
theorem sorted_cnfL {l : List Rl} (h : okRs l = true) {m : List (Int × Int)} (hp : m.Perm (fndA l l.length)) (hs : m.Pairwise fun x y => ltP y x = false) : m = cnfL l := by
 refine List.Perm.eq_of_pairwise (le := fun x y => ltP y x = false) ?_ hs ?_ (hp.trans (fnd_perm h))
 · intro a b _ _ h1 h2
   rw [ltP_no] at h1 h2
   exact Prod.ext (by omega) (by omega)
 · exact (cnfA_sorted l 99).imp fun {x y} hxy => by rw [ltP_iff] at hxy; rw [ltP_no]; omega
def clrQ (l : List Rl) : Bool := (List.range l.length).all fun i => (List.range i).all fun k => !cnfQ (rT l k) (rT l i)
theorem clr_pr {l : List Rl} (h : clrQ l = true) {i k : Nat} (hi : i < l.length) (hk : k < i) : cnfQ (rT l k) (rT l i) = false := by
 unfold clrQ at h
 rw [List.all_eq_true] at h
 have := h i (List.mem_range.2 hi)
 rw [List.all_eq_true] at this
 simpa using this k (List.mem_range.2 hk)
theorem clr_no {l : List Rl} {i k : Nat} (hi : i < l.length) (hk : k < i) (h : cnfQ (rT l k) (rT l i) = true) : clrQ l = false := by
 cases hc : clrQ l
 · rfl
 · rw [clr_pr hc hi hk] at h; cases h
theorem clr_end {l : List Rl} (h : ∀ i, i < l.length → ∀ k, k < i → cnfQ (rT l k) (rT l i) = false) : clrQ l = true := by
 unfold clrQ
 rw [List.all_eq_true]
 intro i hi
 rw [List.all_eq_true]
 intro k hk
 rw [h i (List.mem_range.1 hi) k (List.mem_range.1 hk)]
 rfl
theorem clr_cnfL {l : List Rl} (h : okRs l = true) : clrQ l = decide ((cnfL l).length = 0) := by
 cases hc : clrQ l
 · symm
   rw [decide_eq_false_iff_not]
   intro h0
   have hn : ∀ i, i < l.length → ∀ k, k < i → cnfQ (rT l k) (rT l i) = false := by
     intro i hi k hk
     cases hq : cnfQ (rT l k) (rT l i)
     · rfl
     · have hne : (rT l k).num ≠ (rT l i).num := (okRs_pr h).2.1 i hi k hk
       have hm : ∃ x, x ∈ cnfL l := by
         rcases Int.lt_or_gt_of_ne hne with hlt | hgt
         · exact ⟨((rT l k).num, (rT l i).num), (cnfL_mem h _).2 ⟨hlt, by simp only; rw [pairQ_at h (by omega) hi]; exact hq⟩⟩
         · exact ⟨((rT l i).num, (rT l k).num), (cnfL_mem h _).2 ⟨hgt, by simp only; rw [pairQ_at h hi (by omega), cnfQ_comm]; exact hq⟩⟩
       obtain ⟨x, hx⟩ := hm
       rw [List.length_eq_zero_iff.1 h0] at hx
       cases hx
   rw [clr_end hn] at hc
   cases hc
 · symm
   rw [decide_eq_true_eq]
   cases hl : cnfL l with
   | nil => rfl
   | cons x t =>
     have hx : x ∈ cnfL l := by rw [hl]; simp
     obtain ⟨h1, h2⟩ := (cnfL_mem h x).1 hx
     obtain ⟨i, k, hi, hk, e1, e2, e3⟩ := pairQ_pr h2
     rcases Nat.lt_trichotomy i k with q | q | q
     · rw [clr_pr hc hk q] at e3; cases e3
     · subst q; omega
     · rw [cnfQ_comm, clr_pr hc hi q] at e3; cases e3
def befQ (r q : Rl) : Bool := if r.lvl = q.lvl then (if r.rank = q.rank then decide (r.num < q.num) else decide (r.rank < q.rank)) else decide (r.lvl < q.lvl)
theorem befQ_iff {r q : Rl} : befQ r q = true ↔ r.lvl < q.lvl ∨ (r.lvl = q.lvl ∧ (r.rank < q.rank ∨ (r.rank = q.rank ∧ r.num < q.num))) := by
 unfold befQ
 split
 · split
   · rw [decide_eq_true_eq]; omega
   · rw [decide_eq_true_eq]; omega
 · rw [decide_eq_true_eq]; omega
theorem befQ_no {r q : Rl} : befQ r q = false ↔ q.lvl < r.lvl ∨ (r.lvl = q.lvl ∧ (q.rank < r.rank ∨ (r.rank = q.rank ∧ q.num ≤ r.num))) := by
 rw [Bool.eq_false_iff, ne_eq, befQ_iff]; omega
def ordL (l : List Rl) : List Rl := l.mergeSort fun x y => !befQ y x
theorem ordL_one (r : Rl) : ordL [r] = [r] := by simp [ordL]
theorem ordL_nil : ordL [] = [] := by simp [ordL]
theorem ordL_perm (l : List Rl) : (ordL l).Perm l := List.mergeSort_perm _ _
theorem ordL_sorted (l : List Rl) : (ordL l).Pairwise fun x y => befQ y x = false := by
 refine (List.pairwise_mergeSort (le := fun x y => !befQ y x) ?_ ?_ l).imp ?_
 · intro a b c h1 h2
   simp only [Bool.not_eq_true', befQ_no] at *
   omega
 · intro a b
   cases h1 : befQ b a
   · rfl
   · cases h2 : befQ a b
     · rfl
     · rw [befQ_iff] at h1 h2; omega
 · intro a b h
   simpa using h
theorem sorted_ordL {l m : List Rl} (h : okRs l = true) (hp : m.Perm l) (hs : m.Pairwise fun x y => befQ y x = false) : m = ordL l := by
 refine List.Perm.eq_of_pairwise (le := fun x y => befQ y x = false) ?_ hs (ordL_sorted l) (hp.trans (ordL_perm l).symm)
 intro a b ha hb h1 h2
 rw [befQ_no] at h1 h2
 exact okRs_one h (hp.mem_iff.1 ha) ((ordL_perm l).mem_iff.1 hb) (by omega)
theorem ordL_ok {l : List Rl} (h : okRs l = true) : (∀ r ∈ ordL l, okRu r = true) ∧ (ordL l).length ≤ 6 :=
 ⟨fun r hr => okRs_mem h r ((ordL_perm l).mem_iff.1 hr), by rw [(ordL_perm l).length_eq]; exact (okRs_pr h).2.2⟩
end Go.Proofs.YtijofgaekmahkaaGreatDoor

namespace Go.Proofs.YtijofgaekmahkaaGreatDoor
open Go.RowKit
def spl (c : UInt8) : List UInt8 → List (List UInt8)
 | [] => [[]]
 | b :: t => if b = c then [] :: spl c t else match spl c t with
   | [] => [[b]]
   | x :: xs => (b :: x) :: xs
theorem spl_ne (c : UInt8) (l : List UInt8) : spl c l ≠ [] := by
 cases l with
 | nil => simp [spl]
 | cons b t =>
   unfold spl
   split
   · simp
   · cases spl c t <;> simp
theorem spl_snoc (c b : UInt8) : ∀ (l : List UInt8) (out : List (List UInt8)) (p : List UInt8), spl c l = out ++ [p] → spl c (l ++ [b]) = if b = c then out ++ [p] ++ [[]] else out ++ [p ++ [b]]
 | [], out, p, h => by
   rw [spl] at h
   obtain ⟨rfl, rfl⟩ : out = [] ∧ p = [] := by
     cases out with
     | nil => simp at h; exact ⟨rfl, h⟩
     | cons x xs => simp at h
   rw [List.nil_append, spl, spl]
   by_cases hb : b = c <;> simp [hb]
 | a :: t, out, p, h => by
   have ih := spl_snoc c b t
   rw [List.cons_append, spl]
   rw [spl] at h
   by_cases ha : a = c
   · rw [if_pos ha] at h ⊢
     cases out with
     | nil =>
       rw [List.nil_append] at h
       have := List.cons.inj h
       exact absurd this.2 (spl_ne c t)
     | cons x xs =>
       have := List.cons.inj h
       rw [ih xs p this.2, ← this.1]
       by_cases hb : b = c <;> simp [hb]
   · rw [if_neg ha] at h ⊢
     cases hs : spl c t with
     | nil => exact absurd hs (spl_ne c t)
     | cons x xs =>
       rw [hs] at h
       cases out with
       | nil =>
         have := List.cons.inj h
         obtain ⟨rfl, rfl⟩ := this
         rw [ih [] x hs]
         by_cases hb : b = c <;> simp [hb]
       | cons y ys =>
         have := List.cons.inj h
         obtain ⟨rfl, rfl⟩ := this
         rw [ih (x :: ys) p hs]
         by_cases hb : b = c <;> simp [hb]
theorem spl_clean (c : UInt8) : ∀ (x : List UInt8), (∀ b ∈ x, b ≠ c) → spl c x = [x]
 | [], _ => rfl
 | b :: t, h => by rw [spl, if_neg (h b (by simp)), spl_clean c t (fun z hz => h z (by simp [hz]))]
theorem spl_at (c : UInt8) : ∀ (x r : List UInt8), (∀ b ∈ x, b ≠ c) → spl c (x ++ c :: r) = x :: spl c r
 | [], r, _ => by rw [List.nil_append, spl, if_pos rfl]
 | b :: t, r, h => by rw [List.cons_append, spl, if_neg (h b (by simp)), spl_at c t r (fun z hz => h z (by simp [hz]))]
theorem spl_tl : ∀ (ws : List (List UInt8)) (x : List UInt8), (∀ b ∈ x, b ≠ 32) → (∀ w ∈ ws, Cl w) → spl 32 (x ++ tl ws) = x :: ws
 | [], x, hx, _ => by rw [tl_nil, List.append_nil, spl_clean 32 x hx]
 | w :: ws, x, hx, hw => by
   have e : x ++ tl (w :: ws) = x ++ 32 :: (w ++ tl ws) := by rw [tl_cons]; simp
   rw [e, spl_at 32 x _ hx, spl_tl ws w (hw w (by simp)).2 (fun v hv => hw v (by simp [hv]))]
theorem spl_text (r : Rl) : spl 32 (textR r) = dec r.num :: restW r := spl_tl _ _ (dec_cl _).2 (restW_cl r)
theorem spl_span (a b : Int) : spl 45 (spW a b) = [dec a, dec b] := by
 have hc : ∀ n : Int, ∀ x ∈ dec n, x ≠ 45 := fun n x hx e => by have := dec_digits n x hx; subst e; simp at this
 rw [show spW a b = dec a ++ 45 :: dec b from rfl, spl_at 45 _ _ (hc a), spl_clean 45 _ (hc b)]
theorem spl_len (c : UInt8) : ∀ (l : List UInt8), (spl c l).length ≤ l.length + 1 ∧ ∀ x ∈ spl c l, x.length ≤ l.length
 | [] => ⟨by simp [spl], by simp [spl]⟩
 | b :: t => by
   have ih := spl_len c t
   unfold spl
   split
   · refine ⟨by simp only [List.length_cons]; omega, fun x hx => ?_⟩
     rcases List.mem_cons.1 hx with rfl | hx
     · simp
     · have := ih.2 x hx; simp only [List.length_cons]; omega
   · cases hs : spl c t with
     | nil => exact absurd hs (spl_ne c t)
     | cons y ys =>
       rw [hs] at ih
       refine ⟨by simpa using Nat.le_succ_of_le ih.1, fun x hx => ?_⟩
       rcases List.mem_cons.1 hx with rfl | hx
       · have := ih.2 y (by simp); simp only [List.length_cons]; omega
       · have := ih.2 x (by simp [hx]); simp only [List.length_cons]; omega
def isD (b : UInt8) : Bool := decide (48 ≤ b.toNat) && decide (b.toNat ≤ 57)
def dvl (T : List UInt8) : Nat := T.foldl (fun a b => a * 10 + (b.toNat - 48)) 0
theorem dvl_snoc (T : List UInt8) (b : UInt8) : dvl (T ++ [b]) = dvl T * 10 + (b.toNat - 48) := by simp [dvl, List.foldl_append]
theorem dvl_lt : ∀ (k : Nat) (T : List UInt8), T.length = k → (∀ b ∈ T, isD b = true) → dvl T < 10 ^ k := by
 intro k
 induction k with
 | zero => intro T h _; rw [List.length_eq_zero_iff.1 h]; simp [dvl]
 | succ k ih =>
   intro T h hd
   have hne : T ≠ [] := by intro e; subst e; simp at h
   obtain ⟨T', b, rfl⟩ : ∃ T' b, T = T' ++ [b] := ⟨T.dropLast, T.getLast hne, (List.dropLast_concat_getLast hne).symm⟩
   rw [dvl_snoc]
   have h1 := ih T' (by simpa using h) (fun x hx => hd x (by simp [hx]))
   have h2 := hd b (by simp)
   simp only [isD, Bool.and_eq_true, decide_eq_true_eq] at h2
   rw [Nat.pow_succ]
   omega
def pI (T : List UInt8) : Int := if T = [] ∨ 7 < T.length then -1 else if T.all isD then (if dec (dvl T : Int) = T then (dvl T : Int) else -1) else -1
theorem dvl_digits : ∀ (m n : Nat), n < 10 ^ m → dvl (Go.Lib.decDigits n) = n
 | 0, n, h => by
   have h0 : n = 0 := by simpa using h
   subst h0
   rw [Go.Lib.decDigits, dif_pos (by omega)]
   rfl
 | m + 1, n, h => by
   rw [Go.Lib.decDigits]
   by_cases h10 : n < 10
   · rw [dif_pos h10]
     simp only [dvl, List.foldl_cons, List.foldl_nil, Nat.zero_mul, Nat.zero_add]
     rw [UInt8.toNat_ofNat']
     omega
   · rw [dif_neg h10, dvl_snoc, dvl_digits m (n / 10) (by rw [Nat.pow_succ] at h; omega), UInt8.toNat_ofNat']
     omega
theorem pI_dec {n : Int} (h0 : 0 ≤ n) (h1 : n ≤ 1000000) : pI (dec n) = n := by
 obtain ⟨m, rfl⟩ := Int.eq_ofNat_of_zero_le h0
 have hv : dvl (dec (m : Int)) = m := by unfold dec; rw [Int.toNat_natCast]; exact dvl_digits m m (pow_big m)
 have hl : (dec (m : Int)).length ≤ 7 := by
   have key : ∀ (k m : Nat), m < 10 ^ (k + 1) → (Go.Lib.decDigits m).length ≤ k + 1 := by
     intro k
     induction k with
     | zero => intro m h; rw [Go.Lib.decDigits, dif_pos (by simpa using h)]; simp
     | succ k ih =>
       intro m h
       rw [Go.Lib.decDigits]
       by_cases h10 : m < 10
       · rw [dif_pos h10]; simp
       · rw [dif_neg h10, List.length_append]
         have := ih (m / 10) (by rw [Nat.pow_succ] at h; omega)
         simp only [List.length_singleton]
         omega
   have := key 6 m (by omega)
   unfold dec
   rw [Int.toNat_natCast]
   exact this
 have hd : (dec (m : Int)).all isD = true := by
   rw [List.all_eq_true]
   intro x hx
   have := dec_digits (m : Int) x hx
   simp [isD, this]
 unfold pI
 rw [if_neg (by intro h; rcases h with h | h; exact dec_ne _ h; omega), hd, if_pos rfl, hv, if_pos rfl]
def numV (ws : List (List UInt8)) : Int := match ws with
 | [] => -1
 | x :: _ => pI x
def spnV (ws : List (List UInt8)) : Int × Int := match ws with
 | [] => (-1, 0)
 | x :: _ => match spl 45 x with
   | [a, b] => (pI a, pI b)
   | _ => (-1, 0)
theorem numV_dec {n : Int} (h0 : 0 ≤ n) (h1 : n ≤ 1000000) (t : List (List UInt8)) : numV (dec n :: t) = n := pI_dec h0 h1
theorem spnV_span {a b : Int} (ha : 0 ≤ a ∧ a ≤ 1000000) (hb : 0 ≤ b ∧ b ≤ 1000000) (t : List (List UInt8)) : spnV (spW a b :: t) = (a, b) := by
 show (match spl 45 (spW a b) with | [a, b] => (pI a, pI b) | _ => (-1, 0)) = _
 rw [spl_span]
 show (pI (dec a), pI (dec b)) = _
 rw [pI_dec ha.1 ha.2, pI_dec hb.1 hb.2]
end Go.Proofs.YtijofgaekmahkaaGreatDoor
