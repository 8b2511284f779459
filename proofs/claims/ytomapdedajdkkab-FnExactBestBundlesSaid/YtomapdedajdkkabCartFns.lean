/- Shops and carts as plain functions on lists, and plain laws on them. No program. Conditions: none. -/
import Derived.Test.YtomapdedajdkkabPure
namespace Go.Proofs.Ytomapdedajdkkab
open Go.RowKit

/-- an article: price, group, rate, weight -/
structure Art where
  p : Int
  g : Int
  r : Int
  w : Int

instance : DecidableEq Art := fun a b =>
  if h : a.p = b.p ∧ a.g = b.g ∧ a.r = b.r ∧ a.w = b.w then isTrue (by
    cases a; cases b
    simp only at h
    obtain ⟨rfl, rfl, rfl, rfl⟩ := h
    rfl) else isFalse (by rintro rfl; exact h ⟨rfl, rfl, rfl, rfl⟩)

/-- articles as cells -/
def ar (l : List Art) : List Value := l.flatMap fun a => [Value.int .i64 a.p, Value.int .i64 a.g, Value.int .i64 a.r, Value.int .i64 a.w]
/-- the article at place k -/
def aT (l : List Art) (k : Nat) : Art := l.getD k ⟨0, 0, 0, 0⟩

theorem ar_len (l : List Art) : (ar l).length = l.length * 4 := by
  induction l with
  | nil => rfl
  | cons a l ih => simp only [ar, List.flatMap_cons, List.length_append, List.length_cons, List.length_nil] at *; omega

theorem ar_get (l : List Art) (k : Nat) (hk : k < l.length) :
    (ar l)[k * 4]? = some (.int .i64 (aT l k).p) ∧ (ar l)[k * 4 + 1]? = some (.int .i64 (aT l k).g) ∧ (ar l)[k * 4 + 2]? = some (.int .i64 (aT l k).r) ∧ (ar l)[k * 4 + 3]? = some (.int .i64 (aT l k).w) := by
  induction l generalizing k with
  | nil => simp at hk
  | cons a l ih =>
    have hc : ar (a :: l) = Value.int .i64 a.p :: Value.int .i64 a.g :: Value.int .i64 a.r :: Value.int .i64 a.w :: ar l := by simp [ar]
    rw [hc]
    match k, hk with
    | 0, _ => simp [aT]
    | k + 1, hk =>
      have := ih k (by simpa using hk)
      simpa [Nat.add_mul, aT] using this

/-- A slice of articles, opened. -/
theorem Rd.arts {w : World} {v : Value} {l : List Art} (h : Rd w 4 v l.length (ar l)) :
    ∃ ao cap, v = .slice ao l.length cap ∧ l.length ≤ cap ∧ cap ≤ maxLen ∧ (0 < l.length → ∃ b off, ao = some ⟨b, off, none⟩ ∧ b < w.heap.size ∧
      ∀ k, k < l.length → w.cell? ⟨b, off + k * 4, none⟩ = some (.int .i64 (aT l k).p) ∧ w.cell? ⟨b, off + k * 4 + 1, none⟩ = some (.int .i64 (aT l k).g) ∧ w.cell? ⟨b, off + k * 4 + 2, none⟩ = some (.int .i64 (aT l k).r) ∧ w.cell? ⟨b, off + k * 4 + 3, none⟩ = some (.int .i64 (aT l k).w)) := by
  obtain ⟨_, ao, cap, h2, h3, h4, h5⟩ := h
  refine ⟨ao, cap, h2, h3, h4, fun hn => ?_⟩
  obtain ⟨b, off, h6, h7, h8⟩ := h5 hn
  refine ⟨b, off, h6, h7, fun k hk => ?_⟩
  have hg := ar_get l k hk
  exact ⟨h8 _ _ hg.1, h8 _ _ hg.2.1, h8 _ _ hg.2.2.1, h8 _ _ hg.2.2.2⟩

/-! ### Shops -/
def atOk (a : Art) : Bool := wi a.p 1 5000 && wi a.g 0 2 && wi a.r 0 300 && wi a.w 0 5000
def vShop (l : List Art) : Bool := (List.range l.length).all (fun k => atOk (aT l k)) && wi l.length 1 10

theorem vShop_bad {l : List Art} {k : Nat} (hk : k < l.length) (h : atOk (aT l k) = false) : vShop l = false := by
  unfold vShop
  rw [Bool.and_eq_false_iff]
  left
  rw [List.all_eq_false]
  exact ⟨k, List.mem_range.2 hk, by simp [h]⟩
theorem vShop_end {l : List Art} (h : ∀ j, j < l.length → atOk (aT l j) = true) : vShop l = wi l.length 1 10 := by
  unfold vShop
  have : (List.range l.length).all (fun k => atOk (aT l k)) = true := by
    rw [List.all_eq_true]; exact fun j hj => h j (List.mem_range.1 hj)
  rw [this, Bool.true_and]
theorem vShop_all {l : List Art} (h : vShop l = true) : (∀ j, j < l.length → atOk (aT l j) = true) ∧ 1 ≤ l.length ∧ l.length ≤ 10 := by
  unfold vShop at h
  rw [Bool.and_eq_true, List.all_eq_true, wi_true] at h
  exact ⟨fun j hj => h.1 j (List.mem_range.2 hj), by omega, by omega⟩
theorem atOk_a {a : Art} (h : wi a.p 1 5000 = false) : atOk a = false := by simp [atOk, h]
theorem atOk_b {a : Art} (h : wi a.g 0 2 = false) : atOk a = false := by simp [atOk, h]
theorem atOk_c {a : Art} (h : wi a.r 0 300 = false) : atOk a = false := by simp [atOk, h]
theorem atOk_d {a : Art} (h : wi a.w 0 5000 = false) : atOk a = false := by simp [atOk, h]
theorem atOk_y {a : Art} (h1 : wi a.p 1 5000 = true) (h2 : wi a.g 0 2 = true) (h3 : wi a.r 0 300 = true) (h4 : wi a.w 0 5000 = true) : atOk a = true := by simp [atOk, h1, h2, h3, h4]
theorem atOk_pr {a : Art} (h : atOk a = true) : 1 ≤ a.p ∧ a.p ≤ 5000 ∧ 0 ≤ a.g ∧ a.g ≤ 2 ∧ 0 ≤ a.r ∧ a.r ≤ 300 ∧ 0 ≤ a.w ∧ a.w ≤ 5000 := by
  simp only [atOk, Bool.and_eq_true, wi_true] at h
  omega

/-! ### Lines -/
def lnOk (n : Int) (c : List (Int × Int)) (k : Nat) : Bool :=
  wi (pA c k) 0 (n - 1) && wi (pB c k) 1 20 && (decide (k = 0) || decide (pA c (k - 1) < pA c k))
def vLines (n : Int) (c : List (Int × Int)) : Bool := (List.range c.length).all (lnOk n c) && decide (c.length ≤ 8)
def vCart (s : List Art) (c : List (Int × Int)) : Bool := vShop s && vLines s.length c

theorem vLines_bad {n : Int} {l : List (Int × Int)} {k : Nat} (hk : k < l.length) (h : lnOk n l k = false) : vLines n l = false := by
  unfold vLines
  rw [Bool.and_eq_false_iff]
  left
  rw [List.all_eq_false]
  exact ⟨k, List.mem_range.2 hk, by simp [h]⟩
theorem vLines_end {n : Int} {l : List (Int × Int)} (h : ∀ j, j < l.length → lnOk n l j = true) : vLines n l = decide ((l.length : Int) ≤ 8) := by
  unfold vLines
  have : (List.range l.length).all (lnOk n l) = true := by
    rw [List.all_eq_true]; exact fun j hj => h j (List.mem_range.1 hj)
  rw [this, Bool.true_and]
  exact decide_eq_decide.2 (by omega)
theorem lnOk_a {n : Int} {l : List (Int × Int)} {k : Nat} (h : wi (pA l k) 0 (n - 1) = false) : lnOk n l k = false := by simp [lnOk, h]
theorem lnOk_b {n : Int} {l : List (Int × Int)} {k : Nat} (h : wi (pB l k) 1 20 = false) : lnOk n l k = false := by simp [lnOk, h]
theorem lnOk_c {n : Int} {l : List (Int × Int)} {k : Nat} (h : pA l (k + 1) ≤ pA l k) : lnOk n l (k + 1) = false := by
  simp only [lnOk, Bool.and_eq_false_iff, Bool.or_eq_false_iff, decide_eq_false_iff_not, Nat.add_sub_cancel]
  right; omega
theorem lnOk_0 {n : Int} {l : List (Int × Int)} {k : Nat} (hk : ¬ 0 < k) (h1 : wi (pA l k) 0 (n - 1) = true) (h2 : wi (pB l k) 1 20 = true) : lnOk n l k = true := by
  obtain rfl : k = 0 := by omega
  simp [lnOk, h1, h2]
theorem lnOk_s {n : Int} {l : List (Int × Int)} {k : Nat} (h1 : wi (pA l (k + 1)) 0 (n - 1) = true) (h2 : wi (pB l (k + 1)) 1 20 = true) (h : ¬ pA l (k + 1) ≤ pA l k) : lnOk n l (k + 1) = true := by
  simp [lnOk, h1, h2]; omega
theorem vLines_all {n : Int} {l : List (Int × Int)} (h : vLines n l = true) : (∀ j, j < l.length → lnOk n l j = true) ∧ l.length ≤ 8 := by
  unfold vLines at h
  rw [Bool.and_eq_true, List.all_eq_true, decide_eq_true_eq] at h
  exact ⟨fun j hj => h.1 j (List.mem_range.2 hj), h.2⟩
theorem lnOk_pr {n : Int} {l : List (Int × Int)} {k : Nat} (h : lnOk n l k = true) : 0 ≤ pA l k ∧ pA l k < n ∧ 1 ≤ pB l k ∧ pB l k ≤ 20 ∧ (k = 0 ∨ pA l (k - 1) < pA l k) := by
  simp only [lnOk, Bool.and_eq_true, Bool.or_eq_true, decide_eq_true_eq, wi_true] at h
  omega
theorem lnOk_mk {n : Int} {l : List (Int × Int)} {k : Nat} (h1 : 0 ≤ pA l k ∧ pA l k < n) (h2 : 1 ≤ pB l k ∧ pB l k ≤ 20) (h3 : k = 0 ∨ pA l (k - 1) < pA l k) : lnOk n l k = true := by
  simp only [lnOk, Bool.and_eq_true, Bool.or_eq_true, decide_eq_true_eq, wi_true]
  exact ⟨⟨⟨h1.1, by omega⟩, h2⟩, h3⟩
theorem vLines_mk {n : Int} {l : List (Int × Int)} (h : ∀ j, j < l.length → lnOk n l j = true) (hl : l.length ≤ 8) : vLines n l = true := by
  rw [vLines_end h]; simp; omega

theorem ln_asc {n : Int} {l : List (Int × Int)} (h : vLines n l = true) : ∀ j, j < l.length → ∀ i, i < j → pA l i < pA l j
  | 0, _, i, hi => absurd hi (Nat.not_lt_zero _)
  | j + 1, hj, i, hi => by
    have h1 := lnOk_pr ((vLines_all h).1 (j + 1) hj)
    have h2 : pA l j < pA l (j + 1) := by
      rcases h1.2.2.2.2 with h3 | h3
      · omega
      · simpa using h3
    by_cases e : i = j
    · subst e; exact h2
    · have := ln_asc h j (by omega) i (by omega)
      omega

theorem vCart_pr {s : List Art} {c : List (Int × Int)} (h : vCart s c = true) : vShop s = true ∧ vLines s.length c = true := by
  unfold vCart at h; rwa [Bool.and_eq_true] at h
theorem vCart_s {s : List Art} {c : List (Int × Int)} (h : vShop s = false) : vCart s c = false := by simp [vCart, h]
theorem vCart_l {s : List Art} {c : List (Int × Int)} (h : vLines s.length c = false) : vCart s c = false := by simp [vCart, h]
theorem vCart_y {s : List Art} {c : List (Int × Int)} (h : vShop s = true) (h2 : vLines s.length c = true) : vCart s c = true := by simp [vCart, h, h2]

theorem pAt_take {l : List (Int × Int)} {m k : Nat} (h : k < m) : pA (l.take m) k = pA l k ∧ pB (l.take m) k = pB l k := by
  unfold pA pB
  rw [List.getD_eq_getElem?_getD, List.getElem?_take, if_pos h, List.getD_eq_getElem?_getD]
  exact ⟨rfl, rfl⟩
theorem pAt_drop {l : List (Int × Int)} (m k : Nat) : pA (l.drop m) k = pA l (m + k) ∧ pB (l.drop m) k = pB l (m + k) := by
  unfold pA pB
  rw [List.getD_eq_getElem?_getD, List.getElem?_drop, List.getD_eq_getElem?_getD]
  exact ⟨rfl, rfl⟩

theorem vLines_take {n : Int} {l : List (Int × Int)} (h : vLines n l = true) (m : Nat) : vLines n (l.take m) = true := by
  have hl : (l.take m).length ≤ l.length := by rw [List.length_take]; omega
  have hm : (l.take m).length ≤ m := by rw [List.length_take]; omega
  refine vLines_mk (fun j hj => ?_) (by have := (vLines_all h).2; omega)
  have h1 := lnOk_pr ((vLines_all h).1 j (by omega))
  have e1 := pAt_take (l := l) (m := m) (k := j) (by omega)
  have e2 := pAt_take (l := l) (m := m) (k := j - 1) (by omega)
  exact lnOk_mk (by rw [e1.1]; omega) (by rw [e1.2]; omega) (by rw [e1.1, e2.1]; exact h1.2.2.2.2)

theorem vLines_drop {n : Int} {l : List (Int × Int)} (h : vLines n l = true) (m : Nat) : vLines n (l.drop m) = true := by
  have hl : (l.drop m).length = l.length - m := List.length_drop
  refine vLines_mk (fun j hj => ?_) (by have := (vLines_all h).2; omega)
  have h1 := lnOk_pr ((vLines_all h).1 (m + j) (by omega))
  have e1 := pAt_drop (l := l) m j
  have e2 := pAt_drop (l := l) m (j - 1)
  refine lnOk_mk (by rw [e1.1]; omega) (by rw [e1.2]; omega) ?_
  rw [e1.1, e2.1]
  by_cases e : j = 0
  · exact .inl e
  · right
    have := h1.2.2.2.2
    rw [show m + (j - 1) = m + j - 1 by omega]
    omega

/-! ### Weights -/
/-- the weight of line k -/
def wtAt (s : List Art) (c : List (Int × Int)) (k : Nat) : Int := (aT s (pA c k).toNat).w * pB c k
/-- the weight of the first k lines -/
def wt (s : List Art) (c : List (Int × Int)) : Nat → Int
  | 0 => 0
  | k + 1 => wt s c k + wtAt s c k
def fWeight (s : List Art) (c : List (Int × Int)) : Int := if vCart s c then wt s c c.length else -1

theorem art_in {s : List Art} {c : List (Int × Int)} (h : vCart s c = true) {k : Nat} (hk : k < c.length) : (pA c k).toNat < s.length ∧ 0 ≤ pA c k ∧ ((pA c k).toNat : Int) = pA c k ∧ 1 ≤ pB c k ∧ pB c k ≤ 20 ∧ atOk (aT s (pA c k).toNat) = true := by
  obtain ⟨h1, h2⟩ := vCart_pr h
  have h3 := lnOk_pr ((vLines_all h2).1 k hk)
  have h4 : (pA c k).toNat < s.length := by omega
  exact ⟨h4, h3.1, by omega, h3.2.2.1, h3.2.2.2.1, (vShop_all h1).1 _ h4⟩

theorem mul_bd {a b m n : Int} (h1 : 0 ≤ a) (h2 : a ≤ m) (h3 : 0 ≤ b) (h4 : b ≤ n) : 0 ≤ a * b ∧ a * b ≤ m * n :=
  ⟨Int.mul_nonneg h1 h3, Int.mul_le_mul h2 h4 h3 (by omega)⟩

theorem wtAt_bd {s : List Art} {c : List (Int × Int)} (h : vCart s c = true) {k : Nat} (hk : k < c.length) : 0 ≤ wtAt s c k ∧ wtAt s c k ≤ 100000 := by
  have h1 := art_in h hk
  have h2 := atOk_pr h1.2.2.2.2.2
  exact mul_bd (m := 5000) (n := 20) (by omega) (by omega) (by omega) (by omega)

theorem wt_bd {s : List Art} {c : List (Int × Int)} (h : vCart s c = true) : ∀ k, k ≤ c.length → 0 ≤ wt s c k ∧ wt s c k ≤ 100000 * k
  | 0, _ => by simp [wt]
  | k + 1, hk => by
    have h1 := wtAt_bd h (k := k) (by omega)
    have h2 := wt_bd h k (by omega)
    unfold wt
    omega

theorem fWeight_no {s : List Art} {c : List (Int × Int)} (h : vCart s c = false) : fWeight s c = -1 := by simp [fWeight, h]
theorem fWeight_yes {s : List Art} {c : List (Int × Int)} (h : vCart s c = true) : fWeight s c = wt s c c.length := by simp [fWeight, h]
theorem fWeight_bd (s : List Art) (c : List (Int × Int)) : -1 ≤ fWeight s c ∧ fWeight s c ≤ 800000 := by
  cases h : vCart s c
  · rw [fWeight_no h]; omega
  · rw [fWeight_yes h]
    have h1 := wt_bd h c.length (Nat.le_refl _)
    have h2 := (vLines_all (vCart_pr h).2).2
    omega
theorem fWeight_pos {s : List Art} {c : List (Int × Int)} (h : ¬ fWeight s c < 0) : vCart s c = true := by
  cases hc : vCart s c
  · rw [fWeight_no hc] at h; omega
  · rfl

theorem wt_take (s : List Art) (c : List (Int × Int)) (m : Nat) : ∀ k, k ≤ m → wt s (c.take m) k = wt s c k
  | 0, _ => rfl
  | k + 1, hk => by
    unfold wt wtAt
    rw [(pAt_take (l := c) (m := m) (k := k) (by omega)).1, (pAt_take (l := c) (m := m) (k := k) (by omega)).2, wt_take s c m k (by omega)]
theorem wt_drop (s : List Art) (c : List (Int × Int)) (m : Nat) : ∀ k, wt s c m + wt s (c.drop m) k = wt s c (m + k)
  | 0 => by simp [wt]
  | k + 1 => by
    have ih := wt_drop s c m k
    have e1 : wt s (c.drop m) (k + 1) = wt s (c.drop m) k + wtAt s (c.drop m) k := rfl
    have e2 : wt s c (m + k + 1) = wt s c (m + k) + wtAt s c (m + k) := rfl
    have e3 : wtAt s (c.drop m) k = wtAt s c (m + k) := by unfold wtAt; rw [(pAt_drop (l := c) m k).1, (pAt_drop (l := c) m k).2]
    rw [← Nat.add_assoc]
    omega

/-- weights add up -/
theorem weight_parts {s : List Art} {c : List (Int × Int)} (h : vCart s c = true) {m : Nat} (hm : m ≤ c.length) : fWeight s (c.take m) + fWeight s (c.drop m) = fWeight s c := by
  obtain ⟨h1, h2⟩ := vCart_pr h
  have ht : (c.take m).length = m := by rw [List.length_take]; omega
  have hd : (c.drop m).length = c.length - m := List.length_drop
  rw [fWeight_yes h, fWeight_yes (vCart_y h1 (vLines_take h2 m)), fWeight_yes (vCart_y h1 (vLines_drop h2 m)), ht, hd, wt_take s c m m (Nat.le_refl _), wt_drop s c m, show m + (c.length - m) = c.length by omega]

end Go.Proofs.Ytomapdedajdkkab
