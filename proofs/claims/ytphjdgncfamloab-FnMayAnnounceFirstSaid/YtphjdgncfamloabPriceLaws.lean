/- Plain laws on prices: what the functions on lists answer. No program. Conditions: none. -/
import Derived.Test.YtphjdgncfamloabPriceFns
namespace Go.Proofs.Ytphjdgncfamloab

theorem asc {l : List (Int × Int)} (h : vPrices l = true) : ∀ j, j < l.length → ∀ i, i < j → pA l i < pA l j
  | 0, _, i, hi => absurd hi (Nat.not_lt_zero _)
  | j + 1, hj, i, hi => by
    have h1 := chOk_pr ((vPrices_all h).1 (j + 1) hj)
    have h2 : pA l j < pA l (j + 1) := by
      rcases h1.2.2.2.2 with h3 | h3
      · omega
      · simpa using h3
    by_cases e : i = j
    · subst e; exact h2
    · have := asc h j (by omega) i (by omega)
      omega

theorem pOn_pick {l : List (Int × Int)} {d : Int} {i : Nat} : ∀ k, i < k → pA l i ≤ d → (∀ j, i < j → j < k → d < pA l j) → pOn l d k = pB l i
  | 0, hi, _, _ => absurd hi (Nat.not_lt_zero _)
  | k + 1, hi, hle, hlt => by
    unfold pOn
    by_cases e : i = k
    · subst e; rw [if_pos hle]
    · have := hlt k (by omega) (by omega)
      rw [if_neg (by omega)]
      exact pOn_pick k (by omega) hle (fun j h1 h2 => hlt j h1 (by omega))

theorem pOn_none {l : List (Int × Int)} {d : Int} : ∀ k, (∀ j, j < k → d < pA l j) → pOn l d k = 0
  | 0, _ => rfl
  | k + 1, h => by
    unfold pOn
    have := h k (by omega)
    rw [if_neg (by omega)]
    exact pOn_none k (fun j hj => h j (by omega))

theorem pOn_congr {l : List (Int × Int)} {d d' : Int} : ∀ k, (∀ j, j < k → (pA l j ≤ d ↔ pA l j ≤ d')) → pOn l d k = pOn l d' k
  | 0, _ => rfl
  | k + 1, h => by
    unfold pOn
    have h1 := h k (by omega)
    rw [pOn_congr k (fun j hj => h j (by omega))]
    by_cases e : pA l k ≤ d
    · rw [if_pos e, if_pos (h1.1 e)]
    · rw [if_neg e, if_neg (fun h => e (h1.2 h))]

theorem chOk_mk {l : List (Int × Int)} {k : Nat} (h1 : 0 ≤ pA l k ∧ pA l k ≤ 999) (h2 : 1 ≤ pB l k ∧ pB l k ≤ 5000) (h3 : k = 0 ∨ pA l (k - 1) < pA l k) : chOk l k = true := by
  simp only [chOk, Bool.and_eq_true, Bool.or_eq_true, decide_eq_true_eq, wi_true]
  exact ⟨⟨h1, h2⟩, h3⟩

theorem vPrices_mk {l : List (Int × Int)} (h : ∀ j, j < l.length → chOk l j = true) (hl : l.length ≤ 12) : vPrices l = true := by
  rw [vPrices_end h]; simp; omega

theorem pA_take {l : List (Int × Int)} {m k : Nat} (h : k < m) : pA (l.take m) k = pA l k ∧ pB (l.take m) k = pB l k := by
  unfold pA pB
  rw [List.getD_eq_getElem?_getD, List.getElem?_take, if_pos h, List.getD_eq_getElem?_getD]
  exact ⟨rfl, rfl⟩

theorem pA_drop {l : List (Int × Int)} (m k : Nat) : pA (l.drop m) k = pA l (m + k) ∧ pB (l.drop m) k = pB l (m + k) := by
  unfold pA pB
  rw [List.getD_eq_getElem?_getD, List.getElem?_drop, List.getD_eq_getElem?_getD]
  exact ⟨rfl, rfl⟩

theorem vPrices_take {l : List (Int × Int)} (h : vPrices l = true) (m : Nat) : vPrices (l.take m) = true := by
  have hl : (l.take m).length ≤ l.length := by rw [List.length_take]; omega
  have hm : (l.take m).length ≤ m := by rw [List.length_take]; omega
  refine vPrices_mk (fun j hj => ?_) (by have := (vPrices_all h).2; omega)
  have h1 := chOk_pr ((vPrices_all h).1 j (by omega))
  have e1 := pA_take (l := l) (m := m) (k := j) (by omega)
  have e2 := pA_take (l := l) (m := m) (k := j - 1) (by omega)
  exact chOk_mk (by rw [e1.1]; omega) (by rw [e1.2]; omega) (by rw [e1.1, e2.1]; exact h1.2.2.2.2)

theorem vPrices_drop {l : List (Int × Int)} (h : vPrices l = true) (m : Nat) : vPrices (l.drop m) = true := by
  have hl : (l.drop m).length = l.length - m := List.length_drop
  refine vPrices_mk (fun j hj => ?_) (by have := (vPrices_all h).2; omega)
  have h1 := chOk_pr ((vPrices_all h).1 (m + j) (by omega))
  have e1 := pA_drop (l := l) m j
  have e2 := pA_drop (l := l) m (j - 1)
  refine chOk_mk (by rw [e1.1]; omega) (by rw [e1.2]; omega) ?_
  rw [e1.1, e2.1]
  by_cases e : j = 0
  · exact .inl e
  · right
    have := h1.2.2.2.2
    rw [show m + (j - 1) = m + j - 1 by omega]
    omega

/-- what stands before change k -/
def bef (l : List (Int × Int)) : Nat → Int
  | 0 => 0
  | k + 1 => pB l k

theorem day_of {l : List (Int × Int)} (h : vPrices l = true) {i : Nat} (hi : i < l.length) : fPriceOn l (pA l i) = pB l i := by
  have h1 := chOk_pr ((vPrices_all h).1 i hi)
  have hw : wi (pA l i) 0 999 = true := wi_true.2 (by omega)
  unfold fPriceOn
  rw [h, hw]
  exact pOn_pick _ hi (Int.le_refl _) (fun j h1 h2 => asc h j h2 i h1)

theorem day_before {l : List (Int × Int)} (h : vPrices l = true) {i : Nat} (hi : i < l.length) (h0 : 0 < pA l i) : fPriceOn l (pA l i - 1) = bef l i := by
  have h1 := chOk_pr ((vPrices_all h).1 i hi)
  have hw : wi (pA l i - 1) 0 999 = true := wi_true.2 (by omega)
  unfold fPriceOn
  rw [h, hw]
  simp only [Bool.and_self, if_true]
  have later : ∀ j, i ≤ j → j < l.length → pA l i - 1 < pA l j := by
    intro j hij hj
    by_cases e : j = i
    · subst e; omega
    · have := asc h j hj i (by omega); omega
  cases i with
  | zero => exact pOn_none _ fun j hj => later j (by omega) hj
  | succ i =>
    refine pOn_pick (i := i) _ (by omega) ?_ fun j h1 h2 => later j (by omega) h2
    have := asc h (i + 1) hi i (by omega)
    omega

theorem day_last {l : List (Int × Int)} (h : vPrices l = true) : fPriceOn l 999 = bef l l.length := by
  unfold fPriceOn
  rw [h, show wi 999 0 999 = true by simp [wi]]
  simp only [Bool.and_self, if_true]
  unfold pDay
  cases hn : l.length with
  | zero => rfl
  | succ n =>
    have h1 := chOk_pr ((vPrices_all h).1 n (by omega))
    exact pOn_pick _ (by omega) (by omega) fun j h1 h2 => by omega

theorem day_later {l : List (Int × Int)} (d : Int) (hne : ∀ j, j < l.length → pA l j ≠ d) : pDay l (d - 1) = pDay l d :=
  pOn_congr _ fun j hj => by have := hne j hj; omega

/-! ### Lows -/
theorem lowN_low {l : List (Int × Int)} (h : vPrices l = true) (a : Int) : ∀ (n i : Nat), i < n → 0 < pDay l (a + i) → 0 < lowN l a n ∧ lowN l a n ≤ pDay l (a + i)
  | 0, i, hi, _ => absurd hi (Nat.not_lt_zero _)
  | n + 1, i, hi, hp => by
    have hb := lowN_bd h a n
    have hd := pDay_bd h (a + n)
    unfold lowN
    by_cases e : i = n
    · subst e
      split <;> omega
    · have ih := lowN_low h a n i (by omega) hp
      split <;> omega

theorem lowN_some {l : List (Int × Int)} (a : Int) : ∀ (n : Nat), lowN l a n = 0 ∨ ∃ i : Nat, i < n ∧ pDay l (a + i) = lowN l a n
  | 0 => .inl rfl
  | n + 1 => by
    unfold lowN
    split
    · exact .inr ⟨n, by omega, rfl⟩
    · rcases lowN_some a n with h | ⟨i, hi, he⟩
      · exact .inl h
      · exact .inr ⟨i, by omega, he⟩

theorem from30_bd (d : Int) (hd : 0 ≤ d) : 0 ≤ from30 d ∧ from30 d ≤ d ∧ d - 30 ≤ from30 d := by unfold from30; split <;> omega

theorem lowB_low {l : List (Int × Int)} (h : vPrices l = true) {d e : Int} (h1 : from30 d ≤ e) (h2 : e < d) (hp : 0 < pDay l e) : 0 < lowB l d ∧ lowB l d ≤ pDay l e := by
  have := lowN_low h (from30 d) (d - from30 d).toNat (e - from30 d).toNat (by omega)
  rw [show from30 d + ((e - from30 d).toNat : Int) = e by omega] at this
  exact this hp

theorem lowB_some {l : List (Int × Int)} (d : Int) : lowB l d = 0 ∨ ∃ e, from30 d ≤ e ∧ e < d ∧ pDay l e = lowB l d := by
  rcases lowN_some (l := l) (from30 d) (d - from30 d).toNat with h | ⟨i, hi, he⟩
  · exact .inl h
  · exact .inr ⟨from30 d + i, by omega, by omega, he⟩

theorem lowB_next {l : List (Int × Int)} (h : vPrices l = true) {d : Int} (h0 : 0 ≤ d) (hp : 0 < pDay l d) : 0 < lowB l (d + 1) ∧ lowB l (d + 1) ≤ pDay l d :=
  lowB_low h (by have := from30_bd (d + 1) (by omega); unfold from30; split <;> omega) (by omega) hp

theorem fMay_iff {l : List (Int × Int)} (h : vPrices l = true) {d : Int} (hd : wi d 0 999 = true) : fMay l d = (decide (0 < pDay l d) && decide (pDay l d < lowB l d)) := by
  unfold fMay
  rw [h, hd, Bool.and_self, Bool.true_and, Bool.eq_iff_iff]
  simp only [Bool.and_eq_true, decide_eq_true_eq]
  omega

theorem red_pos {l : List (Int × Int)} (h : vPrices l = true) {d : Int} (hm : fMay l d = true) : (0 < fRed l d ∨ 1000 * (lowB l d - pDay l d) < lowB l d) := by
  have hl := lowB_bd h d
  unfold fMay at hm
  simp only [Bool.and_eq_true, decide_eq_true_eq] at hm
  unfold fRed fMay
  by_cases hlt : 1000 * (lowB l d - pDay l d) < lowB l d
  · exact .inr hlt
  · left
    rw [if_pos (by simp only [Bool.and_eq_true, decide_eq_true_eq]; exact hm)]
    have := Int.le_ediv_of_mul_le (a := 1) (b := 1000 * (lowB l d - pDay l d)) (c := lowB l d) (by omega) (by omega)
    omega

theorem red_bounds {l : List (Int × Int)} {d : Int} (hm : fMay l d = true) : fRed l d * lowB l d ≤ 1000 * (lowB l d - pDay l d) ∧ 1000 * (lowB l d - pDay l d) < (fRed l d + 1) * lowB l d ∧ fRed l d < 1000 := by
  have hm' := hm
  unfold fMay at hm'
  simp only [Bool.and_eq_true, decide_eq_true_eq] at hm'
  unfold fRed
  rw [if_pos hm]
  have hpos : 0 < lowB l d := by omega
  refine ⟨Int.ediv_mul_le _ (by omega), Int.lt_ediv_add_one_mul_self _ hpos, ?_⟩
  exact Int.ediv_lt_of_lt_mul hpos (by omega)

end Go.Proofs.Ytphjdgncfamloab
