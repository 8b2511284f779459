/- Plain laws on taking pieces and on how often parts are in pieces; no program. Conditions: none. -/
import Derived.Test.YtomapdedajdkkabAddFns
namespace Go.Proofs.Ytomapdedajdkkab
open Go.RowKit

theorem eqN_before {n : Int} {l : List (Int × Int)} {k : Nat} (h : vLines n l = true) (hk : k < l.length) : ∀ j, j ≤ k → eqN (l.take j) (pA l k) = 0
  | 0, _ => (fil_zero l _).2.2
  | j + 1, hj => by
    have h1 := ln_asc h k hk j (by omega)
    rw [eqN_no (by omega) (by omega)]
    exact eqN_before h hk j (by omega)

theorem eqN_upto {n : Int} {l : List (Int × Int)} {k : Nat} (h : vLines n l = true) (hk : k < l.length) : ∀ j, k + 1 + j ≤ l.length → eqN (l.take (k + 1 + j)) (pA l k) = pB l k
  | 0, _ => by rw [Nat.add_zero, eqN_yes hk rfl, eqN_before h hk k (Nat.le_refl _)]; omega
  | j + 1, hj => by
    have h1 := ln_asc h (k + 1 + j) (by omega) k (by omega)
    rw [show k + 1 + (j + 1) = (k + 1 + j) + 1 by omega, eqN_no (by omega) (by omega)]
    exact eqN_upto h hk j (by omega)

/-- A valid cart has each article once. -/
theorem eqN_at {n : Int} {l : List (Int × Int)} {k : Nat} (h : vLines n l = true) (hk : k < l.length) : eqN l (pA l k) = pB l k := by
  have := eqN_upto h hk (l.length - (k + 1)) (by omega)
  rw [show k + 1 + (l.length - (k + 1)) = l.length by omega, List.take_length] at this
  exact this

theorem eqN_not {l : List (Int × Int)} {a : Int} (h : ∀ j, j < l.length → ¬ pA l j = a) : ∀ k, k ≤ l.length → eqN (l.take k) a = 0
  | 0, _ => (fil_zero l a).2.2
  | k + 1, hk => by rw [eqN_no (by omega) (h k (by omega))]; exact eqN_not h k (by omega)

theorem hasA_some {l : List (Int × Int)} {a : Int} {k : Nat} (hk : k < l.length) (h : pA l k = a) : hasA l a = true := by
  unfold hasA
  rw [List.any_eq_true]
  refine ⟨l[k], List.getElem_mem hk, ?_⟩
  simp only [decide_eq_true_eq]
  rw [← h]
  simp [pA, List.getD, hk]
theorem hasA_none {l : List (Int × Int)} {a : Int} (h : ∀ j, j < l.length → ¬ pA l j = a) : hasA l a = false := by
  unfold hasA
  rw [List.any_eq_false]
  intro x hx
  obtain ⟨k, hk, rfl⟩ := List.getElem_of_mem hx
  have := h k hk
  simp [pA, List.getD, hk] at this
  simpa using this
theorem fewA_none {l : List (Int × Int)} {a m : Int} (h : ∀ j, j < l.length → pA l j = a → ¬ pB l j < m) : fewA l a m = false := by
  unfold fewA
  rw [List.any_eq_false]
  intro x hx
  obtain ⟨k, hk, rfl⟩ := List.getElem_of_mem hx
  have := h k hk
  simp [pA, pB, List.getD, hk] at this
  simpa using this

theorem takeOk_eq {s : List Art} {c : List (Int × Int)} {a m : Int} (h : vCart s c = true) : takeOk s c a m = (decide (1 ≤ m) && decide (m ≤ eqN c a)) := by
  have hl := (vCart_pr h).2
  by_cases hm : 1 ≤ m
  · by_cases hx : ∃ k, k < c.length ∧ pA c k = a
    · obtain ⟨k, hk, rfl⟩ := hx
      rw [eqN_at hl hk]
      have h1 := hasA_some hk rfl
      by_cases hf : pB c k < m
      · have h2 := takeL_few hk rfl hf
        have h3 : ¬ m ≤ pB c k := by omega
        simp [takeOk, h, hm, h1, h2, h3]
      · have h2 : fewA c (pA c k) m = false := by
          refine fewA_none fun j hj e => ?_
          have : j = k := by
            rcases Nat.lt_trichotomy j k with hlt | he | hgt
            · have := ln_asc hl k hk j hlt; omega
            · exact he
            · have := ln_asc hl j hj k hgt; omega
          subst this; exact hf
        have h3 : m ≤ pB c k := by omega
        simp [takeOk, h, hm, h1, h2, h3]
    · have hn : ∀ j, j < c.length → ¬ pA c j = a := fun j hj e => hx ⟨j, hj, e⟩
      have h1 := hasA_none hn
      have h2 := eqN_not hn c.length (Nat.le_refl _)
      rw [List.take_length] at h2
      have h3 : ¬ m ≤ 0 := by omega
      rw [h2]
      simp [takeOk, h1, h3]
  · simp [takeOk, hm]

theorem eqN_all {s : List Art} {c : List (Int × Int)} (h : vCart s c = true) (a : Int) : 0 ≤ eqN c a ∧ eqN c a ≤ 20 := by
  have hl := (vCart_pr h).2
  by_cases hx : ∃ k, k < c.length ∧ pA c k = a
  · obtain ⟨k, hk, rfl⟩ := hx
    rw [eqN_at hl hk]
    have := lnOk_pr ((vLines_all hl).1 k hk)
    omega
  · have h2 := eqN_not (fun j hj e => hx ⟨j, hj, e⟩) c.length (Nat.le_refl _)
    rw [List.take_length] at h2
    omega

theorem tmN_le (h : List Int) (b : List (Int × Int)) : ∀ k i, i < k → tmN h b k ≤ iG h (pA b i).toNat / pB b i
  | 0, _, hi => by omega
  | k + 1, i, hi => by
    unfold tmN
    by_cases e : i = k
    · subst e; omega
    · have := tmN_le h b k i (by omega); omega
theorem tmN_top (h : List Int) (b : List (Int × Int)) : ∀ k, tmN h b k ≤ 20
  | 0 => Int.le_refl _
  | k + 1 => by have := tmN_top h b k; unfold tmN; omega
theorem tmN_hit (h : List Int) (b : List (Int × Int)) : ∀ k, tmN h b k = 20 ∨ ∃ i, i < k ∧ tmN h b k = iG h (pA b i).toNat / pB b i
  | 0 => .inl rfl
  | k + 1 => by
    unfold tmN
    by_cases e : tmN h b k ≤ iG h (pA b k).toNat / pB b k
    · rcases tmN_hit h b k with h1 | ⟨i, hi, h1⟩
      · left; omega
      · right; exact ⟨i, by omega, by omega⟩
    · right; exact ⟨k, by omega, by omega⟩
theorem tmN_low (h : List Int) (b : List (Int × Int)) (hb : ∀ i, i < b.length → 0 ≤ iG h (pA b i).toNat ∧ 1 ≤ pB b i) : ∀ k, k ≤ b.length → 0 ≤ tmN h b k
  | 0, _ => by unfold tmN; omega
  | k + 1, hk => by
    have h1 := tmN_low h b hb k (by omega)
    have h2 := hb k (by omega)
    have h3 : 0 ≤ iG h (pA b k).toNat / pB b k := Int.ediv_nonneg h2.1 (by omega)
    unfold tmN; omega

/-- how often the parts b are in the cart c of a shop -/
def tmC (s : List Art) (c b : List (Int × Int)) : Int := tmN (hvL s.length c) b b.length

theorem have_eq {s : List Art} {c b : List (Int × Int)} (hb : vCart s b = true) {i : Nat} (hi : i < b.length) : iG (hvL s.length c) (pA b i).toNat = eqN c (pA b i) := by
  have h3 := lnOk_pr ((vLines_all (vCart_pr hb).2).1 i hi)
  have h4 : (pA b i).toNat < s.length := by omega
  rw [hvL_get c h4, show (((pA b i).toNat : Nat) : Int) = pA b i by omega]

theorem tmC_bd {s : List Art} {c b : List (Int × Int)} (hc : vCart s c = true) (hb : vCart s b = true) : 0 ≤ tmC s c b ∧ tmC s c b ≤ 20 := by
  refine ⟨tmN_low _ _ (fun i hi => ?_) _ (Nat.le_refl _), tmN_top _ _ _⟩
  rw [have_eq hb hi]
  have h3 := lnOk_pr ((vLines_all (vCart_pr hb).2).1 i hi)
  exact ⟨(eqN_all hc _).1, h3.2.2.1⟩

/-- All parts can be taken that often, -/
theorem tm_take {s : List Art} {c b : List (Int × Int)} (hc : vCart s c = true) (hb : vCart s b = true) {i : Nat} (hi : i < b.length) (hp : 0 < tmC s c b) : takeOk s c (pA b i) (tmC s c b * pB b i) = true := by
  have h3 := lnOk_pr ((vLines_all (vCart_pr hb).2).1 i hi)
  have h1 := tmN_le (hvL s.length c) b b.length i hi
  rw [have_eq hb hi] at h1
  have h2 : tmC s c b * pB b i ≤ eqN c (pA b i) := Int.mul_le_of_le_ediv (by omega) h1
  have h4 : 1 * 1 ≤ tmC s c b * pB b i := Int.mul_le_mul (by omega) (by omega) (by omega) (by omega)
  rw [takeOk_eq hc]
  simp only [Bool.and_eq_true, decide_eq_true_eq]
  omega

/-- but not once more. -/
theorem tm_more {s : List Art} {c b : List (Int × Int)} (hc : vCart s c = true) (hb : vCart s b = true) (hl : 0 < b.length) : ∃ i, i < b.length ∧ takeOk s c (pA b i) ((tmC s c b + 1) * pB b i) = false := by
  have key : ∃ i, i < b.length ∧ eqN c (pA b i) < (tmC s c b + 1) * pB b i := by
    rcases tmN_hit (hvL s.length c) b b.length with h1 | ⟨i, hi, h1⟩
    · refine ⟨0, hl, ?_⟩
      have h3 := lnOk_pr ((vLines_all (vCart_pr hb).2).1 0 hl)
      have h4 := (eqN_all hc (pA b 0)).2
      have h5 : tmC s c b = 20 := h1
      rw [h5]
      have : (20 + 1) * 1 ≤ (20 + 1) * pB b 0 := Int.mul_le_mul_of_nonneg_left (by omega) (by omega)
      omega
    · refine ⟨i, hi, ?_⟩
      have h3 := lnOk_pr ((vLines_all (vCart_pr hb).2).1 i hi)
      rw [have_eq hb hi] at h1
      have h5 : tmC s c b = eqN c (pA b i) / pB b i := h1
      rw [h5]
      exact Int.lt_ediv_add_one_mul_self _ (by omega)
  obtain ⟨i, hi, h⟩ := key
  refine ⟨i, hi, ?_⟩
  rw [takeOk_eq hc]
  simp only [Bool.and_eq_false_iff, decide_eq_false_iff_not]
  right; omega

/-- whether, after the first k parts, it is known that the bundle is not in the cart once more -/
def oneK (s : List Art) (c b : List (Int × Int)) (n : Int) : Nat → Bool
  | 0 => n == 0
  | k + 1 => oneK s c b n k || !takeOk s c (pA b k) ((n + 1) * pB b k)
theorem oneK_of {s : List Art} {c b : List (Int × Int)} {n : Int} {i : Nat} (h : takeOk s c (pA b i) ((n + 1) * pB b i) = false) : ∀ k, i < k → oneK s c b n k = true
  | 0, hi => by omega
  | k + 1, hi => by
    unfold oneK
    by_cases e : i = k
    · subst e; simp [h]
    · rw [oneK_of h k (by omega)]; rfl
theorem oneK_end {s : List Art} {c b : List (Int × Int)} (hc : vCart s c = true) (hb : vCart s b = true) (hl : 0 < b.length) : oneK s c b (tmC s c b) b.length = true := by
  obtain ⟨i, hi, h⟩ := tm_more hc hb hl
  exact oneK_of h _ hi

end Go.Proofs.Ytomapdedajdkkab
