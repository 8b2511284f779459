/- Adding and taking pieces, and how often parts are in pieces, as plain functions on lists. No program. Conditions: none. -/
import Derived.Test.YtomapdedajdkkabCartFns
namespace Go.Proofs.Ytomapdedajdkkab

/-! ### Adding pieces -/
/-- lines of lesser, greater articles -/
def ltL (c : List (Int × Int)) (a : Int) : List (Int × Int) := c.filter fun p => decide (p.1 < a)
def gtL (c : List (Int × Int)) (a : Int) : List (Int × Int) := c.filter fun p => decide (a < p.1)
/-- the pieces of an article -/
def eqN (c : List (Int × Int)) (a : Int) : Int := ((c.filter fun p => decide (p.1 = a)).map Prod.snd).sum
def addL (c : List (Int × Int)) (a n : Int) : List (Int × Int) := ltL c a ++ [(a, n + eqN c a)] ++ gtL c a
/-- whether pieces can be added -/
def addOk (s : List Art) (c : List (Int × Int)) (a n : Int) : Bool := (vCart s c && wi a 0 (s.length - 1) && wi n 1 20) && vLines s.length (addL c a n)
def addR (s : List Art) (c : List (Int × Int)) (a n : Int) : List (Int × Int) := if addOk s c a n then addL c a n else []

/-- the pair at place k -/
def pP (l : List (Int × Int)) (k : Nat) : Int × Int := (pA l k, pB l k)
theorem take_pP {l : List (Int × Int)} {k : Nat} (hk : k < l.length) : l.take (k + 1) = l.take k ++ [pP l k] := by
  rw [List.take_succ_eq_append_getElem hk]
  unfold pP pA pB
  rw [List.getD_eq_getElem?_getD, List.getElem?_eq_getElem hk]
  rfl

theorem ltL_yes {l : List (Int × Int)} {a : Int} {k : Nat} (hk : k < l.length) (h : pA l k < a) : ltL (l.take (k + 1)) a = ltL (l.take k) a ++ [pP l k] := by
  rw [take_pP hk]; unfold ltL; rw [List.filter_append]; simp [pP, h]
theorem ltL_no {l : List (Int × Int)} {a : Int} {k : Nat} (hk : k < l.length) (h : ¬ pA l k < a) : ltL (l.take (k + 1)) a = ltL (l.take k) a := by
  rw [take_pP hk]; unfold ltL; rw [List.filter_append]; simp [pP]; omega
theorem gtL_yes {l : List (Int × Int)} {a : Int} {k : Nat} (hk : k < l.length) (h : a < pA l k) : gtL (l.take (k + 1)) a = gtL (l.take k) a ++ [pP l k] := by
  rw [take_pP hk]; unfold gtL; rw [List.filter_append]; simp [pP, h]
theorem gtL_no {l : List (Int × Int)} {a : Int} {k : Nat} (hk : k < l.length) (h : ¬ a < pA l k) : gtL (l.take (k + 1)) a = gtL (l.take k) a := by
  rw [take_pP hk]; unfold gtL; rw [List.filter_append]; simp [pP]; omega
theorem eqN_yes {l : List (Int × Int)} {a : Int} {k : Nat} (hk : k < l.length) (h : pA l k = a) : eqN (l.take (k + 1)) a = eqN (l.take k) a + pB l k := by
  rw [take_pP hk]; unfold eqN; rw [List.filter_append]; simp [pP, h]
theorem eqN_no {l : List (Int × Int)} {a : Int} {k : Nat} (hk : k < l.length) (h : ¬ pA l k = a) : eqN (l.take (k + 1)) a = eqN (l.take k) a := by
  rw [take_pP hk]; unfold eqN; rw [List.filter_append]; simp [pP, h]
theorem fil_zero (l : List (Int × Int)) (a : Int) : ltL (l.take 0) a = [] ∧ gtL (l.take 0) a = [] ∧ eqN (l.take 0) a = 0 := by simp [ltL, gtL, eqN]

theorem fil_len (l : List (Int × Int)) (a : Int) (k : Nat) : (ltL (l.take k) a).length ≤ k ∧ (gtL (l.take k) a).length ≤ k := by
  have h1 : (ltL (l.take k) a).length ≤ (l.take k).length := List.length_filter_le _ _
  have h2 : (gtL (l.take k) a).length ≤ (l.take k).length := List.length_filter_le _ _
  have h3 : (l.take k).length ≤ k := by rw [List.length_take]; omega
  omega

theorem eqN_bd {n : Int} {l : List (Int × Int)} (h : vLines n l = true) (a : Int) : ∀ k, k ≤ l.length → 0 ≤ eqN (l.take k) a ∧ eqN (l.take k) a ≤ 20 * k
  | 0, _ => by rw [(fil_zero l a).2.2]; omega
  | k + 1, hk => by
    have h1 := eqN_bd h a k (by omega)
    have h2 := lnOk_pr ((vLines_all h).1 k (by omega))
    by_cases e : pA l k = a
    · rw [eqN_yes (by omega) e]; omega
    · rw [eqN_no (by omega) e]; omega

/-- what the program has before line k: nothing at or behind the article, or the new line among the others -/
def addI (l : List (Int × Int)) (a n : Int) (k : Nat) (d : Bool) : List (Int × Int) := if d then addL (l.take k) a n else l.take k

theorem lt_all {l : List (Int × Int)} {a : Int} : ∀ k, k ≤ l.length → (∀ j, j < k → pA l j < a) → ltL (l.take k) a = l.take k ∧ gtL (l.take k) a = [] ∧ eqN (l.take k) a = 0
  | 0, _, _ => by simp [ltL, gtL, eqN]
  | k + 1, hk, h => by
    have ih := lt_all k (by omega) (fun j hj => h j (by omega))
    have hk2 := h k (by omega)
    rw [ltL_yes (by omega) hk2, gtL_no (by omega) (by omega), eqN_no (by omega) (by omega), ih.1, ih.2.1, ih.2.2, take_pP (by omega)]
    exact ⟨rfl, rfl, rfl⟩

theorem addI_done {n : Int} {l : List (Int × Int)} (hv : vLines n l = true) {a m : Int} {k : Nat} (hk : k < l.length) (h : ∃ j, j < k ∧ a ≤ pA l j) : a < pA l k ∧ addI l a m (k + 1) true = addI l a m k true ++ [pP l k] := by
  obtain ⟨j, hj, ha⟩ := h
  have := ln_asc hv k hk j hj
  refine ⟨by omega, ?_⟩
  simp only [addI, if_true]
  unfold addL
  rw [ltL_no hk (by omega), gtL_yes hk (by omega), eqN_no hk (by omega), ← List.append_assoc]

theorem addI_gt {l : List (Int × Int)} {a m : Int} {k : Nat} (hk : k < l.length) (h : ∀ j, j < k → pA l j < a) (hg : a < pA l k) : addI l a m (k + 1) true = addI l a m k false ++ [(a, m)] ++ [pP l k] := by
  have h1 := lt_all k (by omega) h
  simp only [addI, if_true]
  unfold addL
  rw [ltL_no hk (by omega), gtL_yes hk hg, eqN_no hk (by omega), h1.1, h1.2.1, h1.2.2]
  simp

theorem addI_eq {l : List (Int × Int)} {a m : Int} {k : Nat} (hk : k < l.length) (h : ∀ j, j < k → pA l j < a) (hg : pA l k = a) : addI l a m (k + 1) true = addI l a m k false ++ [(a, pB l k + m)] := by
  have h1 := lt_all k (by omega) h
  simp only [addI, if_true]
  unfold addL
  rw [ltL_no hk (by omega), gtL_no hk (by omega), eqN_yes hk hg, h1.1, h1.2.1, h1.2.2]
  simp [Int.add_comm]

theorem addI_lt {l : List (Int × Int)} {a m : Int} {k : Nat} (hk : k < l.length) : addI l a m (k + 1) false = addI l a m k false ++ [pP l k] := by
  simp only [addI]
  exact take_pP hk

theorem addI_end {l : List (Int × Int)} {a m : Int} : addI l a m l.length true = addL l a m := by simp [addI]
theorem addI_end_no {l : List (Int × Int)} {a m : Int} (h : ∀ j, j < l.length → pA l j < a) : addI l a m l.length false ++ [(a, m)] = addL l a m := by
  have h1 := lt_all l.length (Nat.le_refl _) h
  rw [List.take_length] at h1
  simp only [addI]
  unfold addL
  rw [h1.1, h1.2.1, h1.2.2]
  simp

/-! ### The weight of added pieces -/
def wOf (s : List Art) (l : List (Int × Int)) : Int := (l.map fun p => (aT s p.1.toNat).w * p.2).sum
theorem wt_take_sum (s : List Art) (l : List (Int × Int)) : ∀ k, k ≤ l.length → wt s l k = wOf s (l.take k)
  | 0, _ => by simp [wt, wOf]
  | k + 1, hk => by
    unfold wt
    rw [wt_take_sum s l k (by omega), take_pP (by omega)]
    unfold wOf wtAt pP
    rw [List.map_append, List.sum_append]
    simp
theorem wt_sum (s : List Art) (l : List (Int × Int)) : wt s l l.length = wOf s l := by
  rw [wt_take_sum s l _ (Nat.le_refl _), List.take_length]
theorem wOf_append (s : List Art) (l m : List (Int × Int)) : wOf s (l ++ m) = wOf s l + wOf s m := by
  unfold wOf; rw [List.map_append, List.sum_append]
theorem wOf_parts (s : List Art) (a : Int) (l : List (Int × Int)) : wOf s l = wOf s (ltL l a) + (aT s a.toNat).w * eqN l a + wOf s (gtL l a) := by
  induction l with
  | nil => simp [wOf, ltL, gtL, eqN]
  | cons p l ih =>
    have hc : wOf s (p :: l) = (aT s p.1.toNat).w * p.2 + wOf s l := by unfold wOf; rw [List.map_cons, List.sum_cons]
    rw [hc, ih]
    by_cases h1 : p.1 < a
    · have e1 : ltL (p :: l) a = p :: ltL l a := by unfold ltL; rw [List.filter_cons_of_pos (by simpa using h1)]
      have e2 : gtL (p :: l) a = gtL l a := by unfold gtL; rw [List.filter_cons_of_neg (by simp; omega)]
      have e3 : eqN (p :: l) a = eqN l a := by unfold eqN; rw [List.filter_cons_of_neg (by simp; omega)]
      have e4 : wOf s (p :: ltL l a) = (aT s p.1.toNat).w * p.2 + wOf s (ltL l a) := by unfold wOf; rw [List.map_cons, List.sum_cons]
      rw [e1, e2, e3, e4]; omega
    · by_cases h2 : p.1 = a
      · have e1 : ltL (p :: l) a = ltL l a := by unfold ltL; rw [List.filter_cons_of_neg (by simp; omega)]
        have e2 : gtL (p :: l) a = gtL l a := by unfold gtL; rw [List.filter_cons_of_neg (by simp; omega)]
        have e3 : eqN (p :: l) a = p.2 + eqN l a := by unfold eqN; rw [List.filter_cons_of_pos (by simpa using h2), List.map_cons, List.sum_cons]
        rw [e1, e2, e3, h2, Int.mul_add]; omega
      · have e1 : ltL (p :: l) a = ltL l a := by unfold ltL; rw [List.filter_cons_of_neg (by simp; omega)]
        have e2 : gtL (p :: l) a = p :: gtL l a := by unfold gtL; rw [List.filter_cons_of_pos (by simp; omega)]
        have e3 : eqN (p :: l) a = eqN l a := by unfold eqN; rw [List.filter_cons_of_neg (by simp; omega)]
        have e4 : wOf s (p :: gtL l a) = (aT s p.1.toNat).w * p.2 + wOf s (gtL l a) := by unfold wOf; rw [List.map_cons, List.sum_cons]
        rw [e1, e2, e3, e4]; omega

theorem wOf_add (s : List Art) (c : List (Int × Int)) (a n : Int) : wOf s (addL c a n) = wOf s c + (aT s a.toNat).w * n := by
  unfold addL
  have h : wOf s [(a, n + eqN c a)] = (aT s a.toNat).w * n + (aT s a.toNat).w * eqN c a := by
    unfold wOf; rw [List.map_cons, List.sum_cons, List.map_nil, List.sum_nil, Int.add_zero, Int.mul_add]
  rw [wOf_append, wOf_append, h, wOf_parts s a c]
  omega

theorem addOk_pr {s : List Art} {c : List (Int × Int)} {a n : Int} (h : addOk s c a n = true) : vCart s c = true ∧ 0 ≤ a ∧ a < s.length ∧ 1 ≤ n ∧ n ≤ 20 ∧ vCart s (addL c a n) = true := by
  simp only [addOk, Bool.and_eq_true, wi_true] at h
  exact ⟨h.1.1.1, h.1.1.2.1, by omega, h.1.2.1, h.1.2.2, vCart_y (vCart_pr h.1.1.1).1 h.2⟩

theorem weight_add {s : List Art} {c : List (Int × Int)} {a n : Int} (h : addOk s c a n = true) : fWeight s (addL c a n) = fWeight s c + (aT s a.toNat).w * n := by
  obtain ⟨h1, _, _, _, _, h6⟩ := addOk_pr h
  rw [fWeight_yes h1, fWeight_yes h6, wt_sum, wt_sum, wOf_add]

/-! ### Taking pieces -/
def takeL (c : List (Int × Int)) (a n : Int) : List (Int × Int) := c.flatMap fun p => if p.1 = a then (if n < p.2 then [(a, p.2 - n)] else []) else [p]
/-- the article is among the first k lines; no line of it has too few pieces -/
def hasA (c : List (Int × Int)) (a : Int) : Bool := c.any fun p => decide (p.1 = a)
def fewA (c : List (Int × Int)) (a n : Int) : Bool := c.any fun p => decide (p.1 = a) && decide (p.2 < n)
def takeOk (s : List Art) (c : List (Int × Int)) (a n : Int) : Bool := (vCart s c && decide (1 ≤ n)) && (hasA c a && !fewA c a n)

theorem takeL_zero (c : List (Int × Int)) (a n : Int) : takeL (c.take 0) a n = [] ∧ hasA (c.take 0) a = false ∧ fewA (c.take 0) a n = false := by simp [takeL, hasA, fewA]
theorem takeL_ne {l : List (Int × Int)} {a n : Int} {k : Nat} (hk : k < l.length) (h : ¬ pA l k = a) : takeL (l.take (k + 1)) a n = takeL (l.take k) a n ++ [pP l k] ∧ hasA (l.take (k + 1)) a = hasA (l.take k) a ∧ fewA (l.take (k + 1)) a n = fewA (l.take k) a n := by
  rw [take_pP hk]; unfold takeL hasA fewA; rw [List.flatMap_append, List.any_append, List.any_append]; simp [pP, h]
theorem takeL_more {l : List (Int × Int)} {a n : Int} {k : Nat} (hk : k < l.length) (h : pA l k = a) (h2 : n < pB l k) : takeL (l.take (k + 1)) a n = takeL (l.take k) a n ++ [(a, pB l k - n)] ∧ hasA (l.take (k + 1)) a = true ∧ fewA (l.take (k + 1)) a n = fewA (l.take k) a n := by
  rw [take_pP hk]; unfold takeL hasA fewA; rw [List.flatMap_append, List.any_append, List.any_append]; simp [pP, h, h2]; omega
theorem takeL_all {l : List (Int × Int)} {a n : Int} {k : Nat} (hk : k < l.length) (h : pA l k = a) (h2 : pB l k = n) : takeL (l.take (k + 1)) a n = takeL (l.take k) a n ∧ hasA (l.take (k + 1)) a = true ∧ fewA (l.take (k + 1)) a n = fewA (l.take k) a n := by
  rw [take_pP hk]; unfold takeL hasA fewA; rw [List.flatMap_append, List.any_append, List.any_append]; simp [pP, h, h2]
theorem takeL_few {l : List (Int × Int)} {a n : Int} {k : Nat} (hk : k < l.length) (h : pA l k = a) (h2 : pB l k < n) : fewA l a n = true := by
  have e : fewA l a n = (fewA (l.take (k + 1)) a n || fewA (l.drop (k + 1)) a n) := by
    unfold fewA; rw [← List.any_append, List.take_append_drop]
  rw [e, take_pP hk]
  unfold fewA
  rw [List.any_append]
  simp [pP, h, h2]
theorem takeL_len (l : List (Int × Int)) (a n : Int) : ∀ k, k ≤ l.length → (takeL (l.take k) a n).length ≤ k
  | 0, _ => by simp [takeL]
  | k + 1, hk => by
    have ih := takeL_len l a n k (by omega)
    rw [take_pP (by omega)]
    unfold takeL at ih ⊢
    rw [List.flatMap_append, List.length_append]
    have : ([pP l k].flatMap fun p => if p.1 = a then (if n < p.2 then [(a, p.2 - n)] else []) else [p]).length ≤ 1 := by
      simp only [List.flatMap_cons, List.flatMap_nil, List.append_nil]
      split
      · split <;> simp
      · simp
    omega

/-! ### Pieces -/
/-- how often parts are in pieces, after the first k parts -/
def tmN (h : List Int) (c : List (Int × Int)) : Nat → Int
  | 0 => 20
  | k + 1 => min (tmN h c k) (iG h (pA c k).toNat / pB c k)
/-- the pieces of each of n articles -/
def hvL (n : Nat) (c : List (Int × Int)) : List Int := (List.range n).map fun i : Nat => eqN c i

theorem hvL_len (n : Nat) (c : List (Int × Int)) : (hvL n c).length = n := by simp [hvL]
theorem hvL_get {n : Nat} (c : List (Int × Int)) {i : Nat} (h : i < n) : iG (hvL n c) i = eqN c i := by
  unfold iG hvL
  rw [List.getD_eq_getElem?_getD, List.getElem?_map, List.getElem?_range h]
  rfl
theorem hvL_zero (n : Nat) (l : List (Int × Int)) : hvL n (l.take 0) = List.replicate n 0 := by
  apply List.ext_getElem?
  intro i
  unfold hvL
  by_cases h : i < n
  · rw [List.getElem?_map, List.getElem?_range h, List.getElem?_replicate]; simp [h, eqN]
  · rw [List.getElem?_eq_none (by simp; omega), List.getElem?_eq_none (by simp; omega)]
theorem hvL_step {n : Nat} {l : List (Int × Int)} {k i : Nat} (hk : k < l.length) (hi : pA l k = i) (h : i < n) : (hvL n (l.take k)).set i (iG (hvL n (l.take k)) i + pB l k) = hvL n (l.take (k + 1)) := by
  apply List.ext_getElem?
  intro j
  rw [List.getElem?_set, hvL_len]
  by_cases e : i = j
  · subst e
    rw [if_pos rfl, if_pos h, hvL_get _ h]
    unfold hvL
    rw [List.getElem?_map, List.getElem?_range h, Option.map_some, eqN_yes hk hi]
  · rw [if_neg e]
    unfold hvL
    by_cases hj : j < n
    · rw [List.getElem?_map, List.getElem?_range hj, List.getElem?_map, List.getElem?_range hj, Option.map_some, Option.map_some, eqN_no hk (by omega)]
    · rw [List.getElem?_eq_none (by simp; omega), List.getElem?_eq_none (by simp; omega)]

end Go.Proofs.Ytomapdedajdkkab
