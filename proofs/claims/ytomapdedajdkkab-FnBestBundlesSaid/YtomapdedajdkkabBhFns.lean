/- Plain laws on the pieces that a best choice needs, counted one by one; no program. Conditions: none. -/
import Derived.Test.YtomapdedajdkkabBeFns
namespace Go.Proofs.Ytomapdedajdkkab
open Go.RowKit

def adL (n : Nat) (d : Nat → Int) : List Int := (List.range n).map fun i : Nat => d i
theorem adL_len (n : Nat) (d : Nat → Int) : (adL n d).length = n := by simp [adL]
theorem adL_get {n : Nat} {d : Nat → Int} {i : Nat} (hi : i < n) : iG (adL n d) i = d i := by
  unfold adL
  rw [iG, List.getD_eq_getElem?_getD, List.getElem?_map, List.getElem?_range hi]
  rfl
theorem adL_set {n : Nat} {d e : Nat → Int} {i : Nat} {x : Int} (hi : i < n) (h1 : x = e i) (h2 : ∀ j, j < n → j ≠ i → d j = e j) : (adL n d).set i x = adL n e := by
  refine iG_ext (by rw [List.length_set, adL_len, adL_len]) fun j hj => ?_
  rw [List.length_set, adL_len] at hj
  rw [iG_set (by rw [adL_len]; exact hj), adL_get hj]
  by_cases e1 : i = j
  · subst e1; rw [if_pos rfl, adL_get hi]; exact h1
  · rw [if_neg e1, adL_get hj, h2 j hj (fun e => e1 e.symm)]
theorem adL_zero (n : Nat) : adL n (fun _ => 0) = List.replicate n 0 := by
  apply List.ext_getElem?
  intro i
  unfold adL
  by_cases h : i < n
  · rw [List.getElem?_map, List.getElem?_range h, List.getElem?_replicate]; simp [h]
  · rw [List.getElem?_eq_none (by simp; omega), List.getElem?_eq_none (by simp; omega)]

/-- the pieces that the first a bundles need -/
def ndK (qs : List PB) (cs : List Int) : Nat → Nat → Int
  | 0, _ => 0
  | a + 1, i => ndK qs cs a i + iG cs a * eqN (qs.getD a ([], 0)).1 i
/-- and m parts of the next -/
def ndM (qs : List PB) (cs : List Int) (b : List (Int × Int)) (a m : Nat) (i : Nat) : Int := ndK qs cs a i + iG cs a * eqN (b.take m) i
theorem ndM_zero (qs : List PB) (cs : List Int) (b : List (Int × Int)) (a : Nat) (n : Nat) : adL n (ndM qs cs b a 0) = adL n (ndK qs cs a) := by
  refine congrArg (adL n) (funext fun i => ?_)
  unfold ndM; rw [(fil_zero b i).2.2]; simp
theorem ndM_end (qs : List PB) (cs : List Int) (b : List (Int × Int)) (a n : Nat) (h : (qs.getD a ([], 0)).1 = b) : adL n (ndM qs cs b a b.length) = adL n (ndK qs cs (a + 1)) := by
  refine congrArg (adL n) (funext fun i => ?_)
  unfold ndM; rw [List.take_length, ndK, h]
theorem ndM_step {qs : List PB} {cs : List Int} {b : List (Int × Int)} {a m n i : Nat} (hm : m < b.length) (hi : pA b m = i) (hn : i < n) :
    (adL n (ndM qs cs b a m)).set i (iG (adL n (ndM qs cs b a m)) i + iG cs a * pB b m) = adL n (ndM qs cs b a (m + 1)) := by
  refine adL_set hn ?_ fun j _ hj => ?_
  · rw [adL_get hn, ndM, ndM, eqN_yes hm hi, Int.mul_add]; omega
  · rw [ndM, ndM, eqN_no hm (by rw [hi]; omega)]
theorem ndK_bd {s : List Art} {qs : List PB} {cs : List Int} (hq : okQ s qs) (hc : ∀ j, 0 ≤ iG cs j ∧ iG cs j ≤ 20) (i : Nat) : ∀ a, a ≤ qs.length → 0 ≤ ndK qs cs a i ∧ ndK qs cs a i ≤ 400 * a
  | 0, _ => by unfold ndK; omega
  | a + 1, ha => by
    have ih := ndK_bd hq hc i a (by omega)
    have he := eqN_all (bOk_pr (okQ_getD hq (show a < qs.length by omega))).1 (i : Int)
    have h1 := mul_bd (hc a).1 (hc a).2 he.1 he.2
    unfold ndK; omega
theorem ndM_bd {s : List Art} {qs : List PB} {cs : List Int} {b : List (Int × Int)} (hq : okQ s qs) (hc : ∀ j, 0 ≤ iG cs j ∧ iG cs j ≤ 20) (hb : vCart s b = true) (i a m : Nat) (ha : a ≤ qs.length) : 0 ≤ ndM qs cs b a m i ∧ ndM qs cs b a m i ≤ 400 * a + 400 := by
  have h1 := ndK_bd hq hc i a ha
  have h2 := eqN_part (vCart_pr hb).2 (i : Int) m
  have h3 := eqN_all hb (i : Int)
  have h4 := mul_bd (hc a).1 (hc a).2 h2.1 (show eqN (b.take m) i ≤ 20 by omega)
  unfold ndM; omega

theorem ndK_cons (q : PB) (qs : List PB) (c : Int) (r : List Int) (i : Nat) : ∀ a, ndK (q :: qs) (c :: r) (a + 1) i = c * eqN q.1 i + ndK qs r a i
  | 0 => by simp [ndK, iG]
  | a + 1 => by
    rw [ndK, ndK_cons q qs c r i a, ndK]
    have e1 : iG (c :: r) (a + 1) = iG r a := by simp [iG]
    have e2 : (q :: qs).getD (a + 1) ([], 0) = qs.getD a ([], 0) := by simp
    rw [e1, e2]; omega
theorem ndK_all : ∀ (qs : List PB) (cs : List Int) (i : Nat), cs.length = qs.length → ndK qs cs qs.length i = needQ qs cs i
  | [], cs, i, h => by obtain rfl : cs = [] := List.eq_nil_of_length_eq_zero h; rfl
  | q :: qs, [], i, h => by simp at h
  | q :: qs, c :: r, i, h => by
    rw [List.length_cons, ndK_cons, ndK_all qs r i (by simpa using h)]; rfl

/-- less the first m lines of the cart -/
def ndC (qs : List PB) (cs : List Int) (c : List (Int × Int)) (m : Nat) (i : Nat) : Int := ndK qs cs qs.length i - eqN (c.take m) i
theorem ndC_zero (qs : List PB) (cs : List Int) (c : List (Int × Int)) (n : Nat) : adL n (ndC qs cs c 0) = adL n (ndK qs cs qs.length) := by
  refine congrArg (adL n) (funext fun i => ?_)
  unfold ndC; rw [(fil_zero c i).2.2]; omega
theorem ndC_step {qs : List PB} {cs : List Int} {c : List (Int × Int)} {m n i : Nat} (hm : m < c.length) (hi : pA c m = i) (hn : i < n) :
    (adL n (ndC qs cs c m)).set i (iG (adL n (ndC qs cs c m)) i - pB c m) = adL n (ndC qs cs c (m + 1)) := by
  refine adL_set hn ?_ fun j _ hj => ?_
  · rw [adL_get hn, ndC, ndC, eqN_yes hm hi]; omega
  · rw [ndC, ndC, eqN_no hm (by rw [hi]; omega)]
theorem ndC_bd {s : List Art} {qs : List PB} {cs : List Int} {c : List (Int × Int)} (hq : okQ s qs) (hc : ∀ j, 0 ≤ iG cs j ∧ iG cs j ≤ 20) (hv : vCart s c = true) (i m : Nat) : -20 ≤ ndC qs cs c m i ∧ ndC qs cs c m i ≤ 400 * qs.length := by
  have h1 := ndK_bd hq hc i qs.length (Nat.le_refl _)
  have h2 := eqN_part (vCart_pr hv).2 (i : Int) m
  have h3 := eqN_all hv (i : Int)
  unfold ndC; omega
theorem ndC_end {s : List Art} {qs : List PB} {c : List (Int × Int)} (hq : okQ s qs) (hv : vCart s c = true) {i : Nat} (hi : i < s.length) : ndC qs (bestQ s qs (hvL s.length c)).2 c c.length i ≤ 0 := by
  have hl := hvL_len s.length c
  have hh := okH_hvL hv
  have h1 := (bestQ_fits qs _ hq hl hh).1
  have h2 := (need_fit s qs _ _ hq hl hh h1 i (by rw [hl]; exact hi)).2
  rw [hvL_get c hi] at h2
  unfold ndC
  rw [List.take_length, ndK_all qs _ i (fits_len h1)]; omega

end Go.Proofs.Ytomapdedajdkkab
