/- Stocks as plain functions on lists. No program. Conditions: none. -/
import Derived.Test.YtomapdedajdkkabCartFns
namespace Go.Proofs.Ytomapdedajdkkab
open Go.RowKit

def stOk (l : List (Int × Int)) (k : Nat) : Bool := wi (pA l k) 0 100 && wi (pB l k) 0 100
def vStock (l : List (Int × Int)) : Bool := (List.range l.length).all (stOk l) && wi l.length 1 10
theorem vStock_bad {l : List (Int × Int)} {k : Nat} (hk : k < l.length) (h : stOk l k = false) : vStock l = false := by
  unfold vStock
  rw [Bool.and_eq_false_iff]
  left
  rw [List.all_eq_false]
  exact ⟨k, List.mem_range.2 hk, by simp [h]⟩
theorem vStock_end {l : List (Int × Int)} (h : ∀ j, j < l.length → stOk l j = true) : vStock l = wi l.length 1 10 := by
  unfold vStock
  have : (List.range l.length).all (stOk l) = true := by
    rw [List.all_eq_true]; exact fun j hj => h j (List.mem_range.1 hj)
  rw [this, Bool.true_and]
theorem vStock_all {l : List (Int × Int)} (h : vStock l = true) : (∀ j, j < l.length → 0 ≤ pA l j ∧ pA l j ≤ 100 ∧ 0 ≤ pB l j ∧ pB l j ≤ 100) ∧ 1 ≤ l.length ∧ l.length ≤ 10 := by
  unfold vStock at h
  rw [Bool.and_eq_true, List.all_eq_true, wi_true] at h
  refine ⟨fun j hj => ?_, by omega, by omega⟩
  have := h.1 j (List.mem_range.2 hj)
  simp only [stOk, Bool.and_eq_true, wi_true] at this
  omega
theorem stOk_a {l : List (Int × Int)} {k : Nat} (h : wi (pA l k) 0 100 = false) : stOk l k = false := by simp [stOk, h]
theorem stOk_b {l : List (Int × Int)} {k : Nat} (h : wi (pB l k) 0 100 = false) : stOk l k = false := by simp [stOk, h]
theorem stOk_y {l : List (Int × Int)} {k : Nat} (h1 : wi (pA l k) 0 100 = true) (h2 : wi (pB l k) 0 100 = true) : stOk l k = true := by simp [stOk, h1, h2]

/-- the stock after the first k lines -/
def mvN (l c : List (Int × Int)) (f h : Int) : Nat → List (Int × Int)
  | 0 => l
  | k + 1 => (mvN l c f h k).set (pA c k).toNat (pA (mvN l c f h k) (pA c k).toNat + f * pB c k, pB (mvN l c f h k) (pA c k).toNat + h * pB c k)
theorem mvN_len (l c : List (Int × Int)) (f h : Int) : ∀ k, (mvN l c f h k).length = l.length
  | 0 => rfl
  | k + 1 => by unfold mvN; rw [List.length_set, mvN_len l c f h k]

theorem pP_set (l : List (Int × Int)) (i j : Nat) (x y : Int) (hi : i < l.length) : pA (l.set i (x, y)) j = (if i = j then x else pA l j) ∧ pB (l.set i (x, y)) j = (if i = j then y else pB l j) := by
  unfold pA pB
  rw [List.getD_eq_getElem?_getD, List.getElem?_set, List.getD_eq_getElem?_getD]
  by_cases e : i = j
  · subst e; simp [hi]
  · simp [e]

theorem fmul_bd {f y : Int} (h1 : -1 ≤ f) (h2 : f ≤ 1) (h3 : 1 ≤ y) (h4 : y ≤ 20) : -20 ≤ f * y ∧ f * y ≤ 20 := by
  rcases (show f = -1 ∨ f = 0 ∨ f = 1 by omega) with rfl | rfl | rfl <;> omega

theorem mvN_bd {l c : List (Int × Int)} {f h : Int} (hl : vStock l = true) (hc : vLines l.length c = true) (hf : -1 ≤ f ∧ f ≤ 1) (hh : -1 ≤ h ∧ h ≤ 1) : ∀ k, k ≤ c.length → ∀ j, j < l.length →
    -20 * (k : Int) ≤ pA (mvN l c f h k) j ∧ pA (mvN l c f h k) j ≤ 100 + 20 * k ∧ -20 * (k : Int) ≤ pB (mvN l c f h k) j ∧ pB (mvN l c f h k) j ≤ 100 + 20 * k
  | 0, _, j, hj => by have := (vStock_all hl).1 j hj; simp only [mvN]; omega
  | k + 1, hk, j, hj => by
    have ih := mvN_bd hl hc hf hh k (by omega)
    have h1 := lnOk_pr ((vLines_all hc).1 k (by omega))
    have h2 := fmul_bd hf.1 hf.2 h1.2.2.1 h1.2.2.2.1
    have h3 := fmul_bd hh.1 hh.2 h1.2.2.1 h1.2.2.2.1
    have h4 := ih j hj
    have h5 := ih (pA c k).toNat (by omega)
    have h6 := pP_set (mvN l c f h k) (pA c k).toNat j (pA (mvN l c f h k) (pA c k).toNat + f * pB c k) (pB (mvN l c f h k) (pA c k).toNat + h * pB c k) (by rw [mvN_len]; omega)
    unfold mvN
    rw [h6.1, h6.2]
    split <;> omega

def movedOk (l c : List (Int × Int)) (f h : Int) : Bool := (vStock l && vLines l.length c) && vStock (mvN l c f h c.length)
def movedR (l c : List (Int × Int)) (f h : Int) : List (Int × Int) := if movedOk l c f h then mvN l c f h c.length else []
theorem moved_s {l c : List (Int × Int)} {f h : Int} (e : vStock l = false) : movedOk l c f h = false := by simp [movedOk, e]
theorem moved_c {l c : List (Int × Int)} {f h : Int} (e : vLines l.length c = false) : movedOk l c f h = false := by simp [movedOk, e]
theorem moved_in {l c : List (Int × Int)} {f h : Int} (e1 : vStock l = true) (e2 : vLines l.length c = true) : movedOk l c f h = vStock (mvN l c f h c.length) := by simp [movedOk, e1, e2]
theorem movedR_no {l c : List (Int × Int)} {f h : Int} (e : movedOk l c f h = false) : movedR l c f h = [] := by simp [movedR, e]
theorem movedR_yes {l c : List (Int × Int)} {f h : Int} (e : movedOk l c f h = true) : movedR l c f h = mvN l c f h c.length := by simp [movedR, e]
theorem movedR_len (l c : List (Int × Int)) (f h : Int) : (movedR l c f h).length ≤ l.length := by
  unfold movedR
  split
  · rw [mvN_len]; exact Nat.le_refl _
  · simp

end Go.Proofs.Ytomapdedajdkkab
