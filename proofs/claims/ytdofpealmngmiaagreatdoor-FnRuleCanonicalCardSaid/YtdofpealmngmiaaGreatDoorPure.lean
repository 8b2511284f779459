/- Plain laws on prices and on ranges; no program. Conditions: none. -/
import Derived.Test.YtdofpealmngmiaaGreatDoorMem
namespace Go.Proofs.YtdofpealmngmiaaGreatDoor
open Go.RowKit

/-- n lies in lo..hi -/
def wi (n lo hi : Int) : Bool := decide (lo ≤ n) && decide (n ≤ hi)
theorem wi_true {n lo hi : Int} : wi n lo hi = true ↔ lo ≤ n ∧ n ≤ hi := by simp [wi]
theorem wi_false {n lo hi : Int} : wi n lo hi = false ↔ n < lo ∨ hi < n := by
  rw [Bool.eq_false_iff, ne_eq, wi_true]; omega

/-- element k of a history is in order -/
def chOk (l : List (Int × Int)) (k : Nat) : Bool :=
  wi (pA l k) 0 999 && wi (pB l k) 1 5000 && (decide (k = 0) || decide (pA l (k - 1) < pA l k))

def vPrices (l : List (Int × Int)) : Bool := (List.range l.length).all (chOk l) && decide (l.length ≤ 12)

theorem vPrices_bad {l : List (Int × Int)} {k : Nat} (hk : k < l.length) (h : chOk l k = false) : vPrices l = false := by
  unfold vPrices
  rw [Bool.and_eq_false_iff]
  left
  rw [List.all_eq_false]
  exact ⟨k, List.mem_range.2 hk, by simp [h]⟩

theorem vPrices_end {l : List (Int × Int)} (h : ∀ j, j < l.length → chOk l j = true) : vPrices l = decide ((l.length : Int) ≤ 12) := by
  unfold vPrices
  have : (List.range l.length).all (chOk l) = true := by
    rw [List.all_eq_true]; exact fun j hj => h j (List.mem_range.1 hj)
  rw [this, Bool.true_and]
  exact decide_eq_decide.2 (by omega)

theorem chOk_a {l : List (Int × Int)} {k : Nat} (h : wi (pA l k) 0 999 = false) : chOk l k = false := by simp [chOk, h]
theorem chOk_b {l : List (Int × Int)} {k : Nat} (h : wi (pB l k) 1 5000 = false) : chOk l k = false := by simp [chOk, h]
theorem chOk_c {l : List (Int × Int)} {k : Nat} (h : pA l (k + 1) ≤ pA l k) : chOk l (k + 1) = false := by
  simp only [chOk, Bool.and_eq_false_iff, Bool.or_eq_false_iff, decide_eq_false_iff_not, Nat.add_sub_cancel]
  right; omega
theorem chOk_0 {l : List (Int × Int)} {k : Nat} (hk : ¬ 0 < k) (h1 : wi (pA l k) 0 999 = true) (h2 : wi (pB l k) 1 5000 = true) : chOk l k = true := by
  obtain rfl : k = 0 := by omega
  simp [chOk, h1, h2]
theorem chOk_s {l : List (Int × Int)} {k : Nat} (h1 : wi (pA l (k + 1)) 0 999 = true) (h2 : wi (pB l (k + 1)) 1 5000 = true) (h : pA l k < pA l (k + 1)) : chOk l (k + 1) = true := by
  simp [chOk, h1, h2, h]
theorem all_snoc {p : Nat → Prop} {k : Nat} (h : ∀ j, j < k → p j) (hk : p k) : ∀ j, j < k + 1 → p j := by
  intro j hj
  by_cases e : j = k
  · exact e ▸ hk
  · exact h j (by omega)

end Go.Proofs.YtdofpealmngmiaaGreatDoor
