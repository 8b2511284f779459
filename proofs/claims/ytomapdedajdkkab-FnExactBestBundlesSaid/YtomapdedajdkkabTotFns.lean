/- Totals and gains as plain functions on lists. No program. Conditions: none. -/
import Derived.Test.YtomapdedajdkkabAddFns
namespace Go.Proofs.Ytomapdedajdkkab
open Go.RowKit

/-- the sum of the first k numbers -/
def sumT (l : List Int) : Nat → Int
  | 0 => 0
  | k + 1 => sumT l k + iG l k
theorem sumT_succ (l : List Int) (k : Nat) : sumT l (k + 1) = sumT l k + iG l k := rfl
theorem sumT_bd {l : List Int} (h : ∀ j, j < l.length → 0 ≤ iG l j ∧ iG l j ≤ 1000000) : ∀ k, k ≤ l.length → 0 ≤ sumT l k ∧ sumT l k ≤ 1000000 * k
  | 0, _ => by simp [sumT]
  | k + 1, hk => by
    have := sumT_bd h k (by omega)
    have := h k (by omega)
    unfold sumT
    omega

/-- the amount of line k; the amounts of the first k lines; their sum -/
def amt (s : List Art) (c : List (Int × Int)) (k : Nat) : Int := (aT s (pA c k).toNat).p * pB c k
def amK (s : List Art) (c : List (Int × Int)) : Nat → List Int
  | 0 => []
  | k + 1 => amK s c k ++ [amt s c k]
def totK (s : List Art) (c : List (Int × Int)) : Nat → Int
  | 0 => 0
  | k + 1 => totK s c k + amt s c k
theorem amK_len (s : List Art) (c : List (Int × Int)) : ∀ k, (amK s c k).length = k
  | 0 => rfl
  | k + 1 => by unfold amK; rw [List.length_append, amK_len s c k]; rfl
theorem amK_get (s : List Art) (c : List (Int × Int)) : ∀ n j, j < n → iG (amK s c n) j = amt s c j
  | 0, j, h => absurd h (Nat.not_lt_zero _)
  | n + 1, j, h => by
    unfold amK
    have hl := amK_len s c n
    unfold iG
    by_cases e : j = n
    · subst e
      rw [List.getD_eq_getElem?_getD, List.getElem?_append_right (by omega), hl, Nat.sub_self]; rfl
    · have ih := amK_get s c n j (by omega)
      unfold iG at ih
      rw [List.getD_eq_getElem?_getD, List.getElem?_append_left (by omega), ← List.getD_eq_getElem?_getD]; exact ih
theorem sumT_am (s : List Art) (c : List (Int × Int)) (n : Nat) : ∀ k, k ≤ n → sumT (amK s c n) k = totK s c k
  | 0, _ => rfl
  | k + 1, hk => by unfold sumT totK; rw [sumT_am s c n k (by omega), amK_get s c n k (by omega)]
theorem amt_bd {s : List Art} {c : List (Int × Int)} (h : vCart s c = true) {k : Nat} (hk : k < c.length) : 1 ≤ amt s c k ∧ amt s c k ≤ 100000 := by
  have h1 := art_in h hk
  have h2 := atOk_pr h1.2.2.2.2.2
  have h3 := mul_bd (a := (aT s (pA c k).toNat).p) (b := pB c k) (m := 5000) (n := 20) (by omega) (by omega) (by omega) (by omega)
  have h4 : 1 * 1 ≤ (aT s (pA c k).toNat).p * pB c k := Int.mul_le_mul (by omega) (by omega) (by omega) (by omega)
  unfold amt
  omega
theorem totK_bd {s : List Art} {c : List (Int × Int)} (h : vCart s c = true) : ∀ k, k ≤ c.length → 0 ≤ totK s c k ∧ totK s c k ≤ 100000 * k
  | 0, _ => by simp [totK]
  | k + 1, hk => by
    have h1 := amt_bd h (k := k) (by omega)
    have h2 := totK_bd h k (by omega)
    unfold totK
    omega
def fTot (s : List Art) (c : List (Int × Int)) : Int := if vCart s c then totK s c c.length else -1
theorem fTot_no {s : List Art} {c : List (Int × Int)} (h : vCart s c = false) : fTot s c = -1 := by simp [fTot, h]
theorem fTot_yes {s : List Art} {c : List (Int × Int)} (h : vCart s c = true) : fTot s c = totK s c c.length := by simp [fTot, h]
theorem fTot_bd (s : List Art) (c : List (Int × Int)) : -1 ≤ fTot s c ∧ fTot s c ≤ 800000 := by
  cases h : vCart s c
  · rw [fTot_no h]; omega
  · rw [fTot_yes h]
    have h1 := totK_bd h c.length (Nat.le_refl _)
    have h2 := (vLines_all (vCart_pr h).2).2
    omega

/-! ### Bundles: parts and a price -/
def bOk (s : List Art) (c : List (Int × Int)) (p : Int) : Bool := vCart s c && decide (0 < c.length) && wi p 0 1000000
def fGain (s : List Art) (c : List (Int × Int)) (p : Int) : Int := if bOk s c p then max 0 (totK s c c.length - p) else -1
theorem fGain_no {s : List Art} {c : List (Int × Int)} {p : Int} (h : bOk s c p = false) : fGain s c p = -1 := by simp [fGain, h]
theorem fGain_yes {s : List Art} {c : List (Int × Int)} {p : Int} (h : bOk s c p = true) : fGain s c p = max 0 (totK s c c.length - p) := by simp [fGain, h]
theorem bOk_pr {s : List Art} {c : List (Int × Int)} {p : Int} (h : bOk s c p = true) : vCart s c = true ∧ 0 < c.length ∧ 0 ≤ p ∧ p ≤ 1000000 := by
  simp only [bOk, Bool.and_eq_true, decide_eq_true_eq, wi_true] at h
  exact ⟨h.1.1, h.1.2, h.2.1, h.2.2⟩
theorem bOk_mk {s : List Art} {c : List (Int × Int)} {p : Int} (h1 : vCart s c = true) (h2 : 0 < c.length) (h3 : 0 ≤ p ∧ p ≤ 1000000) : bOk s c p = true := by
  simp only [bOk, Bool.and_eq_true, decide_eq_true_eq, wi_true]
  exact ⟨⟨h1, h2⟩, h3⟩
theorem gain_bd {s : List Art} {c : List (Int × Int)} {p : Int} : -1 ≤ fGain s c p ∧ fGain s c p ≤ 800000 := by
  cases h : bOk s c p
  · rw [fGain_no h]; omega
  · have h1 := bOk_pr h
    have h2 := totK_bd h1.1 c.length (Nat.le_refl _)
    have h3 := (vLines_all (vCart_pr h1.1).2).2
    rw [fGain_yes h]; omega

end Go.Proofs.Ytomapdedajdkkab
