/- What the functions on prices come to, as plain functions on lists. No program. Conditions: none. -/
import Derived.Test.YtphjdgncfamloaaPure
namespace Go.Proofs.Ytphjdgncfamloaa

/-- the price after the first k changes were looked at -/
def pOn (l : List (Int × Int)) (d : Int) : Nat → Int
  | 0 => 0
  | k + 1 => if pA l k ≤ d then pB l k else pOn l d k
/-- the price on a day of a valid history -/
def pDay (l : List (Int × Int)) (d : Int) : Int := pOn l d l.length
/-- PriceOn -/
def fPriceOn (l : List (Int × Int)) (d : Int) : Int := if vPrices l && wi d 0 999 then pDay l d else -1
/-- the lowest price of n days from a on -/
def lowN (l : List (Int × Int)) (a : Int) : Nat → Int
  | 0 => 0
  | n + 1 => if 0 < pDay l (a + n) ∧ (lowN l a n = 0 ∨ pDay l (a + n) < lowN l a n) then pDay l (a + n) else lowN l a n
/-- the first of the days before a day that count -/
def from30 (d : Int) : Int := if d - 30 ≤ 0 then 0 else d - 30
/-- the lowest price before a day of a valid history -/
def lowB (l : List (Int × Int)) (d : Int) : Int := lowN l (from30 d) (d - from30 d).toNat
def fLowest (l : List (Int × Int)) (d : Int) : Int := if vPrices l && wi d 0 999 then lowB l d else -1
def fMay (l : List (Int × Int)) (d : Int) : Bool := (vPrices l && wi d 0 999) && (decide (0 < pDay l d) && decide (0 < lowB l d) && decide (pDay l d < lowB l d))
def fRed (l : List (Int × Int)) (d : Int) : Int := if fMay l d then 1000 * (lowB l d - pDay l d) / lowB l d else 0

theorem vPrices_all {l : List (Int × Int)} (h : vPrices l = true) : (∀ j, j < l.length → chOk l j = true) ∧ l.length ≤ 12 := by
  unfold vPrices at h
  rw [Bool.and_eq_true, List.all_eq_true, decide_eq_true_eq] at h
  exact ⟨fun j hj => h.1 j (List.mem_range.2 hj), h.2⟩

theorem chOk_pr {l : List (Int × Int)} {k : Nat} (h : chOk l k = true) : 0 ≤ pA l k ∧ pA l k ≤ 999 ∧ 1 ≤ pB l k ∧ pB l k ≤ 5000 ∧ (k = 0 ∨ pA l (k - 1) < pA l k) := by
  simp only [chOk, Bool.and_eq_true, Bool.or_eq_true, decide_eq_true_eq, wi_true] at h
  omega

theorem pOn_bd {l : List (Int × Int)} (h : vPrices l = true) (d : Int) : ∀ k, k ≤ l.length → 0 ≤ pOn l d k ∧ pOn l d k ≤ 5000
  | 0, _ => by simp [pOn]
  | k + 1, hk => by
    have h1 := chOk_pr ((vPrices_all h).1 k (by omega))
    have h2 := pOn_bd h d k (by omega)
    unfold pOn
    split <;> omega

theorem pDay_bd {l : List (Int × Int)} (h : vPrices l = true) (d : Int) : 0 ≤ pDay l d ∧ pDay l d ≤ 5000 := pOn_bd h d _ (Nat.le_refl _)

theorem lowN_bd {l : List (Int × Int)} (h : vPrices l = true) (a : Int) : ∀ n, 0 ≤ lowN l a n ∧ lowN l a n ≤ 5000
  | 0 => by simp [lowN]
  | n + 1 => by
    have h1 := pDay_bd h (a + n)
    have h2 := lowN_bd h a n
    unfold lowN
    split <;> omega

theorem lowB_bd {l : List (Int × Int)} (h : vPrices l = true) (d : Int) : 0 ≤ lowB l d ∧ lowB l d ≤ 5000 := lowN_bd h _ _

end Go.Proofs.Ytphjdgncfamloaa
