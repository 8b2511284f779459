/- What the functions on bands come to, as plain functions on lists, and plain laws on them. No program. Conditions: none. -/
import Derived.Test.YteeehgicegmbjaaPure
namespace Go.Proofs.Yteeehgicegmbjaa

/-- what an amount of money is -/
def mny (n : Int) : Bool := wi n 0 1000000

/-- band k is in order -/
def bdOk (l : List (Int × Int)) (k : Nat) : Bool :=
  wi (pA l k) 1 800000 && mny (pB l k) && (decide (k = 0) || (decide (pA l (k - 1) < pA l k) && decide (pB l (k - 1) ≤ pB l k)))

def vBands (l : List (Int × Int)) : Bool := (List.range l.length).all (bdOk l) && wi l.length 1 5

theorem vBands_bad {l : List (Int × Int)} {k : Nat} (hk : k < l.length) (h : bdOk l k = false) : vBands l = false := by
  unfold vBands
  rw [Bool.and_eq_false_iff]
  left
  rw [List.all_eq_false]
  exact ⟨k, List.mem_range.2 hk, by simp [h]⟩

theorem vBands_end {l : List (Int × Int)} (h : ∀ j, j < l.length → bdOk l j = true) : vBands l = wi l.length 1 5 := by
  unfold vBands
  have : (List.range l.length).all (bdOk l) = true := by
    rw [List.all_eq_true]; exact fun j hj => h j (List.mem_range.1 hj)
  rw [this, Bool.true_and]

theorem bdOk_a {l : List (Int × Int)} {k : Nat} (h : wi (pA l k) 1 800000 = false) : bdOk l k = false := by simp [bdOk, h]
theorem bdOk_b {l : List (Int × Int)} {k : Nat} (h : mny (pB l k) = false) : bdOk l k = false := by simp [bdOk, h]
theorem bdOk_c {l : List (Int × Int)} {k : Nat} (h : pA l (k + 1) ≤ pA l k) : bdOk l (k + 1) = false := by
  simp only [bdOk, Bool.and_eq_false_iff, Bool.or_eq_false_iff, decide_eq_false_iff_not, Nat.add_sub_cancel]
  right; omega
theorem bdOk_d {l : List (Int × Int)} {k : Nat} (h : pB l (k + 1) < pB l k) : bdOk l (k + 1) = false := by
  simp only [bdOk, Bool.and_eq_false_iff, Bool.or_eq_false_iff, decide_eq_false_iff_not, Nat.add_sub_cancel]
  right; omega
theorem bdOk_0 {l : List (Int × Int)} {k : Nat} (hk : ¬ 0 < k) (h1 : wi (pA l k) 1 800000 = true) (h2 : mny (pB l k) = true) : bdOk l k = true := by
  obtain rfl : k = 0 := by omega
  simp [bdOk, h1, h2]
theorem bdOk_s {l : List (Int × Int)} {k : Nat} (h1 : wi (pA l (k + 1)) 1 800000 = true) (h2 : mny (pB l (k + 1)) = true) (h : ¬ pA l (k + 1) ≤ pA l k) (h3 : ¬ pB l (k + 1) < pB l k) : bdOk l (k + 1) = true := by
  simp [bdOk, h1, h2]; omega

theorem vBands_all {l : List (Int × Int)} (h : vBands l = true) : (∀ j, j < l.length → bdOk l j = true) ∧ 1 ≤ l.length ∧ l.length ≤ 5 := by
  unfold vBands at h
  rw [Bool.and_eq_true, List.all_eq_true, wi_true] at h
  exact ⟨fun j hj => h.1 j (List.mem_range.2 hj), by omega, by omega⟩

theorem bdOk_pr {l : List (Int × Int)} {k : Nat} (h : bdOk l k = true) : 1 ≤ pA l k ∧ pA l k ≤ 800000 ∧ 0 ≤ pB l k ∧ pB l k ≤ 1000000 ∧ (k = 0 ∨ (pA l (k - 1) < pA l k ∧ pB l (k - 1) ≤ pB l k)) := by
  simp only [bdOk, mny, Bool.and_eq_true, Bool.or_eq_true, decide_eq_true_eq, wi_true] at h
  omega

theorem bdOk_mk {l : List (Int × Int)} {k : Nat} (h1 : 1 ≤ pA l k ∧ pA l k ≤ 800000) (h2 : 0 ≤ pB l k ∧ pB l k ≤ 1000000) (h3 : k = 0 ∨ (pA l (k - 1) < pA l k ∧ pB l (k - 1) ≤ pB l k)) : bdOk l k = true := by
  simp only [bdOk, mny, Bool.and_eq_true, Bool.or_eq_true, decide_eq_true_eq, wi_true]
  exact ⟨⟨h1, h2⟩, h3⟩

theorem vBands_mk {l : List (Int × Int)} (h : ∀ j, j < l.length → bdOk l j = true) (hl : 1 ≤ l.length) (hl2 : l.length ≤ 5) : vBands l = true := by
  rw [vBands_end h, wi_true]; omega

theorem bd_asc {l : List (Int × Int)} (h : vBands l = true) : ∀ j, j < l.length → ∀ i, i < j → pA l i < pA l j ∧ pB l i ≤ pB l j
  | 0, _, i, hi => absurd hi (Nat.not_lt_zero _)
  | j + 1, hj, i, hi => by
    have h1 := bdOk_pr ((vBands_all h).1 (j + 1) hj)
    have h2 : pA l j < pA l (j + 1) ∧ pB l j ≤ pB l (j + 1) := by
      rcases h1.2.2.2.2 with h3 | h3
      · omega
      · simpa using h3
    by_cases e : i = j
    · subst e; exact h2
    · have := bd_asc h j (by omega) i (by omega)
      omega

theorem pAt_take {l : List (Int × Int)} {m k : Nat} (h : k < m) : pA (l.take m) k = pA l k ∧ pB (l.take m) k = pB l k := by
  unfold pA pB
  rw [List.getD_eq_getElem?_getD, List.getElem?_take, if_pos h, List.getD_eq_getElem?_getD]
  exact ⟨rfl, rfl⟩

theorem pAt_drop {l : List (Int × Int)} (m k : Nat) : pA (l.drop m) k = pA l (m + k) ∧ pB (l.drop m) k = pB l (m + k) := by
  unfold pA pB
  rw [List.getD_eq_getElem?_getD, List.getElem?_drop, List.getD_eq_getElem?_getD]
  exact ⟨rfl, rfl⟩

theorem vBands_take {l : List (Int × Int)} (h : vBands l = true) (hl : 2 ≤ l.length) : vBands (l.take (l.length - 1)) = true := by
  have ht : (l.take (l.length - 1)).length = l.length - 1 := by rw [List.length_take]; omega
  have h5 := (vBands_all h).2.2
  refine vBands_mk (fun j hj => ?_) (by omega) (by omega)
  have h1 := bdOk_pr ((vBands_all h).1 j (by omega))
  have e1 := pAt_take (l := l) (m := l.length - 1) (k := j) (by omega)
  have e2 := pAt_take (l := l) (m := l.length - 1) (k := j - 1) (by omega)
  exact bdOk_mk (by rw [e1.1]; omega) (by rw [e1.2]; omega) (by rw [e1.1, e2.1, e1.2, e2.2]; exact h1.2.2.2.2)

theorem vBands_drop {l : List (Int × Int)} (h : vBands l = true) (hl : 2 ≤ l.length) : vBands (l.drop 1) = true := by
  have hd : (l.drop 1).length = l.length - 1 := List.length_drop
  have h5 := (vBands_all h).2.2
  refine vBands_mk (fun j hj => ?_) (by omega) (by omega)
  have h1 := bdOk_pr ((vBands_all h).1 (1 + j) (by omega))
  have e1 := pAt_drop (l := l) 1 j
  have e2 := pAt_drop (l := l) 1 (j - 1)
  refine bdOk_mk (by rw [e1.1]; omega) (by rw [e1.2]; omega) ?_
  rw [e1.1, e2.1, e1.2, e2.2]
  by_cases e : j = 0
  · exact .inl e
  · right
    have := h1.2.2.2.2
    rw [show 1 + (j - 1) = 1 + j - 1 by omega]
    omega

/-- the price of a parcel, -1 for none -/
def pcl (l : List (Int × Int)) (w : Int) : Int := match l.find? (fun p => decide (w ≤ p.1)) with | some p => p.2 | none => -1

theorem pcl_hit {l : List (Int × Int)} {w : Int} {k : Nat} (hk : k < l.length) (h : ∀ j, j < k → pA l j < w) (hw : w ≤ pA l k) : pcl l w = pB l k := by
  have hf : l.find? (fun p => decide (w ≤ p.1)) = some l[k] := by
    rw [List.find?_eq_some_iff_getElem]
    refine ⟨by simpa [pA, List.getD, hk] using hw, k, hk, rfl, fun j hj => ?_⟩
    have := h j hj
    simp only [pA, List.getD_eq_getElem?_getD, List.getElem?_eq_getElem (show j < l.length by omega), Option.getD_some] at this
    simpa using this
  unfold pcl
  rw [hf]
  simp [pB, List.getD, hk]

theorem pcl_none {l : List (Int × Int)} {w : Int} (h : ∀ j, j < l.length → pA l j < w) : pcl l w = -1 := by
  have hf : l.find? (fun p => decide (w ≤ p.1)) = none := by
    rw [List.find?_eq_none]
    intro x hx
    obtain ⟨j, hj, rfl⟩ := List.mem_iff_getElem.1 hx
    have := h j hj
    simp only [pA, List.getD_eq_getElem?_getD, List.getElem?_eq_getElem hj, Option.getD_some] at this
    simpa using this
  unfold pcl
  rw [hf]

theorem pcl_or (l : List (Int × Int)) (w : Int) : (∃ k, k < l.length ∧ (∀ j, j < k → pA l j < w) ∧ w ≤ pA l k ∧ pcl l w = pB l k) ∨ ((∀ j, j < l.length → pA l j < w) ∧ pcl l w = -1) := by
  have : ∀ n, n ≤ l.length → (∃ k, k < n ∧ (∀ j, j < k → pA l j < w) ∧ w ≤ pA l k) ∨ (∀ j, j < n → pA l j < w) := by
    intro n
    induction n with
    | zero => intro _; exact .inr fun j hj => absurd hj (Nat.not_lt_zero _)
    | succ n ih =>
      intro hn
      rcases ih (by omega) with ⟨k, h1, h2, h3⟩ | h
      · exact .inl ⟨k, by omega, h2, h3⟩
      · by_cases e : pA l n < w
        · exact .inr (all_snoc h e)
        · exact .inl ⟨n, by omega, h, by omega⟩
  rcases this _ (Nat.le_refl _) with ⟨k, h1, h2, h3⟩ | h
  · exact .inl ⟨k, h1, h2, h3, pcl_hit h1 h2 h3⟩
  · exact .inr ⟨h, pcl_none h⟩

def fParcel (l : List (Int × Int)) (w : Int) : Int := if vBands l && decide (0 ≤ w) then pcl l w else -1
def fShip (l : List (Int × Int)) (w a m : Int) : Int := if vBands l && wi w 0 800000 && mny a && mny m then (if 0 < pcl l w ∧ m ≤ a then 0 else pcl l w) else -1

theorem pcl_bd {l : List (Int × Int)} (h : vBands l = true) (w : Int) : -1 ≤ pcl l w ∧ pcl l w ≤ 1000000 := by
  rcases pcl_or l w with ⟨k, h1, _, _, h4⟩ | ⟨_, h4⟩
  · have := bdOk_pr ((vBands_all h).1 k h1); omega
  · omega

theorem fParcel_bd (l : List (Int × Int)) (w : Int) : -1 ≤ fParcel l w ∧ fParcel l w ≤ 1000000 := by
  unfold fParcel
  split
  · rename_i h; rw [Bool.and_eq_true] at h; exact pcl_bd h.1 w
  · omega

theorem fParcel_v {l : List (Int × Int)} {w : Int} (h : vBands l = false) : fParcel l w = -1 := by simp [fParcel, h]
theorem fParcel_w {l : List (Int × Int)} {w : Int} (h : w < 0) : fParcel l w = -1 := by
  unfold fParcel; rw [decide_eq_false (by omega), Bool.and_false]; rfl
theorem fParcel_in {l : List (Int × Int)} {w : Int} (h : vBands l = true) (hw : 0 ≤ w) : fParcel l w = pcl l w := by
  unfold fParcel; rw [h, decide_eq_true hw]; rfl
theorem fParcel_pos {l : List (Int × Int)} {w : Int} (h : ¬ fParcel l w < 0) : vBands l = true ∧ 0 ≤ w := by
  cases hv : vBands l
  · exact absurd (by rw [fParcel_v hv]; omega) h
  · refine ⟨rfl, ?_⟩
    by_cases hw : w < 0
    · exact absurd (by rw [fParcel_w hw]; omega) h
    · omega

/-- heavier parcels cost no less -/
theorem parcel_more {l : List (Int × Int)} {w : Int} (h : ¬ fParcel l w < 0) : fParcel l (w + 1) < 0 ∨ fParcel l w ≤ fParcel l (w + 1) := by
  obtain ⟨hv, hw⟩ := fParcel_pos h
  rw [fParcel_in hv hw] at h ⊢
  rw [fParcel_in hv (by omega)]
  rcases pcl_or l (w + 1) with ⟨k, h1, h2, h3, h4⟩ | ⟨_, h4⟩
  · right
    rcases pcl_or l w with ⟨i, g1, g2, g3, g4⟩ | ⟨_, g4⟩
    · rw [h4, g4]
      by_cases e : i = k
      · subst e; exact Int.le_refl _
      · by_cases e2 : i < k
        · exact (bd_asc hv k h1 i e2).2
        · have := g2 k (by omega)
          omega
    · rw [g4]; have := (bdOk_pr ((vBands_all hv).1 k h1)); omega
  · left; omega

theorem parcel_last {l : List (Int × Int)} (hv : vBands l = true) : fParcel l (pA l (l.length - 1)) = pB l (l.length - 1) ∧ fParcel l (pA l (l.length - 1) + 1) = -1 := by
  have h1 := (vBands_all hv).2.1
  have h2 := bdOk_pr ((vBands_all hv).1 (l.length - 1) (by omega))
  rw [fParcel_in hv (by omega), fParcel_in hv (by omega)]
  refine ⟨pcl_hit (by omega) (fun j hj => (bd_asc hv _ (by omega) j hj).1) (Int.le_refl _), pcl_none fun j hj => ?_⟩
  by_cases e : j = l.length - 1
  · subst e; omega
  · have := (bd_asc hv (l.length - 1) (by omega) j (by omega)).1
    omega

theorem fShip_v {l : List (Int × Int)} {w a m : Int} (h : vBands l = false) : fShip l w a m = -1 := by simp [fShip, h]
theorem fShip_w {l : List (Int × Int)} {w a m : Int} (h : wi w 0 800000 = false) : fShip l w a m = -1 := by simp [fShip, h]
theorem fShip_a {l : List (Int × Int)} {w a m : Int} (h : mny a = false) : fShip l w a m = -1 := by simp [fShip, h]
theorem fShip_m {l : List (Int × Int)} {w a m : Int} (h : mny m = false) : fShip l w a m = -1 := by simp [fShip, h]
theorem fShip_in {l : List (Int × Int)} {w a m : Int} (h1 : vBands l = true) (h2 : wi w 0 800000 = true) (h3 : mny a = true) (h4 : mny m = true) : fShip l w a m = if 0 < pcl l w ∧ m ≤ a then 0 else pcl l w := by
  unfold fShip; rw [h1, h2, h3, h4]; rfl
theorem fShip_pos {l : List (Int × Int)} {w a m : Int} (h : ¬ fShip l w a m < 0) : vBands l = true ∧ wi w 0 800000 = true ∧ mny a = true ∧ mny m = true := by
  cases h1 : vBands l
  · exact absurd (by rw [fShip_v h1]; omega) h
  cases h2 : wi w 0 800000
  · exact absurd (by rw [fShip_w h2]; omega) h
  cases h3 : mny a
  · exact absurd (by rw [fShip_a h3]; omega) h
  cases h4 : mny m
  · exact absurd (by rw [fShip_m h4]; omega) h
  exact ⟨rfl, rfl, rfl, rfl⟩

/-- what the program's ShippingOf does with the price of the parcel -/
theorem fShip_prog {l : List (Int × Int)} {w a m : Int} (h2 : wi w 0 800000 = true) (h3 : mny a = true) (h4 : mny m = true) : fShip l w a m = if 0 ≤ fParcel l w ∧ m ≤ a then 0 else fParcel l w := by
  have hw := wi_true.1 h2
  cases h1 : vBands l
  · rw [fShip_v h1, fParcel_v h1, if_neg (by omega)]
  · rw [fShip_in h1 h2 h3 h4, fParcel_in h1 hw.1]
    split
    · rw [if_pos (by omega)]
    · split
      · omega
      · rfl

/-- large amounts ship free -/
theorem ship_is {l : List (Int × Int)} {w a m : Int} (h : ¬ fShip l w a m < 0) : 0 ≤ fParcel l w ∧ ((m ≤ a ∧ fShip l w a m = 0) ∨ (a < m ∧ fShip l w a m = fParcel l w)) := by
  obtain ⟨h1, h2, h3, h4⟩ := fShip_pos h
  have e := fShip_prog (l := l) h2 h3 h4
  by_cases hc : 0 ≤ fParcel l w ∧ m ≤ a
  · rw [if_pos hc] at e
    exact ⟨hc.1, .inl ⟨hc.2, e⟩⟩
  · rw [if_neg hc] at e
    exact ⟨by omega, .inr ⟨by omega, e⟩⟩

/-- who buys more pays no more -/
theorem ship_more {l : List (Int × Int)} {w a m : Int} (h : ¬ fShip l w a m < 0) : fShip l w 1000000 m ≤ fShip l w a m ∧ fShip l w a 0 = 0 := by
  obtain ⟨h1, h2, h3, h4⟩ := fShip_pos h
  have g3 := wi_true.1 h3
  have g4 := wi_true.1 h4
  have hp := (ship_is h).1
  refine ⟨?_, ?_⟩
  · rw [fShip_prog h2 (a := 1000000) (by simp [mny, wi]) h4, if_pos ⟨hp, by omega⟩]; omega
  · rw [fShip_prog h2 h3 (m := 0) (by simp [mny, wi]), if_pos ⟨hp, by omega⟩]

end Go.Proofs.Yteeehgicegmbjaa
