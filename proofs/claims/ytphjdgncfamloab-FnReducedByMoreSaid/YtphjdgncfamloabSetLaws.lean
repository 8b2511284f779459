/- Plain laws on setting a price: what the functions on lists answer behind it. No program. Conditions: none. -/
import Derived.Test.YtphjdgncfamloabSet
namespace Go.Proofs.Ytphjdgncfamloab

theorem pOn_left (b : List (Int × Int)) (d p e : Int) : ∀ k, k ≤ b.length → pOn (b ++ [(d, p)]) e k = pOn b e k
  | 0, _ => rfl
  | k + 1, h => by
    unfold pOn
    rw [(pA_left b d p (by omega)).1, (pA_left b d p (by omega)).2, pOn_left b d p e k (by omega)]

/-- the price from the day on -/
theorem day_new (b : List (Int × Int)) {d p e : Int} (h : d ≤ e) : pDay (b ++ [(d, p)]) e = p := by
  unfold pDay
  rw [snoc_len]
  unfold pOn
  rw [(pA_last b d p).1, (pA_last b d p).2, if_pos h]

/-- and before it, the elder one -/
theorem day_old (b : List (Int × Int)) {d p e : Int} (h : e < d) : pDay (b ++ [(d, p)]) e = pDay b e := by
  have h1 : pOn (b ++ [(d, p)]) e (b.length + 1) = pOn (b ++ [(d, p)]) e b.length := by
    rw [pOn, (pA_last b d p).1, if_neg (by omega)]
  unfold pDay
  rw [snoc_len, h1, pOn_left b d p e _ (Nat.le_refl _)]

theorem pOn_take (l : List (Int × Int)) (m : Nat) (e : Int) : ∀ k, k ≤ m → pOn (l.take m) e k = pOn l e k
  | 0, _ => rfl
  | k + 1, h => by
    unfold pOn
    rw [(pA_take (by omega)).1, (pA_take (by omega)).2, pOn_take l m e k (by omega)]

theorem day_base {l : List (Int × Int)} {d e : Int} (h : e < d) : pDay (base1 l d) e = pDay l e := by
  unfold base1
  split
  · rename_i hc
    obtain ⟨n, hn⟩ : ∃ n, l.length = n + 1 := ⟨l.length - 1, by omega⟩
    have ht : (l.take (l.length - 1)).length = l.length - 1 := by rw [List.length_take]; omega
    unfold pDay
    rw [ht, pOn_take l _ e _ (Nat.le_refl _)]
    have hl := hc.2
    unfold lastA at hl
    rw [hn, Nat.add_sub_cancel] at hl ⊢
    have h1 : pOn l e (n + 1) = pOn l e n := by rw [pOn, if_neg (by omega)]
    rw [h1]
  · rfl

theorem set_new (l : List (Int × Int)) {d p e : Int} (h : d ≤ e) : pDay (out1 l d p) e = p := day_new _ h
theorem set_old (l : List (Int × Int)) {d p e : Int} (h : e < d) : pDay (out1 l d p) e = pDay l e := (day_old _ h).trans (day_base h)

theorem lowN_congr {l m : List (Int × Int)} {a : Int} : ∀ n : Nat, (∀ i : Nat, i < n → pDay l (a + i) = pDay m (a + i)) → lowN l a n = lowN m a n
  | 0, _ => rfl
  | n + 1, h => by
    unfold lowN
    rw [h n (by omega), lowN_congr n fun i hi => h i (by omega)]

theorem low_old (l : List (Int × Int)) {d : Int} (p : Int) : lowB (out1 l d p) d = lowB l d :=
  lowN_congr _ fun i hi => set_old l (by omega)

theorem setOk_pr {l : List (Int × Int)} {d p : Int} (h : setOk l d p = true) : vPrices l = true ∧ vPrices (out1 l d p) = true ∧ (l.length = 0 ∨ lastA l ≤ d) ∧ 0 ≤ d ∧ d ≤ 999 ∧ 1 ≤ p ∧ p ≤ 5000 := by
  obtain ⟨h1, h2, h3⟩ := setOk_wi h
  have h2 := wi_true.1 h2
  have h3 := wi_true.1 h3
  simp only [setOk, Bool.and_eq_true, Bool.or_eq_true, decide_eq_true_eq] at h
  exact ⟨h1, h.2, h.1.2, h3.1, h3.2, h2.1, h2.2⟩

theorem base_last {l : List (Int × Int)} {d p : Int} (h : vPrices (out1 l d p) = true) : (base1 l d).length = 0 ∨ pA (base1 l d) ((base1 l d).length - 1) < d := by
  have := (snoc_valid h).2.2.2.1
  by_cases e : (base1 l d).length = 0
  · exact .inl e
  · exact .inr (this _ (by omega))

/-- another price of the same day does as well -/
theorem setOk_other {l : List (Int × Int)} {d p q : Int} (h : setOk l d p = true) (h1 : 1 ≤ q) (h2 : q ≤ 5000) : setOk l d q = true := by
  obtain ⟨h3, h4, h5, h6, h7, _⟩ := setOk_pr h
  rw [setOk_in h3 h5]
  have h8 := snoc_valid h4
  exact valid_snoc h8.1 h8.2.1 (wi_true.2 ⟨h1, h2⟩) (base_last h4) h8.2.2.2.2

theorem lastA_out (l : List (Int × Int)) (d p : Int) : lastA (out1 l d p) = d := by
  unfold lastA out1
  rw [snoc_len, Nat.add_sub_cancel]
  exact (pA_last _ d p).1

theorem out1_twice (l : List (Int × Int)) (d p q : Int) : out1 (out1 l d p) d q = out1 l d q := by
  have h0 : 0 < (out1 l d p).length := by unfold out1; rw [snoc_len]; omega
  rw [out1_eq h0 (lastA_out l d p)]
  have : (out1 l d p).take ((out1 l d p).length - 1) = base1 l d := by
    unfold out1; rw [snoc_len, Nat.add_sub_cancel, List.take_left' rfl]
  rw [this]; rfl

theorem setOk_twice {l : List (Int × Int)} {d p q : Int} (h : setOk l d p = true) (h1 : 1 ≤ q) (h2 : q ≤ 5000) : setOk (out1 l d p) d q = true := by
  have h3 := setOk_pr h
  have h4 := setOk_pr (setOk_other h h1 h2)
  rw [setOk_in h3.2.1 (.inr (by rw [lastA_out]; exact Int.le_refl _)), out1_twice]
  exact h4.2.1

theorem fMay_set {l : List (Int × Int)} {d p : Int} (h : setOk l d p = true) : fMay (out1 l d p) d = decide (p < lowB l d) := by
  have h3 := setOk_pr h
  rw [fMay_iff h3.2.1 (wi_true.2 ⟨h3.2.2.2.1, h3.2.2.2.2.1⟩), set_new l (Int.le_refl _), low_old]
  simp only [Bool.and_eq_right_iff_imp, decide_eq_true_eq]
  omega

theorem fRed_set {l : List (Int × Int)} {d p : Int} (h : setOk l d p = true) : fRed (out1 l d p) d = if p < lowB l d then 1000 * (lowB l d - p) / lowB l d else 0 := by
  unfold fRed
  rw [fMay_set h, set_new l (Int.le_refl _), low_old]
  simp only [decide_eq_true_eq]

theorem fRed_more {l : List (Int × Int)} {d p : Int} (h : setOk l d p = true) (h2 : 2 ≤ p) : fRed (out1 l d p) d ≤ fRed (out1 l d (p - 1)) d := by
  have h3 := setOk_pr h
  rw [fRed_set h, fRed_set (setOk_other h (q := p - 1) (by omega) (by omega))]
  by_cases hl : p < lowB l d
  · rw [if_pos hl, if_pos (by omega)]
    exact Int.ediv_le_ediv (by omega) (by omega)
  · rw [if_neg hl]
    split
    · exact Int.ediv_nonneg (by omega) (by omega)
    · exact Int.le_refl _

theorem price_in {l : List (Int × Int)} {d : Int} (h : vPrices l = true) (h0 : 0 ≤ d) (h1 : d ≤ 999) : fPriceOn l d = pDay l d := by
  unfold fPriceOn; rw [h, wi_true.2 ⟨h0, h1⟩]; rfl
theorem low_in {l : List (Int × Int)} {d : Int} (h : vPrices l = true) (h0 : 0 ≤ d) (h1 : d ≤ 999) : fLowest l d = lowB l d := by
  unfold fLowest; rw [h, wi_true.2 ⟨h0, h1⟩]; rfl

theorem set_price {l : List (Int × Int)} {d p : Int} (h : setOk l d p = true) {e : Int} (h1 : d ≤ e) (h2 : e ≤ 999) : fPriceOn (out1 l d p) e = p := by
  have h3 := setOk_pr h
  rw [price_in h3.2.1 (by omega) h2, set_new l h1]
theorem set_before {l : List (Int × Int)} {d p : Int} (h : setOk l d p = true) (h1 : 1 ≤ d) : fPriceOn (out1 l d p) (d - 1) = fPriceOn l (d - 1) := by
  have h3 := setOk_pr h
  rw [price_in h3.2.1 (by omega) (by omega), price_in h3.1 (by omega) (by omega), set_old l (by omega)]
theorem set_low {l : List (Int × Int)} {d p : Int} (h : setOk l d p = true) : fLowest (out1 l d p) d = fLowest l d := by
  have h3 := setOk_pr h
  rw [low_in h3.2.1 (by omega) (by omega), low_in h3.1 (by omega) (by omega), low_old]
theorem set_next {l : List (Int × Int)} {d p : Int} (h : setOk l d p = true) (h1 : d ≤ 998) : fLowest (out1 l d p) (d + 1) ≤ p := by
  have h3 := setOk_pr h
  rw [low_in h3.2.1 (by omega) (by omega)]
  have h4 := lowB_next h3.2.1 (d := d) (by omega) (by rw [set_new l (Int.le_refl _)]; omega)
  rw [set_new l (Int.le_refl _)] at h4
  exact h4.2
theorem set_may {l : List (Int × Int)} {d p : Int} (h : setOk l d p = true) : fMay (out1 l d 1) d = decide (1 < fLowest l d) := by
  have h3 := setOk_pr h
  rw [fMay_set (setOk_other h (q := 1) (by omega) (by omega)), low_in h3.1 (by omega) (by omega)]
theorem set_oks {l : List (Int × Int)} {d p q : Int} (h : setOk l d p = true) (h1 : 1 ≤ q) (h2 : q ≤ 5000) : setL l d q = out1 l d q := setL_yes (setOk_other h h1 h2)

end Go.Proofs.Ytphjdgncfamloab
