/- Plain laws on what best choices gain and need; no program. Conditions: none. -/
import Derived.Test.YtomapdedajdkkabBcFns
namespace Go.Proofs.Ytomapdedajdkkab
open Go.RowKit

theorem fits_bd : ∀ (s : List Art) (qs : List PB) (h cs : List Int), okQ s qs → h.length = s.length → okH h → fits qs h cs → ∀ j, 0 ≤ iG cs j ∧ iG cs j ≤ 20
  | _, [], _, cs, _, _, _, hf, j => by simp only [fits] at hf; subst hf; simp [iG]
  | s, q :: qs, h, _, hq, hl, hh, hf, j => by
    obtain ⟨c, r, rfl, h0, h1, hr⟩ := hf
    have ht := tm_nn hq.lines hl hh
    have ih := fits_bd s qs (lsL h q.1 c q.1.length) r hq.tail (by rw [lsL_len]; exact hl) (okH_lsL hq.lines h0 h1 hh _) hr
    cases j with
    | zero => simp [iG]; omega
    | succ j => have := ih j; simpa [iG] using this

theorem okQ_getD {s : List Art} {qs : List PB} (hq : okQ s qs) {i : Nat} (hi : i < qs.length) : bOk s (qs.getD i ([], 0)).1 (qs.getD i ([], 0)).2 = true := by
  have : qs.getD i ([], 0) ∈ qs := by rw [List.getD_eq_getElem?_getD, List.getElem?_eq_getElem hi]; exact List.getElem_mem hi
  exact hq _ this

theorem gnK_bd {s : List Art} {qs : List PB} {cs : List Int} (hq : okQ s qs) (hc : ∀ j, 0 ≤ iG cs j ∧ iG cs j ≤ 20) : ∀ k, k ≤ qs.length → 0 ≤ gnK s qs cs k ∧ gnK s qs cs k ≤ 16000000 * k
  | 0, _ => by unfold gnK; omega
  | k + 1, hk => by
    have ih := gnK_bd hq hc k (by omega)
    have hg := gain_nn (okQ_getD hq (show k < qs.length by omega))
    have h1 := mul_bd (hc k).1 (hc k).2 hg.1 hg.2
    unfold gnK
    omega

theorem gnK_take (s : List Art) (qs : List PB) (cs : List Int) (j : Nat) : ∀ k, k ≤ j → gnK s (qs.take j) cs k = gnK s qs cs k
  | 0, _ => rfl
  | k + 1, hk => by
    have e : (qs.take j).getD k ([], 0) = qs.getD k ([], 0) := by
      rw [List.getD_eq_getElem?_getD, List.getElem?_take, if_pos (by omega), List.getD_eq_getElem?_getD]
    rw [gnK, gnK_take s qs cs j k (by omega), e, gnK]

/-- What all bundles gain is what their best choice gains. -/
theorem gain_best {s : List Art} {qs : List PB} {h : List Int} (hq : okQ s qs) (hl : h.length = s.length) (hh : okH h) : gnK s qs (bestQ s qs h).2 qs.length = (bestQ s qs h).1 := by
  have h1 := bestQ_fits qs h hq hl hh
  rw [gnK_all s qs _ (fits_len h1.1), h1.2.1]

/-- Without the last bundle not more is gained. -/
theorem gain_less {s : List Art} {qs : List PB} {h : List Int} {j : Nat} (hq : okQ s qs) (hl : h.length = s.length) (hh : okH h) (hj : qs.length = j + 1) :
    gnK s qs (bestQ s (qs.take j) h).2 j ≤ gnK s qs (bestQ s qs h).2 qs.length := by
  have hq1 : okQ s (qs.take j) := fun x hx => hq x (List.mem_of_mem_take hx)
  have e : qs = qs.take j ++ [qs[j]'(by omega)] := by
    conv => lhs; rw [← List.take_length (l := qs), hj, List.take_succ_eq_append_getElem (by omega)]
  have h1 := best_more (q := qs[j]'(by omega)) (by rw [← e]; exact hq) hl hh
  rw [← e] at h1
  have h2 := gain_best hq1 hl hh
  rw [List.length_take, hj, Nat.min_eq_left (Nat.le_succ j), gnK_take s qs _ j j (Nat.le_refl _)] at h2
  rw [gain_best hq hl hh, h2]; exact h1

/-! ### What pieces cost -/
def dotK (s : List Art) (f : Nat → Int) : Nat → Int
  | 0 => 0
  | n + 1 => dotK s f n + (aT s n).p * f n
theorem dotK_add (s : List Art) (f g : Nat → Int) : ∀ n, dotK s (fun i => f i + g i) n = dotK s f n + dotK s g n
  | 0 => rfl
  | n + 1 => by unfold dotK; rw [dotK_add s f g n, Int.mul_add]; omega
theorem dotK_mul (s : List Art) (c : Int) (f : Nat → Int) : ∀ n, dotK s (fun i => c * f i) n = c * dotK s f n
  | 0 => by simp [dotK]
  | n + 1 => by unfold dotK; rw [dotK_mul s c f n, Int.mul_add, Int.mul_left_comm]
theorem dotK_ext (s : List Art) {f g : Nat → Int} : ∀ n, (∀ i, i < n → f i = g i) → dotK s f n = dotK s g n
  | 0, _ => rfl
  | n + 1, h => by unfold dotK; rw [dotK_ext s n (fun i hi => h i (by omega)), h n (by omega)]
theorem dotK_zero (s : List Art) : ∀ n, dotK s (fun _ => 0) n = 0
  | 0 => rfl
  | n + 1 => by unfold dotK; rw [dotK_zero s n]; simp
theorem dotK_one (s : List Art) (a : Nat) (y : Int) : ∀ n, dotK s (fun i => if i = a then y else 0) n = if a < n then (aT s a).p * y else 0
  | 0 => by simp [dotK]
  | n + 1 => by
    unfold dotK
    rw [dotK_one s a y n]
    by_cases e : n = a
    · subst e; simp
    · by_cases h : a < n
      · rw [if_pos h, if_neg e, if_pos (by omega)]; simp
      · rw [if_neg h, if_neg e, if_neg (by omega)]; simp
theorem dotK_mono {s : List Art} (hs : vShop s = true) {f g : Nat → Int} : ∀ n, n ≤ s.length → (∀ i, i < n → f i ≤ g i) → dotK s f n ≤ dotK s g n
  | 0, _, _ => Int.le_refl _
  | n + 1, hn, h => by
    have ih := dotK_mono hs n (by omega) (fun i hi => h i (by omega))
    have hp := (vShop_all hs).1 n (by omega)
    have h1 : 1 ≤ (aT s n).p := by
      simp only [atOk, Bool.and_eq_true, wi_true] at hp
      omega
    have h2 : (aT s n).p * f n ≤ (aT s n).p * g n := Int.mul_le_mul_of_nonneg_left (h n (by omega)) (by omega)
    unfold dotK; omega

theorem totK_dot {s : List Art} {b : List (Int × Int)} (hb : vLines s.length b = true) : ∀ k, k ≤ b.length → totK s b k = dotK s (fun i => eqN (b.take k) i) s.length
  | 0, _ => by
    rw [dotK_ext (g := fun _ => 0) s s.length (fun i _ => (fil_zero b i).2.2), dotK_zero]; rfl
  | k + 1, hk => by
    have ih := totK_dot hb k (by omega)
    have h3 := lnOk_pr ((vLines_all hb).1 k (by omega))
    have h4 : (pA b k).toNat < s.length := by omega
    have e : dotK s (fun i => eqN (b.take (k + 1)) i) s.length = dotK s (fun i => eqN (b.take k) i + (if i = (pA b k).toNat then pB b k else 0)) s.length := by
      refine dotK_ext s _ fun i hi => ?_
      by_cases ei : pA b k = i
      · rw [eqN_yes (by omega) ei, if_pos (by omega)]
      · rw [eqN_no (by omega) ei, if_neg (by omega)]; omega
    rw [e, dotK_add, dotK_one, if_pos h4, ← ih]
    rfl

theorem gain_tot {s : List Art} {b : List (Int × Int)} {p : Int} (h : bOk s b p = true) : fGain s b p ≤ dotK s (fun i => eqN b i) s.length := by
  have hb := bOk_pr h
  have h1 := totK_dot (vCart_pr hb.1).2 b.length (Nat.le_refl _)
  have h2 := totK_bd hb.1 b.length (Nat.le_refl _)
  rw [List.take_length] at h1
  rw [fGain_yes h, ← h1]; omega

theorem val_need : ∀ (s : List Art) (qs : List PB) (cs : List Int), okQ s qs → (∀ j, 0 ≤ iG cs j) → valQ s qs cs ≤ dotK s (needQ qs cs) s.length
  | s, [], cs, _, _ => by
    rw [dotK_ext (g := fun _ => 0) s s.length (fun i _ => by simp [needQ]), dotK_zero]; simp [valQ]
  | s, q :: qs, [], _, _ => by
    rw [dotK_ext (g := fun _ => 0) s s.length (fun i _ => by simp [needQ]), dotK_zero]; simp [valQ]
  | s, q :: qs, c :: r, hq, hc => by
    have ih := val_need s qs r hq.tail (fun j => by have := hc (j + 1); simpa [iG] using this)
    have h0 : 0 ≤ c := by have := hc 0; simpa [iG] using this
    have hg := gain_tot (hq q List.mem_cons_self)
    have e : dotK s (needQ (q :: qs) (c :: r)) s.length = c * dotK s (fun i => eqN q.1 i) s.length + dotK s (needQ qs r) s.length := by
      rw [← dotK_mul, ← dotK_add]; rfl
    have h2 : c * fGain s q.1 q.2 ≤ c * dotK s (fun i => eqN q.1 i) s.length := Int.mul_le_mul_of_nonneg_left hg h0
    rw [e]
    show valQ s qs r + c * fGain s q.1 q.2 ≤ _
    omega

/-- No choice gains more than the cart costs. -/
theorem best_total {s : List Art} {c : List (Int × Int)} {qs : List PB} (hq : okQ s qs) (hc : vCart s c = true) : (bestQ s qs (hvL s.length c)).1 ≤ totK s c c.length := by
  have hl := hvL_len s.length c
  have hh := okH_hvL hc
  have h1 := bestQ_fits qs _ hq hl hh
  have hb := fits_bd s qs _ _ hq hl hh h1.1
  have h2 := val_need s qs _ hq (fun j => (hb j).1)
  have h3 := dotK_mono (vCart_pr hc).1 (f := needQ qs (bestQ s qs (hvL s.length c)).2) (g := fun i => eqN c i) s.length (Nat.le_refl _) (fun i hi => by
    have := (need_fit s qs _ _ hq hl hh h1.1 i (by rw [hl]; exact hi)).2
    rw [hvL_get c hi] at this; exact this)
  have h4 := totK_dot (vCart_pr hc).2 c.length (Nat.le_refl _)
  rw [List.take_length] at h4
  rw [h1.2.1, h4]; omega

end Go.Proofs.Ytomapdedajdkkab
