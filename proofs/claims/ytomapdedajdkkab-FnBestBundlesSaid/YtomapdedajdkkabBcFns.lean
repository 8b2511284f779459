/- Plain laws on best choices: of an empty cart, of one bundle, of more bundles; no program. Conditions: none. -/
import Derived.Test.YtomapdedajdkkabBbFns
namespace Go.Proofs.Ytomapdedajdkkab
open Go.RowKit

/-- what a choice is: nonempty only where all is valid -/
theorem fits_zero : ∀ (s : List Art) (qs : List PB) (h cs : List Int), okQ s qs → h.length = s.length → (∀ i, i < h.length → iG h i = 0) → fits qs h cs → ∀ j, iG cs j = 0
  | _, [], _, cs, _, _, _, hf, j => by simp only [fits] at hf; subst hf; simp [iG]
  | s, q :: qs, h, _, hq, hl, hz, hf, j => by
    obtain ⟨c, r, rfl, h0, h1, hr⟩ := hf
    have hb := bOk_pr (hq q List.mem_cons_self)
    have hln := hq.lines
    have h3 := lnOk_pr ((vLines_all hln).1 0 hb.2.1)
    have h4 := tmN_le h q.1 q.1.length 0 hb.2.1
    rw [hz _ (by omega), Int.zero_ediv] at h4
    obtain rfl : c = 0 := by omega
    have hls : lsL h q.1 0 q.1.length = h := gLs_same fun i _ => by rw [Int.zero_mul]
    rw [hls] at hr
    have ih := fits_zero s qs h r hq.tail hl hz hr
    cases j with
    | zero => simp [iG]
    | succ j => have := ih j; simpa [iG] using this

theorem hvL_nil (n i : Nat) (h : i < n) : iG (hvL n []) i = 0 := by rw [hvL_get [] h]; rfl

theorem best_empty {s : List Art} {qs : List PB} (hq : okQ s qs) (hc : vCart s [] = true) : ∀ j, iG (bestQ s qs (hvL s.length [])).2 j = 0 :=
  fits_zero s qs _ _ hq (hvL_len _ _) (fun i hi => by rw [hvL_len] at hi; exact hvL_nil _ i hi) (bestQ_fits qs _ hq (hvL_len _ _) (okH_hvL hc)).1

theorem best_len {s : List Art} {c : List (Int × Int)} {qs : List PB} (hq : okQ s qs) (hc : vCart s c = true) : (bestQ s qs (hvL s.length c)).2.length = qs.length :=
  fits_len (bestQ_fits qs _ hq (hvL_len _ _) (okH_hvL hc)).1

/-- One bundle is taken as often as it can be. -/
theorem lpQ_one (F : Int → Int × List Int) (g N : Int) (hg : 0 ≤ g) (hN : 0 ≤ N) (hF : ∀ c, F c = (0, [])) : ∀ j, lpQ F g N (j + 1) = (N * g, [N])
  | 0 => by
    unfold lpQ
    simp only [hF]
    have : 0 ≤ N * g := Int.mul_nonneg hN hg
    rw [if_pos (by show (-1 : Int) < _; simp; omega)]
    simp
  | j + 1 => by
    have ih := lpQ_one F g N hg hN hF j
    rw [lpQ, ih, if_neg]
    simp only [hF, Int.zero_add]
    have : (N - ((j + 1 : Nat) : Int)) * g ≤ N * g := Int.mul_le_mul_of_nonneg_right (by omega) hg
    omega

theorem best_one {s : List Art} {c : List (Int × Int)} {q : PB} (hq : bOk s q.1 q.2 = true) (hc : vCart s c = true) : (bestQ s [q] (hvL s.length c)).2 = [tmC s c q.1] := by
  have ht := tmC_bd hc (bOk_pr hq).1
  have hg := gain_nn hq
  have h1 := lpQ_one (fun c' => bestQ s [] (lsL (hvL s.length c) q.1 c' q.1.length)) (fGain s q.1 q.2) (tmN (hvL s.length c) q.1 q.1.length) hg.1 ht.1 (fun _ => rfl) (tmN (hvL s.length c) q.1 q.1.length).toNat
  show (lpQ _ _ _ _).2 = _
  rw [h1]; rfl

/-- A choice without the last bundle is a choice that takes none of the last. -/
theorem fits_snoc : ∀ (s : List Art) (qs : List PB) (q : PB) (h cs : List Int), okQ s (qs ++ [q]) → h.length = s.length → okH h → fits qs h cs → fits (qs ++ [q]) h (cs ++ [0]) ∧ valQ s (qs ++ [q]) (cs ++ [0]) = valQ s qs cs
  | s, [], q, h, cs, hq, hl, hh, hf => by
    simp only [fits] at hf
    subst hf
    have := tm_nn (hq.lines) hl hh
    exact ⟨⟨0, [], rfl, Int.le_refl _, this.1, rfl⟩, by simp [valQ]⟩
  | s, p :: qs, q, h, _, hq, hl, hh, hf => by
    obtain ⟨c, r, rfl, h0, h1, hr⟩ := hf
    have hln := hq.lines
    have ih := fits_snoc s qs q (lsL h p.1 c p.1.length) r hq.tail (by rw [lsL_len]; exact hl) (okH_lsL hln h0 h1 hh _) hr
    exact ⟨⟨c, r ++ [0], rfl, h0, h1, ih.1⟩, by show valQ s (qs ++ [q]) (r ++ [0]) + _ = valQ s qs r + _; rw [ih.2]⟩

theorem best_more {s : List Art} {qs : List PB} {q : PB} {h : List Int} (hq : okQ s (qs ++ [q])) (hl : h.length = s.length) (hh : okH h) : (bestQ s qs h).1 ≤ (bestQ s (qs ++ [q]) h).1 := by
  have hq1 : okQ s qs := fun x hx => hq x (List.mem_append_left _ hx)
  have h1 := bestQ_fits qs h hq1 hl hh
  have h2 := fits_snoc s qs q h _ hq hl hh h1.1
  have h3 := bestQ_max (qs ++ [q]) h _ hq hl hh h2.1
  rw [h1.2.1, ← h2.2]; exact h3

/-- what a choice of the first k bundles gains -/
def gnK (s : List Art) (qs : List PB) (cs : List Int) : Nat → Int
  | 0 => 0
  | k + 1 => gnK s qs cs k + iG cs k * fGain s (qs.getD k ([], 0)).1 (qs.getD k ([], 0)).2

theorem gnK_cons (s : List Art) (q : PB) (qs : List PB) (c : Int) (r : List Int) : ∀ k, gnK s (q :: qs) (c :: r) (k + 1) = c * fGain s q.1 q.2 + gnK s qs r k
  | 0 => by simp [gnK, iG]
  | k + 1 => by
    rw [gnK, gnK_cons s q qs c r k, gnK]
    have e1 : iG (c :: r) (k + 1) = iG r k := by simp [iG]
    have e2 : (q :: qs).getD (k + 1) ([], 0) = qs.getD k ([], 0) := by simp
    rw [e1, e2]; omega
theorem gnK_all (s : List Art) : ∀ (qs : List PB) (cs : List Int), cs.length = qs.length → gnK s qs cs qs.length = valQ s qs cs
  | [], cs, h => by obtain rfl : cs = [] := List.eq_nil_of_length_eq_zero h; rfl
  | q :: qs, [], h => by simp at h
  | q :: qs, c :: r, h => by
    rw [List.length_cons, gnK_cons, gnK_all s qs r (by simpa using h)]
    show _ = valQ s qs r + c * fGain s q.1 q.2
    omega

/-- one bundle alone -/
def aloneC (t : Int) : Nat → Nat → List Int
  | 0, _ => []
  | n + 1, 0 => t :: List.replicate n 0
  | n + 1, i + 1 => 0 :: aloneC t n i
theorem fits_none : ∀ (s : List Art) (qs : List PB) (h : List Int), okQ s qs → h.length = s.length → okH h → fits qs h (List.replicate qs.length 0) ∧ valQ s qs (List.replicate qs.length 0) = 0
  | _, [], _, _, _, _ => ⟨rfl, rfl⟩
  | s, q :: qs, h, hq, hl, hh => by
    have ht := tm_nn hq.lines hl hh
    have hls : lsL h q.1 0 q.1.length = h := gLs_same fun i _ => by rw [Int.zero_mul]
    have ih := fits_none s qs h hq.tail hl hh
    refine ⟨⟨0, List.replicate qs.length 0, rfl, Int.le_refl _, ht.1, by rw [hls]; exact ih.1⟩, ?_⟩
    show valQ s qs (List.replicate qs.length 0) + 0 * _ = 0
    rw [ih.2]; simp
theorem fits_alone : ∀ (s : List Art) (qs : List PB) (h : List Int) (i : Nat), okQ s qs → h.length = s.length → okH h → i < qs.length →
    fits qs h (aloneC (tmN h (qs.getD i ([], 0)).1 (qs.getD i ([], 0)).1.length) qs.length i) ∧ valQ s qs (aloneC (tmN h (qs.getD i ([], 0)).1 (qs.getD i ([], 0)).1.length) qs.length i) = tmN h (qs.getD i ([], 0)).1 (qs.getD i ([], 0)).1.length * fGain s (qs.getD i ([], 0)).1 (qs.getD i ([], 0)).2
  | _, [], _, _, _, _, _, hi => by simp at hi
  | s, q :: qs, h, 0, hq, hl, hh, _ => by
    have ht := tm_nn hq.lines hl hh
    have hn := fits_none s qs (lsL h q.1 (tmN h q.1 q.1.length) q.1.length) hq.tail (by rw [lsL_len]; exact hl) (okH_lsL hq.lines ht.1 (Int.le_refl _) hh _)
    refine ⟨⟨_, _, rfl, ht.1, Int.le_refl _, hn.1⟩, ?_⟩
    show valQ s qs (List.replicate qs.length 0) + _ = _
    rw [hn.2, Int.zero_add]; rfl
  | s, q :: qs, h, i + 1, hq, hl, hh, hi => by
    have ht := tm_nn hq.lines hl hh
    have hls : lsL h q.1 0 q.1.length = h := gLs_same fun i _ => by rw [Int.zero_mul]
    have ih := fits_alone s qs h i hq.tail hl hh (by simpa using hi)
    have e2 : (q :: qs).getD (i + 1) ([], 0) = qs.getD i ([], 0) := by simp
    rw [e2]
    refine ⟨⟨0, _, rfl, Int.le_refl _, ht.1, by rw [hls]; exact ih.1⟩, ?_⟩
    show valQ s qs _ + 0 * _ = _
    rw [Int.zero_mul, Int.add_zero]; exact ih.2
theorem best_alone {s : List Art} {qs : List PB} {h : List Int} (hq : okQ s qs) (hl : h.length = s.length) (hh : okH h) {i : Nat} (hi : i < qs.length) :
    tmN h (qs.getD i ([], 0)).1 (qs.getD i ([], 0)).1.length * fGain s (qs.getD i ([], 0)).1 (qs.getD i ([], 0)).2 ≤ (bestQ s qs h).1 := by
  have h1 := fits_alone s qs h i hq hl hh hi
  rw [← h1.2]; exact bestQ_max qs h _ hq hl hh h1.1

/-- the pieces that a choice needs -/
def needQ : List PB → List Int → Nat → Int
  | q :: qs, c :: r, i => c * eqN q.1 i + needQ qs r i
  | _, _, _ => 0
theorem need_fit : ∀ (s : List Art) (qs : List PB) (h cs : List Int), okQ s qs → h.length = s.length → okH h → fits qs h cs → ∀ i, i < h.length → 0 ≤ needQ qs cs i ∧ needQ qs cs i ≤ iG h i
  | _, [], _, cs, _, _, hh, hf, i, hi => by simp only [fits] at hf; subst hf; exact ⟨Int.le_refl _, (hh i hi).1⟩
  | s, q :: qs, h, _, hq, hl, hh, hf, i, hi => by
    obtain ⟨c, r, rfl, h0, h1, hr⟩ := hf
    have ih := need_fit s qs (lsL h q.1 c q.1.length) r hq.tail (by rw [lsL_len]; exact hl) (okH_lsL hq.lines h0 h1 hh _) hr i (by rw [lsL_len]; exact hi)
    rw [lsL, gLs_get hi, List.take_length] at ih
    have h2 := fit_mul hq.lines h0 h1 hh hi
    show 0 ≤ c * eqN q.1 i + needQ qs r i ∧ c * eqN q.1 i + needQ qs r i ≤ iG h i
    omega

end Go.Proofs.Ytomapdedajdkkab
