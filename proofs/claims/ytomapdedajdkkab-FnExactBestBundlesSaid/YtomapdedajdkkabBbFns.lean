/- Plain laws on choosing bundles; no program. Conditions: none. -/
import Derived.Test.YtomapdedajdkkabTmFns
import Derived.Test.YtomapdedajdkkabTotFns
namespace Go.Proofs.Ytomapdedajdkkab
open Go.RowKit

/-- parts and a price -/
abbrev PB := List (Int × Int) × Int

/-- numbers less d at each place -/
def gLs (h : List Int) (d : Nat → Int) : List Int := (List.range h.length).map fun i : Nat => iG h i - d i
theorem gLs_len (h : List Int) (d : Nat → Int) : (gLs h d).length = h.length := by simp [gLs]
theorem gLs_get {h : List Int} {d : Nat → Int} {i : Nat} (hi : i < h.length) : iG (gLs h d) i = iG h i - d i := by
  unfold gLs
  rw [iG, List.getD_eq_getElem?_getD, List.getElem?_map, List.getElem?_range hi]
  rfl
theorem iG_ext {h k : List Int} (hl : h.length = k.length) (he : ∀ i, i < h.length → iG h i = iG k i) : h = k := by
  apply List.ext_getElem hl
  intro i h1 h2
  have := he i h1
  simpa [iG, List.getD, h1, h2] using this
theorem iG_set {h : List Int} {i j : Nat} {x : Int} (hj : j < h.length) : iG (h.set i x) j = if i = j then x else iG h j := by
  unfold iG
  rw [List.getD_eq_getElem?_getD, List.getElem?_set, List.getD_eq_getElem?_getD]
  by_cases e : i = j
  · subst e; simp [hj]
  · simp [e]
theorem gLs_set {h : List Int} {d e : Nat → Int} {i : Nat} {x : Int} (hi : i < h.length) (h1 : x = iG h i - e i) (h2 : ∀ j, j < h.length → j ≠ i → d j = e j) : (gLs h d).set i x = gLs h e := by
  refine iG_ext (by rw [List.length_set, gLs_len, gLs_len]) fun j hj => ?_
  rw [List.length_set, gLs_len] at hj
  rw [iG_set (by rw [gLs_len]; exact hj), gLs_get hj]
  by_cases e1 : i = j
  · subst e1; rw [if_pos rfl, gLs_get hi]; exact h1
  · rw [if_neg e1, gLs_get hj, h2 j hj (fun e => e1 e.symm)]
theorem gLs_ext {h : List Int} {d e : Nat → Int} (h2 : ∀ j, j < h.length → d j = e j) : gLs h d = gLs h e := by
  refine iG_ext (by rw [gLs_len, gLs_len]) fun j hj => ?_
  rw [gLs_len] at hj
  rw [gLs_get hj, gLs_get hj, h2 j hj]
theorem gLs_same {h : List Int} {d : Nat → Int} (h2 : ∀ j, j < h.length → d j = 0) : gLs h d = h := by
  refine iG_ext (gLs_len _ _) fun j hj => ?_
  rw [gLs_len] at hj
  rw [gLs_get hj, h2 j hj]; omega

/-- the pieces, c times the first k parts taken -/
def lsL (h : List Int) (b : List (Int × Int)) (c : Int) (k : Nat) : List Int := gLs h fun i : Nat => c * eqN (b.take k) i
/-- and the first k parts laid back -/
def mdL (h : List Int) (b : List (Int × Int)) (c : Int) (k : Nat) : List Int := gLs h fun i : Nat => c * (eqN b i - eqN (b.take k) i)
theorem lsL_len (h : List Int) (b : List (Int × Int)) (c : Int) (k : Nat) : (lsL h b c k).length = h.length := gLs_len _ _
theorem mdL_len (h : List Int) (b : List (Int × Int)) (c : Int) (k : Nat) : (mdL h b c k).length = h.length := gLs_len _ _
theorem lsL_zero (h : List Int) (b : List (Int × Int)) (c : Int) : lsL h b c 0 = h := gLs_same fun j _ => by rw [(fil_zero b j).2.2]; simp
theorem mdL_zero (h : List Int) (b : List (Int × Int)) (c : Int) : mdL h b c 0 = lsL h b c b.length := gLs_ext fun j _ => by rw [(fil_zero b j).2.2, List.take_length]; simp
theorem mdL_end (h : List Int) (b : List (Int × Int)) (c : Int) : mdL h b c b.length = h := gLs_same fun j _ => by rw [List.take_length, Int.sub_self, Int.mul_zero]
theorem lsL_step {h : List Int} {b : List (Int × Int)} {c : Int} {k i : Nat} (hk : k < b.length) (hi : pA b k = i) (hh : i < h.length) : (lsL h b c k).set i (iG (lsL h b c k) i - c * pB b k) = lsL h b c (k + 1) := by
  refine gLs_set hh ?_ fun j _ hj => ?_
  · rw [lsL, gLs_get hh, eqN_yes hk hi, Int.mul_add]; omega
  · rw [eqN_no hk (by rw [hi]; omega)]
theorem mdL_step {h : List Int} {b : List (Int × Int)} {c : Int} {k i : Nat} (hk : k < b.length) (hi : pA b k = i) (hh : i < h.length) : (mdL h b c k).set i (iG (mdL h b c k) i + c * pB b k) = mdL h b c (k + 1) := by
  refine gLs_set hh ?_ fun j _ hj => ?_
  · rw [mdL, gLs_get hh, eqN_yes hk hi, Int.mul_sub, Int.mul_sub, Int.mul_add]; omega
  · rw [eqN_no hk (by rw [hi]; omega)]

/-- pieces of a cart -/
def okH (h : List Int) : Prop := ∀ i, i < h.length → 0 ≤ iG h i ∧ iG h i ≤ 20
theorem okH_hvL {s : List Art} {c : List (Int × Int)} (hc : vCart s c = true) : okH (hvL s.length c) := by
  intro i hi
  rw [hvL_len] at hi
  rw [hvL_get c hi]
  exact eqN_all hc i
theorem eqN_part {n : Int} {b : List (Int × Int)} (hb : vLines n b = true) (a : Int) (k : Nat) : 0 ≤ eqN (b.take k) a ∧ eqN (b.take k) a ≤ eqN b a := by
  by_cases hx : ∃ j, j < b.length ∧ pA b j = a
  · obtain ⟨j, hj, rfl⟩ := hx
    have h3 := lnOk_pr ((vLines_all hb).1 j hj)
    rw [eqN_at hb hj]
    by_cases hkj : k ≤ j
    · rw [eqN_before hb hj k hkj]; omega
    · by_cases hkl : k ≤ b.length
      · have := eqN_upto hb hj (k - (j + 1)) (by omega)
        rw [show j + 1 + (k - (j + 1)) = k by omega] at this
        rw [this]; omega
      · rw [List.take_of_length_le (by omega), eqN_at hb hj]; omega
  · have h1 := eqN_not (fun j hj e => hx ⟨j, hj, e⟩) b.length (Nat.le_refl _)
    rw [List.take_length] at h1
    by_cases hkl : k ≤ b.length
    · rw [eqN_not (fun j hj e => hx ⟨j, hj, e⟩) k hkl]; omega
    · rw [List.take_of_length_le (by omega)]; omega
theorem fit_mul {n : Int} {h : List Int} {b : List (Int × Int)} (hb : vLines n b = true) {c : Int} (hc0 : 0 ≤ c) (hc : c ≤ tmN h b b.length) (hh : okH h) {i : Nat} (hi : i < h.length) : 0 ≤ c * eqN b i ∧ c * eqN b i ≤ iG h i := by
  by_cases hx : ∃ j, j < b.length ∧ pA b j = i
  · obtain ⟨j, hj, he⟩ := hx
    have h3 := lnOk_pr ((vLines_all hb).1 j hj)
    have h1 := tmN_le h b b.length j hj
    rw [← he, eqN_at hb hj]
    rw [he] at h1
    have h2 : c * pB b j ≤ iG h (i : Int).toNat := Int.mul_le_of_le_ediv (by omega) (by omega)
    rw [Int.toNat_natCast] at h2
    exact ⟨Int.mul_nonneg hc0 (by omega), h2⟩
  · have h1 := eqN_not (a := (i : Int)) (fun j hj e => hx ⟨j, hj, e⟩) b.length (Nat.le_refl _)
    rw [List.take_length] at h1
    rw [h1, Int.mul_zero]
    exact ⟨Int.le_refl _, (hh i hi).1⟩
theorem okH_lsL {n : Int} {h : List Int} {b : List (Int × Int)} (hb : vLines n b = true) {c : Int} (hc0 : 0 ≤ c) (hc : c ≤ tmN h b b.length) (hh : okH h) (k : Nat) : okH (lsL h b c k) := by
  intro i hi
  rw [lsL_len] at hi
  rw [lsL, gLs_get hi]
  have h1 := hh i hi
  have h2 := fit_mul hb hc0 hc hh hi
  have h3 := eqN_part hb (i : Int) k
  have h4 : 0 ≤ c * eqN (b.take k) i := Int.mul_nonneg hc0 h3.1
  have h5 : c * eqN (b.take k) i ≤ c * eqN b i := Int.mul_le_mul_of_nonneg_left h3.2 hc0
  omega
theorem okH_mdL {n : Int} {h : List Int} {b : List (Int × Int)} (hb : vLines n b = true) {c : Int} (hc0 : 0 ≤ c) (hc : c ≤ tmN h b b.length) (hh : okH h) (k : Nat) : okH (mdL h b c k) := by
  intro i hi
  rw [mdL_len] at hi
  rw [mdL, gLs_get hi, Int.mul_sub]
  have h1 := hh i hi
  have h2 := fit_mul hb hc0 hc hh hi
  have h3 := eqN_part hb (i : Int) k
  have h4 : 0 ≤ c * eqN (b.take k) i := Int.mul_nonneg hc0 h3.1
  have h5 : c * eqN (b.take k) i ≤ c * eqN b i := Int.mul_le_mul_of_nonneg_left h3.2 hc0
  omega

/-- the best of the counts N, N-1, .., N-j+1 -/
def lpQ (F : Int → Int × List Int) (g N : Int) : Nat → Int × List Int
  | 0 => (-1, [])
  | j + 1 => if (lpQ F g N j).1 < (F (N - j)).1 + (N - j) * g then ((F (N - j)).1 + (N - j) * g, (N - j) :: (F (N - j)).2) else lpQ F g N j
def bestQ (s : List Art) : List PB → List Int → Int × List Int
  | [], _ => (0, [])
  | q :: qs, h => lpQ (fun c => bestQ s qs (lsL h q.1 c q.1.length)) (fGain s q.1 q.2) (tmN h q.1 q.1.length) ((tmN h q.1 q.1.length).toNat + 1)

theorem lpQ_ge (F : Int → Int × List Int) (g N : Int) : ∀ j i : Nat, i < j → (F (N - i)).1 + (N - i) * g ≤ (lpQ F g N j).1
  | 0, _, hi => by omega
  | j + 1, i, hi => by
    unfold lpQ
    by_cases e : i = j
    · subst e
      split
      · exact Int.le_refl _
      · omega
    · have := lpQ_ge F g N j i (by omega)
      split
      · exact Int.le_trans this (by (try simp only); omega)
      · exact this
theorem lpQ_hit (F : Int → Int × List Int) (g N : Int) (h0 : ∀ i : Nat, (i : Int) ≤ N → 0 ≤ (F (N - i)).1 + (N - i) * g) : ∀ j : Nat, (j : Int) ≤ N → ∃ i : Nat, i ≤ j ∧ lpQ F g N (j + 1) = ((F (N - i)).1 + (N - i) * g, (N - i) :: (F (N - i)).2)
  | 0, hj => by
    exact ⟨0, Nat.le_refl _, if_pos (Int.lt_of_lt_of_le (by decide : (-1 : Int) < 0) (h0 0 hj))⟩
  | j + 1, hj => by
    obtain ⟨i, hi, he⟩ := lpQ_hit F g N h0 j (by omega)
    unfold lpQ
    split
    · exact ⟨j + 1, Nat.le_refl _, rfl⟩
    · exact ⟨i, by omega, he⟩

/-- all bundles are valid -/
def okQ (s : List Art) (qs : List PB) : Prop := ∀ q, q ∈ qs → bOk s q.1 q.2 = true
theorem okQ.tail {s : List Art} {q : PB} {qs : List PB} (h : okQ s (q :: qs)) : okQ s qs := fun x hx => h x (List.mem_cons_of_mem _ hx)
theorem okQ.lines {s : List Art} {q : PB} {qs : List PB} (h : okQ s (q :: qs)) : vLines s.length q.1 = true := (vCart_pr (bOk_pr (h q List.mem_cons_self)).1).2
theorem gain_nn {s : List Art} {c : List (Int × Int)} {p : Int} (h : bOk s c p = true) : 0 ≤ fGain s c p ∧ fGain s c p ≤ 800000 := by
  have := gain_bd (s := s) (c := c) (p := p)
  rw [fGain_yes h] at this ⊢
  omega
theorem tm_nn {s : List Art} {h : List Int} {b : List (Int × Int)} (hb : vLines s.length b = true) (hl : h.length = s.length) (hh : okH h) : 0 ≤ tmN h b b.length ∧ tmN h b b.length ≤ 20 := by
  refine ⟨tmN_low _ _ (fun i hi => ?_) _ (Nat.le_refl _), tmN_top _ _ _⟩
  have h3 := lnOk_pr ((vLines_all hb).1 i hi)
  exact ⟨(hh _ (by omega)).1, h3.2.2.1⟩

/-- a choice that takes each piece once -/
def fits : List PB → List Int → List Int → Prop
  | [], _, cs => cs = []
  | q :: qs, h, cs => ∃ c r, cs = c :: r ∧ 0 ≤ c ∧ c ≤ tmN h q.1 q.1.length ∧ fits qs (lsL h q.1 c q.1.length) r
def valQ (s : List Art) : List PB → List Int → Int
  | q :: qs, c :: r => valQ s qs r + c * fGain s q.1 q.2
  | _, _ => 0

theorem bestQ_fits {s : List Art} : ∀ (qs : List PB) (h : List Int), okQ s qs → h.length = s.length → okH h → fits qs h (bestQ s qs h).2 ∧ (bestQ s qs h).1 = valQ s qs (bestQ s qs h).2 ∧ 0 ≤ (bestQ s qs h).1 ∧ (bestQ s qs h).1 ≤ 16000000 * qs.length
  | [], _, _, _, _ => by simp [bestQ, fits, valQ]
  | q :: qs, h, hq, hl, hh => by
    have hln := hq.lines
    have htm := tm_nn hln hl hh
    have hg := gain_nn (hq q List.mem_cons_self)
    have ih : ∀ c, 0 ≤ c → c ≤ tmN h q.1 q.1.length → _ := fun c h0 h1 => bestQ_fits qs (lsL h q.1 c q.1.length) hq.tail (by rw [lsL_len]; exact hl) (okH_lsL hln h0 h1 hh _)
    obtain ⟨i, hi, he⟩ := lpQ_hit (fun c => bestQ s qs (lsL h q.1 c q.1.length)) (fGain s q.1 q.2) (tmN h q.1 q.1.length) (fun i hi => by
      have h1 := (ih (tmN h q.1 q.1.length - i) (by omega) (by omega)).2.2.1
      have h2 : 0 ≤ (tmN h q.1 q.1.length - i) * fGain s q.1 q.2 := Int.mul_nonneg (by omega) hg.1
      (try simp only); omega) (tmN h q.1 q.1.length).toNat (by omega)
    have h1 := ih (tmN h q.1 q.1.length - i) (by omega) (by omega)
    have h2 := mul_bd (a := tmN h q.1 q.1.length - i) (b := fGain s q.1 q.2) (m := 20) (n := 800000) (by omega) (by omega) hg.1 hg.2
    have e : bestQ s (q :: qs) h = _ := he
    rw [e]
    refine ⟨⟨_, _, rfl, by omega, by omega, h1.1⟩, ?_, ?_, ?_⟩
    · simp only [valQ]; rw [h1.2.1]
    · (try simp only); omega
    · simp only [List.length_cons]; omega

theorem bestQ_max {s : List Art} : ∀ (qs : List PB) (h cs : List Int), okQ s qs → h.length = s.length → okH h → fits qs h cs → valQ s qs cs ≤ (bestQ s qs h).1
  | [], _, _, _, _, _, hf => by simp only [fits] at hf; subst hf; simp [valQ, bestQ]
  | q :: qs, h, _, hq, hl, hh, hf => by
    obtain ⟨c, r, rfl, h0, h1, hr⟩ := hf
    have hln := hq.lines
    have htm := tm_nn hln hl hh
    have ih := bestQ_max qs (lsL h q.1 c q.1.length) r hq.tail (by rw [lsL_len]; exact hl) (okH_lsL hln h0 h1 hh _) hr
    have hge := lpQ_ge (fun c => bestQ s qs (lsL h q.1 c q.1.length)) (fGain s q.1 q.2) (tmN h q.1 q.1.length) ((tmN h q.1 q.1.length).toNat + 1) (tmN h q.1 q.1.length - c).toNat (by omega)
    rw [show tmN h q.1 q.1.length - ((tmN h q.1 q.1.length - c).toNat : Int) = c by omega] at hge
    show valQ s qs r + c * fGain s q.1 q.2 ≤ (lpQ (fun c => bestQ s qs (lsL h q.1 c q.1.length)) (fGain s q.1 q.2) (tmN h q.1 q.1.length) ((tmN h q.1 q.1.length).toNat + 1)).1
    (try simp only at hge)
    omega

theorem fits_len {qs : List PB} : ∀ {h cs : List Int}, fits qs h cs → cs.length = qs.length := by
  induction qs with
  | nil => intro h cs hf; simp only [fits] at hf; subst hf; rfl
  | cons q qs ih => intro h cs hf; obtain ⟨c, r, rfl, _, _, hr⟩ := hf; rw [List.length_cons, List.length_cons, ih hr]

end Go.Proofs.Ytomapdedajdkkab
