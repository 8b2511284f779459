/- Plain laws on how often parts are in a cart with a piece more; no program. Conditions: none. -/
import Derived.Test.YtomapdedajdkkaaTmFns
namespace Go.Proofs.Ytomapdedajdkkaa
open Go.RowKit

theorem eqN_cons (p : Int × Int) (c : List (Int × Int)) (x : Int) : eqN (p :: c) x = (if p.1 = x then p.2 else 0) + eqN c x := by
  unfold eqN
  rw [List.filter_cons]
  by_cases h : p.1 = x
  · simp [h]
  · simp [h]
theorem eqN_nil (x : Int) : eqN [] x = 0 := rfl
theorem eqN_append (c d : List (Int × Int)) (x : Int) : eqN (c ++ d) x = eqN c x + eqN d x := by
  induction c with
  | nil => simp [eqN_nil]
  | cons p c ih => rw [List.cons_append, eqN_cons, eqN_cons, ih]; omega
theorem eqN_ltgt (c : List (Int × Int)) (a : Int) : eqN (ltL c a) a = 0 ∧ eqN (gtL c a) a = 0 := by
  induction c with
  | nil => exact ⟨rfl, rfl⟩
  | cons p c ih =>
    have h1 : ltL (p :: c) a = if p.1 < a then p :: ltL c a else ltL c a := by unfold ltL; rw [List.filter_cons]; simp
    have h2 : gtL (p :: c) a = if a < p.1 then p :: gtL c a else gtL c a := by unfold gtL; rw [List.filter_cons]; simp
    rw [h1, h2]
    constructor
    · split
      · rw [eqN_cons, if_neg (by omega)]; omega
      · exact ih.1
    · split
      · rw [eqN_cons, if_neg (by omega)]; omega
      · exact ih.2
theorem eqN_other (c : List (Int × Int)) (a x : Int) (h : ¬ x = a) : eqN c x = eqN (ltL c a) x + eqN (gtL c a) x := by
  induction c with
  | nil => rfl
  | cons p c ih =>
    have h1 : ltL (p :: c) a = if p.1 < a then p :: ltL c a else ltL c a := by unfold ltL; rw [List.filter_cons]; simp
    have h2 : gtL (p :: c) a = if a < p.1 then p :: gtL c a else gtL c a := by unfold gtL; rw [List.filter_cons]; simp
    rw [h1, h2, eqN_cons, ih]
    by_cases h3 : p.1 < a
    · rw [if_pos h3, if_neg (show ¬ a < p.1 by omega), eqN_cons]
      generalize (if p.1 = x then p.2 else 0) = y
      omega
    · rw [if_neg h3]
      by_cases h4 : a < p.1
      · rw [if_pos h4, eqN_cons]
        generalize (if p.1 = x then p.2 else 0) = y
        omega
      · rw [if_neg h4, if_neg (show ¬ p.1 = x by omega)]; omega
theorem eqN_addL (c : List (Int × Int)) (a n x : Int) (hn : 0 ≤ n) : eqN c x ≤ eqN (addL c a n) x := by
  unfold addL
  rw [eqN_append, eqN_append, eqN_cons, eqN_nil]
  obtain ⟨h1, h2⟩ := eqN_ltgt c a
  by_cases h : x = a
  · subst h; rw [if_pos rfl, h1, h2]; omega
  · rw [if_neg (by simpa using fun e => h e.symm), eqN_other c a x h]; omega

theorem tmN_mono {h h' : List Int} {b : List (Int × Int)} (hb : ∀ i, i < b.length → iG h (pA b i).toNat ≤ iG h' (pA b i).toNat ∧ 1 ≤ pB b i) : ∀ k, k ≤ b.length → tmN h b k ≤ tmN h' b k
  | 0, _ => by unfold tmN; omega
  | k + 1, hk => by
    have h1 := tmN_mono hb k (by omega)
    have h2 := hb k (by omega)
    have h3 : iG h (pA b k).toNat / pB b k ≤ iG h' (pA b k).toNat / pB b k := Int.ediv_le_ediv (by omega) h2.1
    unfold tmN; omega

theorem tmC_add {s : List Art} {c b : List (Int × Int)} (hb : vCart s b = true) (a n : Int) (hn : 0 ≤ n) : tmC s c b ≤ tmC s (addL c a n) b := by
  refine tmN_mono (fun i hi => ?_) _ (Nat.le_refl _)
  rw [have_eq hb hi, have_eq hb hi]
  have h3 := lnOk_pr ((vLines_all (vCart_pr hb).2).1 i hi)
  exact ⟨eqN_addL c a n _ hn, h3.2.2.1⟩

theorem tmN_ones {h : List Int} {b : List (Int × Int)} (hb : ∀ i, i < b.length → iG h (pA b i).toNat = pB b i ∧ 1 ≤ pB b i) : ∀ k, k + 1 ≤ b.length → tmN h b (k + 1) = 1
  | 0, hk => by
    have h2 := hb 0 (by omega)
    unfold tmN
    rw [h2.1, Int.ediv_self (by omega)]
    unfold tmN; omega
  | k + 1, hk => by
    have h1 := tmN_ones hb k (by omega)
    have h2 := hb (k + 1) (by omega)
    rw [tmN, h1, h2.1, Int.ediv_self (by omega)]
    omega

theorem tmC_self {s : List Art} {b : List (Int × Int)} (hb : vCart s b = true) (hl : 0 < b.length) : tmC s b b = 1 := by
  have hs := tmN_ones (h := hvL s.length b) (b := b) (fun i hi => by
    rw [have_eq hb hi, eqN_at (vCart_pr hb).2 hi]
    have h3 := lnOk_pr ((vLines_all (vCart_pr hb).2).1 i hi)
    exact ⟨rfl, h3.2.2.1⟩) (b.length - 1) (by omega)
  rw [show b.length - 1 + 1 = b.length by omega] at hs
  exact hs

end Go.Proofs.Ytomapdedajdkkaa
