/- Plain laws: the reference's way to cut a text and to read a number; no program. Conditions: none. -/
import Derived.Test.YtdofpealmngmiaaGreatDoorPH
namespace Go.Proofs.YtdofpealmngmiaaGreatDoor
open Go.RowKit

/-- a text cut at a byte -/
def spl (c : UInt8) : List UInt8 → List (List UInt8)
  | [] => [[]]
  | b :: t => if b = c then [] :: spl c t else match spl c t with
    | [] => [[b]]
    | x :: xs => (b :: x) :: xs
theorem spl_ne (c : UInt8) (l : List UInt8) : spl c l ≠ [] := by
  cases l with
  | nil => simp [spl]
  | cons b t =>
    unfold spl
    split
    · simp
    · cases spl c t <;> simp
theorem spl_snoc (c b : UInt8) : ∀ (l : List UInt8) (out : List (List UInt8)) (p : List UInt8), spl c l = out ++ [p] → spl c (l ++ [b]) = if b = c then out ++ [p] ++ [[]] else out ++ [p ++ [b]]
  | [], out, p, h => by
    rw [spl] at h
    obtain ⟨rfl, rfl⟩ : out = [] ∧ p = [] := by
      cases out with
      | nil => simp at h; exact ⟨rfl, h⟩
      | cons x xs => simp at h
    rw [List.nil_append, spl, spl]
    by_cases hb : b = c <;> simp [hb]
  | a :: t, out, p, h => by
    have ih := spl_snoc c b t
    rw [List.cons_append, spl]
    rw [spl] at h
    by_cases ha : a = c
    · rw [if_pos ha] at h ⊢
      cases out with
      | nil =>
        rw [List.nil_append] at h
        have := List.cons.inj h
        exact absurd this.2 (spl_ne c t)
      | cons x xs =>
        have := List.cons.inj h
        rw [ih xs p this.2, ← this.1]
        by_cases hb : b = c <;> simp [hb]
    · rw [if_neg ha] at h ⊢
      cases hs : spl c t with
      | nil => exact absurd hs (spl_ne c t)
      | cons x xs =>
        rw [hs] at h
        cases out with
        | nil =>
          have := List.cons.inj h
          obtain ⟨rfl, rfl⟩ := this
          rw [ih [] x hs]
          by_cases hb : b = c <;> simp [hb]
        | cons y ys =>
          have := List.cons.inj h
          obtain ⟨rfl, rfl⟩ := this
          rw [ih (x :: ys) p hs]
          by_cases hb : b = c <;> simp [hb]
theorem spl_clean (c : UInt8) : ∀ (x : List UInt8), (∀ b ∈ x, b ≠ c) → spl c x = [x]
  | [], _ => rfl
  | b :: t, h => by rw [spl, if_neg (h b (by simp)), spl_clean c t (fun z hz => h z (by simp [hz]))]
theorem spl_at (c : UInt8) : ∀ (x r : List UInt8), (∀ b ∈ x, b ≠ c) → spl c (x ++ c :: r) = x :: spl c r
  | [], r, _ => by rw [List.nil_append, spl, if_pos rfl]
  | b :: t, r, h => by rw [List.cons_append, spl, if_neg (h b (by simp)), spl_at c t r (fun z hz => h z (by simp [hz]))]
theorem spl_tl : ∀ (ws : List (List UInt8)) (x : List UInt8), (∀ b ∈ x, b ≠ 32) → (∀ w ∈ ws, Cl w) → spl 32 (x ++ tl ws) = x :: ws
  | [], x, hx, _ => by rw [tl_nil, List.append_nil, spl_clean 32 x hx]
  | w :: ws, x, hx, hw => by
    have e : x ++ tl (w :: ws) = x ++ 32 :: (w ++ tl ws) := by rw [tl_cons]; simp
    rw [e, spl_at 32 x _ hx, spl_tl ws w (hw w (by simp)).2 (fun v hv => hw v (by simp [hv]))]
theorem spl_text (r : Rl) : spl 32 (textR r) = dec r.num :: restW r := spl_tl _ _ (dec_cl _).2 (restW_cl r)
theorem spl_span (a b : Int) : spl 45 (spW a b) = [dec a, dec b] := by
  have hc : ∀ n : Int, ∀ x ∈ dec n, x ≠ 45 := fun n x hx e => by have := dec_digits n x hx; subst e; simp at this
  rw [show spW a b = dec a ++ 45 :: dec b from rfl, spl_at 45 _ _ (hc a), spl_clean 45 _ (hc b)]
theorem spl_len (c : UInt8) : ∀ (l : List UInt8), (spl c l).length ≤ l.length + 1 ∧ ∀ x ∈ spl c l, x.length ≤ l.length
  | [] => ⟨by simp [spl], by simp [spl]⟩
  | b :: t => by
    have ih := spl_len c t
    unfold spl
    split
    · refine ⟨by simp only [List.length_cons]; omega, fun x hx => ?_⟩
      rcases List.mem_cons.1 hx with rfl | hx
      · simp
      · have := ih.2 x hx; simp only [List.length_cons]; omega
    · cases hs : spl c t with
      | nil => exact absurd hs (spl_ne c t)
      | cons y ys =>
        rw [hs] at ih
        refine ⟨by simpa using Nat.le_succ_of_le ih.1, fun x hx => ?_⟩
        rcases List.mem_cons.1 hx with rfl | hx
        · have := ih.2 y (by simp); simp only [List.length_cons]; omega
        · have := ih.2 x (by simp [hx]); simp only [List.length_cons]; omega

/-! ### Numbers -/
def isD (b : UInt8) : Bool := decide (48 ≤ b.toNat) && decide (b.toNat ≤ 57)
/-- the value of digits -/
def dvl (T : List UInt8) : Nat := T.foldl (fun a b => a * 10 + (b.toNat - 48)) 0
theorem dvl_snoc (T : List UInt8) (b : UInt8) : dvl (T ++ [b]) = dvl T * 10 + (b.toNat - 48) := by simp [dvl, List.foldl_append]
theorem dvl_lt : ∀ (k : Nat) (T : List UInt8), T.length = k → (∀ b ∈ T, isD b = true) → dvl T < 10 ^ k := by
  intro k
  induction k with
  | zero => intro T h _; rw [List.length_eq_zero_iff.1 h]; simp [dvl]
  | succ k ih =>
    intro T h hd
    have hne : T ≠ [] := by intro e; subst e; simp at h
    obtain ⟨T', b, rfl⟩ : ∃ T' b, T = T' ++ [b] := ⟨T.dropLast, T.getLast hne, (List.dropLast_concat_getLast hne).symm⟩
    rw [dvl_snoc]
    have h1 := ih T' (by simpa using h) (fun x hx => hd x (by simp [hx]))
    have h2 := hd b (by simp)
    simp only [isD, Bool.and_eq_true, decide_eq_true_eq] at h2
    rw [Nat.pow_succ]
    omega
/-- the number that a text is, -1 for others -/
def pI (T : List UInt8) : Int := if T = [] ∨ 7 < T.length then -1 else if T.all isD then (if dec (dvl T : Int) = T then (dvl T : Int) else -1) else -1

theorem dvl_digits : ∀ (m n : Nat), n < 10 ^ m → dvl (Go.Lib.decDigits n) = n
  | 0, n, h => by
    have h0 : n = 0 := by simpa using h
    subst h0
    rw [Go.Lib.decDigits, dif_pos (by omega)]
    rfl
  | m + 1, n, h => by
    rw [Go.Lib.decDigits]
    by_cases h10 : n < 10
    · rw [dif_pos h10]
      simp only [dvl, List.foldl_cons, List.foldl_nil, Nat.zero_mul, Nat.zero_add]
      rw [UInt8.toNat_ofNat']
      omega
    · rw [dif_neg h10, dvl_snoc, dvl_digits m (n / 10) (by rw [Nat.pow_succ] at h; omega), UInt8.toNat_ofNat']
      omega
theorem pI_dec {n : Int} (h0 : 0 ≤ n) (h1 : n ≤ 1000000) : pI (dec n) = n := by
  obtain ⟨m, rfl⟩ := Int.eq_ofNat_of_zero_le h0
  have hv : dvl (dec (m : Int)) = m := by unfold dec; rw [Int.toNat_natCast]; exact dvl_digits m m (pow_big m)
  have hl : (dec (m : Int)).length ≤ 7 := by
    have key : ∀ (k m : Nat), m < 10 ^ (k + 1) → (Go.Lib.decDigits m).length ≤ k + 1 := by
      intro k
      induction k with
      | zero => intro m h; rw [Go.Lib.decDigits, dif_pos (by simpa using h)]; simp
      | succ k ih =>
        intro m h
        rw [Go.Lib.decDigits]
        by_cases h10 : m < 10
        · rw [dif_pos h10]; simp
        · rw [dif_neg h10, List.length_append]
          have := ih (m / 10) (by rw [Nat.pow_succ] at h; omega)
          simp only [List.length_singleton]
          omega
    have := key 6 m (by omega)
    unfold dec
    rw [Int.toNat_natCast]
    exact this
  have hd : (dec (m : Int)).all isD = true := by
    rw [List.all_eq_true]
    intro x hx
    have := dec_digits (m : Int) x hx
    simp [isD, this]
  unfold pI
  rw [if_neg (by intro h; rcases h with h | h; exact dec_ne _ h; omega), hd, if_pos rfl, hv, if_pos rfl]

/-- what the reference's reading of a number, of a span, of a kind makes of the words that are left -/
def numV (ws : List (List UInt8)) : Int := match ws with
  | [] => -1
  | x :: _ => pI x
def spnV (ws : List (List UInt8)) : Int × Int := match ws with
  | [] => (-1, 0)
  | x :: _ => match spl 45 x with
    | [a, b] => (pI a, pI b)
    | _ => (-1, 0)
theorem numV_dec {n : Int} (h0 : 0 ≤ n) (h1 : n ≤ 1000000) (t : List (List UInt8)) : numV (dec n :: t) = n := pI_dec h0 h1
theorem spnV_span {a b : Int} (ha : 0 ≤ a ∧ a ≤ 1000000) (hb : 0 ≤ b ∧ b ≤ 1000000) (t : List (List UInt8)) : spnV (spW a b :: t) = (a, b) := by
  show (match spl 45 (spW a b) with | [a, b] => (pI a, pI b) | _ => (-1, 0)) = _
  rw [spl_span]
  show (pI (dec a), pI (dec b)) = _
  rw [pI_dec ha.1 ha.2, pI_dec hb.1 hb.2]

end Go.Proofs.YtdofpealmngmiaaGreatDoor
