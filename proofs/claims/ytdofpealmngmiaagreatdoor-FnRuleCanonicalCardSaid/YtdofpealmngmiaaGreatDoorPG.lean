/- Plain laws: a rule's text in pieces: its words, its numbers, its spans; no program. Conditions: none. -/
import Derived.Test.YtdofpealmngmiaaGreatDoorTX
import Derived.Lib.AtoiTie
import Derived.Lib.Split
import Derived.Lib.CutLaws
namespace Go.Proofs.YtdofpealmngmiaaGreatDoor
open Go.RowKit

/-! ### Numbers -/
theorem decFrom_snoc (d : UInt8) (k : Nat) (hd : Lib.digitVal d = some k) : ∀ (l : List UInt8) (acc : Nat), Lib.decFrom acc (l ++ [d]) = (Lib.decFrom acc l).map (fun m => m * 10 + k)
  | [], acc => by simp [Lib.decFrom, hd]
  | b :: r, acc => by
    rw [List.cons_append, Lib.decFrom, Lib.decFrom]
    cases Lib.digitVal b with
    | none => rfl
    | some v => exact decFrom_snoc d k hd r _
theorem digitVal_of (n : Nat) (h : n < 10) : Lib.digitVal (UInt8.ofNat (48 + n)) = some n := by
  match n, h with
  | 0, _ => rfl
  | 1, _ => rfl
  | 2, _ => rfl
  | 3, _ => rfl
  | 4, _ => rfl
  | 5, _ => rfl
  | 6, _ => rfl
  | 7, _ => rfl
  | 8, _ => rfl
  | 9, _ => rfl
theorem decFrom_digits : ∀ (m n : Nat), n < 10 ^ m → Lib.decFrom 0 (Lib.decDigits n) = some n
  | 0, n, h => by
    have h0 : n = 0 := by simpa using h
    subst h0
    rw [Lib.decDigits, dif_pos (by omega)]
    rfl
  | m + 1, n, h => by
    rw [Lib.decDigits]
    by_cases h10 : n < 10
    · rw [dif_pos h10]
      rw [Lib.decFrom, digitVal_of n h10]
      simp [Lib.decFrom]
    · rw [dif_neg h10, decFrom_snoc _ (n % 10) (digitVal_of _ (Nat.mod_lt _ (by omega))), decFrom_digits m (n / 10) (by rw [Nat.pow_succ] at h; omega)]
      simp only [Option.map_some, Option.some.injEq]
      omega
theorem atoi_dec (n : Nat) : Lib.atoi (dec (n : Int)) = some (n : Int) := by
  have hne := dec_ne (n : Int)
  have hd := dec_digits (n : Int)
  have hn : Lib.decNat (dec (n : Int)) = some n := by
    unfold Lib.decNat
    rw [if_neg (by simpa using hne)]
    show Lib.decFrom 0 (Lib.decDigits (n : Int).toNat) = _
    rw [Int.toNat_natCast]
    exact decFrom_digits n n (pow_big n)
  cases h : dec (n : Int) with
  | nil => exact absurd h hne
  | cons b r =>
    have hb := hd b (by rw [h]; simp)
    rw [Lib.atoi, if_neg, if_neg, ← h, hn]
    · rfl
    · intro e; rw [beq_iff_eq] at e; subst e; simp at hb
    · intro e; rw [beq_iff_eq] at e; subst e; simp at hb
theorem atoiAll_dec {n : Int} (h0 : 0 ≤ n) (hl : (dec n).length ≤ 18) : Lib.atoiAll (dec n) = .ok n := by
  obtain ⟨m, rfl⟩ := Int.eq_ofNat_of_zero_le h0
  rw [Lib.atoiAll_short _ hl, atoi_dec]
  rfl

/-! ### Words -/
theorem index_clean (c : UInt8) : ∀ (x r : List UInt8), (∀ b ∈ x, b ≠ c) → Lib.index (x ++ c :: r) [c] = (x.length : Int)
  | [], r, _ => by simp [Lib.index]
  | b :: t, r, h => by
    have hb : ¬ (c == b) = true := by rw [beq_iff_eq]; exact fun e => h b (by simp) e.symm
    have ih := index_clean c t r (fun z hz => h z (by simp [hz]))
    rw [List.cons_append, Lib.index, if_neg (by simpa [List.isPrefixOf] using hb), ih, if_neg (by simp)]
    simp
theorem index_no (c : UInt8) : ∀ (x : List UInt8), (∀ b ∈ x, b ≠ c) → Lib.index x [c] = -1
  | [], _ => by simp [Lib.index]
  | b :: t, h => by
    have hb : ¬ (c == b) = true := by rw [beq_iff_eq]; exact fun e => h b (by simp) e.symm
    have ih := index_no c t (fun z hz => h z (by simp [hz]))
    rw [Lib.index, if_neg (by simpa [List.isPrefixOf] using hb), ih]
    simp
/-- a text cut at the spaces -/
def wordsOf (T : List UInt8) : List (List UInt8) := Lib.split T [32]
theorem wordsOf_tl : ∀ (ws : List (List UInt8)) (x : List UInt8), (∀ b ∈ x, b ≠ 32) → (∀ w ∈ ws, Cl w) → wordsOf (x ++ tl ws) = x :: ws
  | [], x, hx, _ => by
    rw [tl_nil, List.append_nil]
    unfold wordsOf Lib.split
    rw [Lib.count_miss (index_no 32 x hx)]
    rfl
  | w :: ws, x, hx, hw => by
    have e : x ++ tl (w :: ws) = x ++ 32 :: (w ++ tl ws) := by rw [tl_cons]; simp
    have hi := index_clean 32 x (w ++ tl ws) hx
    have hdrop : (x ++ 32 :: (w ++ tl ws)).drop (x.length + 1) = w ++ tl ws := by simp [List.drop_append]
    have ih := wordsOf_tl ws w (hw w (by simp)).2 (fun v hv => hw v (by simp [hv]))
    rw [e]
    unfold wordsOf Lib.split at ih ⊢
    rw [Lib.count_hit (by simp) hi, Nat.add_comm 1, Lib.splitK, if_neg (by rw [hi]; simp), hi]
    simp only [Int.toNat_natCast, List.length_singleton, Nat.add_zero]
    rw [hdrop, ih]
    simp
theorem words_text (r : Rl) : wordsOf (textR r) = dec r.num :: restW r := wordsOf_tl _ _ (dec_cl _).2 (restW_cl r)
theorem words_ne (T : List UInt8) : wordsOf T ≠ [] := by
  unfold wordsOf Lib.split
  cases Lib.count T [32] with
  | zero => simp [Lib.splitK]
  | succ k => unfold Lib.splitK; split <;> simp
theorem words_nil : wordsOf [] = [[]] := by decide

/-! ### Spans -/
theorem cut_span (a b : Int) : Lib.cut (spW a b) [45] = (dec a, dec b, true) := by
  have hc : ∀ x ∈ dec a, x ≠ 45 := fun x hx e => by have := dec_digits a x hx; subst e; simp at this
  have hi := index_clean 45 (dec a) (dec b) hc
  unfold Lib.cut
  rw [show spW a b = dec a ++ 45 :: dec b from rfl, hi, if_pos (by omega)]
  simp [List.drop_append]

end Go.Proofs.YtdofpealmngmiaaGreatDoor
