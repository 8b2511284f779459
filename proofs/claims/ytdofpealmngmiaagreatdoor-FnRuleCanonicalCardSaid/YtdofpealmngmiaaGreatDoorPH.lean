/- Plain laws: the stages of the reading of a rule's text; no program. Conditions: none. -/
import Derived.Test.YtdofpealmngmiaaGreatDoorPG
namespace Go.Proofs.YtdofpealmngmiaaGreatDoor
open Go.RowKit

theorem okRu_num {r : Rl} (h : okRu r = true) : (1 ≤ r.num ∧ r.num ≤ 99) ∧ (0 ≤ r.lvl ∧ r.lvl ≤ 3) ∧ (0 ≤ r.rank ∧ r.rank ≤ 9) ∧ (-1 ≤ r.group ∧ r.group ≤ 2) ∧ (0 ≤ r.cap ∧ r.cap ≤ 1000000) ∧ ((0 ≤ r.lo ∧ r.lo ≤ 1000000) ∧ (0 ≤ r.hi ∧ r.hi ≤ 1000000)) ∧ r.counts.length = 3 ∧
    (∀ j, j < r.counts.length → (0 ≤ pA r.counts j ∧ pA r.counts j ≤ 1000000) ∧ (0 ≤ pB r.counts j ∧ pB r.counts j ≤ 1000000)) ∧ (0 ≤ r.coupon ∧ r.coupon ≤ 9) ∧ (r.kind = 1 ∨ r.kind = 2 ∨ r.kind = 3) ∧ (1 ≤ r.value ∧ r.value ≤ 1000000) := by
  have sp : ∀ a b : Int, okSp a b = true → (0 ≤ a ∧ a ≤ 1000000) ∧ (0 ≤ b ∧ b ≤ 1000000) := fun a b h => by
    simp only [okSp, Bool.and_eq_true, wi_true] at h
    omega
  simp only [okRu, okGd, okCn, Bool.and_eq_true, wi_true, List.all_eq_true, List.mem_range, decide_eq_true_eq] at h
  obtain ⟨⟨⟨⟨⟨⟨h1, h2⟩, h3⟩, h4⟩, h5⟩, ⟨h6, h7⟩, h8⟩, h9⟩ := h
  refine ⟨h1, h2, h3, h4, h5, sp _ _ h6, h7.2, fun j hj => sp _ _ (h7.1 j hj), h8, ?_, ?_⟩
  · unfold okVal at h9
    split at h9
    · omega
    · split at h9
      · omega
      · split at h9
        · omega
        · cases h9
  · unfold okVal at h9
    split at h9
    · rw [wi_true] at h9; omega
    · split at h9
      · rw [wi_true] at h9; omega
      · split at h9
        · rw [wi_true] at h9; omega
        · cases h9

theorem dec_len18 {n : Int} (h0 : 0 ≤ n) (h1 : n ≤ 1000000) : (dec n).length ≤ 18 := by
  obtain ⟨m, rfl⟩ := Int.eq_ofNat_of_zero_le h0
  have key : ∀ (k m : Nat), m < 10 ^ (k + 1) → (Lib.decDigits m).length ≤ k + 1 := by
    intro k
    induction k with
    | zero => intro m h; rw [Lib.decDigits, dif_pos (by simpa using h)]; simp
    | succ k ih =>
      intro m h
      rw [Lib.decDigits]
      by_cases h10 : m < 10
      · rw [dif_pos h10]; simp
      · rw [dif_neg h10, List.length_append]
        have := ih (m / 10) (by rw [Nat.pow_succ] at h; omega)
        simp only [List.length_singleton]
        omega
  have := key 9 m (by omega)
  unfold dec
  rw [Int.toNat_natCast]
  omega

/-- Whatever valid rule the text is of. -/
def Gh (T : List UInt8) (P : Rl → Prop) : Prop := ∀ r0, okRu r0 = true → textR r0 = T → P r0
theorem Gh.imp {T : List UInt8} {P Q : Rl → Prop} (h : Gh T P) (hi : ∀ r0, okRu r0 = true → textR r0 = T → P r0 → Q r0) : Gh T Q := fun r0 h1 h2 => hi r0 h1 h2 (h r0 h1 h2)

def all3 : List (Int × Int) := [(0, 1000000), (0, 1000000), (0, 1000000)]
/-- the words of one count -/
def cnt1 (c : List (Int × Int)) (k : Nat) : List (List UInt8) := if allSp (pA c k) (pB c k) then [] else [wCount, dec k, spW (pA c k) (pB c k)]
/-- the words of the counts from the k-th on -/
def cntD (c : List (Int × Int)) (k : Nat) : List (List UInt8) := match k with
  | 0 => cnt1 c 0 ++ (cnt1 c 1 ++ cnt1 c 2)
  | 1 => cnt1 c 1 ++ cnt1 c 2
  | 2 => cnt1 c 2
  | _ => []
theorem cntW_three (c : List (Int × Int)) : cntW c 3 = cntD c 0 := by simp [cntW, cntD, cnt1]
def rest1 (r : Rl) : List (List UInt8) := grpW r ++ (capW r ++ (totW r ++ (cntD r.counts 0 ++ cpnW r)))
theorem restW_rest {r : Rl} (h : okRu r = true) : restW r = headW r ++ rest1 r := by
  have h3 := (okRu_num h).2.2.2.2.2.2.1
  unfold restW rest1
  rw [h3, cntW_three]
  simp

/-- the next word is not z where no word of the list is -/
def nextNot (l : List (List UInt8)) (z : List UInt8) : Prop := ∀ x, l.head? = some x → x ≠ z
theorem next_app {a b : List (List UInt8)} {z : List UInt8} (ha : nextNot a z) (hb : nextNot b z) : nextNot (a ++ b) z := by
  cases a with
  | nil => exact hb
  | cons x t => intro y hy; exact ha y (by simpa using hy)
theorem next_cap (r : Rl) {z : List UInt8} (h : wCap ≠ z) : nextNot (capW r) z := by
  intro x hx; unfold capW at hx; split at hx
  · cases hx
  · cases hx; exact h
theorem next_tot (r : Rl) {z : List UInt8} (h : wTotal ≠ z) : nextNot (totW r) z := by
  intro x hx; unfold totW at hx; split at hx
  · cases hx
  · cases hx; exact h
theorem next_cnt1 (c : List (Int × Int)) (k : Nat) {z : List UInt8} (h : wCount ≠ z) : nextNot (cnt1 c k) z := by
  intro x hx; unfold cnt1 at hx; split at hx
  · cases hx
  · cases hx; exact h
theorem next_cntD (c : List (Int × Int)) (k : Nat) {z : List UInt8} (h : wCount ≠ z) : nextNot (cntD c k) z := by
  unfold cntD
  split
  · exact next_app (next_cnt1 _ _ h) (next_app (next_cnt1 _ _ h) (next_cnt1 _ _ h))
  · exact next_app (next_cnt1 _ _ h) (next_cnt1 _ _ h)
  · exact next_cnt1 _ _ h
  · intro x hx; cases hx
theorem next_cpn (r : Rl) {z : List UInt8} (h : wCoupon ≠ z) : nextNot (cpnW r) z := by
  intro x hx; unfold cpnW at hx; split at hx
  · cases hx
  · cases hx; exact h

/-! ### All texts: the words are no longer than the text -/
theorem splitK_len (sep : List UInt8) : ∀ (k : Nat) (s : List UInt8), ∀ x ∈ Lib.splitK sep 0 k s, x.length ≤ s.length
  | 0, s, x, hx => by simp only [Lib.splitK, List.mem_singleton] at hx; subst hx; exact Nat.le_refl _
  | k + 1, s, x, hx => by
    unfold Lib.splitK at hx
    split at hx
    · simp only [List.mem_singleton] at hx; subst hx; exact Nat.le_refl _
    · rcases List.mem_cons.1 hx with rfl | hx
      · simp only [List.length_take]; omega
      · have := splitK_len sep k _ x hx
        simp only [List.length_drop] at this
        omega
theorem words_len (T : List UInt8) : ∀ x ∈ wordsOf T, x.length ≤ T.length := splitK_len _ _ _
theorem cut_len (x : List UInt8) : (Lib.cut x [45]).1.length ≤ x.length ∧ (Lib.cut x [45]).2.1.length ≤ x.length := by
  unfold Lib.cut
  split
  · simp only [List.length_take, List.length_drop]; omega
  · simp

end Go.Proofs.YtdofpealmngmiaaGreatDoor
