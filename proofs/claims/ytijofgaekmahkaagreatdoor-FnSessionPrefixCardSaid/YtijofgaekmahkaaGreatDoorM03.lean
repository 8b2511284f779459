/- Joined texts: Plain laws on the text of a rule: its spaces, its prefix; no program. Plain laws: a rule's text in pieces: its words, its numbers, its spans; no program. Plain laws: the stages of the reading of a rule's text; no program. Plain laws: an amount that is split by weights, and a rule's effect; no program. Conditions: none. -/
import Derived.Test.YtijofgaekmahkaaGreatDoorM02
import Derived.Lib.AtoiTie
import Derived.Lib.Split
import Derived.Lib.CutLaws
namespace Go.Proofs.YtijofgaekmahkaaGreatDoor
open Go.RowKit
theorem digits_clean : ∀ (m n : Nat), n < 10 ^ m → ∀ x ∈ Go.Lib.decDigits n, 48 ≤ x.toNat ∧ x.toNat ≤ 57
 | 0, n, h => by
   intro x hx
   have h0 : n = 0 := by simpa using h
   subst h0
   rw [Go.Lib.decDigits, dif_pos (by omega)] at hx
   simp at hx
   subst hx
   decide
 | m + 1, n, h => by
   intro x hx
   rw [Go.Lib.decDigits] at hx
   by_cases h10 : n < 10
   · rw [dif_pos h10] at hx
     simp only [List.mem_singleton] at hx
     subst hx
     rw [UInt8.toNat_ofNat']
     omega
   · rw [dif_neg h10, List.mem_append, List.mem_singleton] at hx
     rcases hx with hx | rfl
     · exact digits_clean m (n / 10) (by rw [Nat.pow_succ] at h; omega) x hx
     · rw [UInt8.toNat_ofNat']
       omega
theorem pow_big : ∀ n : Nat, n < 10 ^ n
 | 0 => by decide
 | n + 1 => by have := pow_big n; rw [Nat.pow_succ]; omega
theorem dec_digits (n : Int) : ∀ x ∈ dec n, 48 ≤ x.toNat ∧ x.toNat ≤ 57 := digits_clean n.toNat n.toNat (pow_big _)
theorem dec_ne (n : Int) : dec n ≠ [] := by
 unfold dec
 rw [Go.Lib.decDigits]
 split
 · simp
 · simp
def Cl (w : List UInt8) : Prop := w ≠ [] ∧ ∀ x ∈ w, x ≠ 32
theorem dec_cl (n : Int) : Cl (dec n) := ⟨dec_ne n, fun x hx e => by have := dec_digits n x hx; subst e; simp at this⟩
theorem spW_cl (a b : Int) : Cl (spW a b) := by
 refine ⟨by unfold spW; simp, fun x hx => ?_⟩
 unfold spW at hx
 rw [List.mem_append, List.mem_cons] at hx
 rcases hx with hx | rfl | hx
 · exact (dec_cl a).2 x hx
 · decide
 · exact (dec_cl b).2 x hx
theorem kindW_cl (k : Int) : Cl (kindW k) := by
 unfold kindW
 split
 · exact ⟨by simp, by decide⟩
 · split
   · exact ⟨by simp, by decide⟩
   · exact ⟨by simp, by decide⟩
theorem cntW_cl (c : List (Int × Int)) : ∀ k, ∀ w ∈ cntW c k, Cl w
 | 0 => by simp [cntW]
 | k + 1 => by
   intro w hw
   rw [cntW, List.mem_append] at hw
   rcases hw with hw | hw
   · exact cntW_cl c k w hw
   · split at hw
     · simp at hw
     · simp only [List.mem_cons, List.not_mem_nil, or_false] at hw
       rcases hw with rfl | rfl | rfl
       · exact ⟨by simp [wCount], by decide⟩
       · exact dec_cl _
       · exact spW_cl _ _
theorem restW_cl (r : Rl) : ∀ w ∈ restW r, Cl w := by
 intro w hw
 have k1 : Cl wLevel := ⟨by simp [wLevel], by decide⟩
 have k2 : Cl wRank := ⟨by simp [wRank], by decide⟩
 have k3 : Cl wGroup := ⟨by simp [wGroup], by decide⟩
 have k4 : Cl wCap := ⟨by simp [wCap], by decide⟩
 have k5 : Cl wTotal := ⟨by simp [wTotal], by decide⟩
 have k6 : Cl wCoupon := ⟨by simp [wCoupon], by decide⟩
 unfold restW at hw
 simp only [List.mem_append] at hw
 rcases hw with ((((hw | hw) | hw) | hw) | hw) | hw
 · simp only [headW, List.mem_cons, List.not_mem_nil, or_false] at hw
   rcases hw with rfl | rfl | rfl | rfl | rfl | rfl
   · exact k1
   · exact dec_cl _
   · exact k2
   · exact dec_cl _
   · exact kindW_cl _
   · exact dec_cl _
 · unfold grpW at hw
   split at hw
   · simp at hw
   · simp only [List.mem_cons, List.not_mem_nil, or_false] at hw
     rcases hw with rfl | rfl
     · exact k3
     · exact dec_cl _
 · unfold capW at hw
   split at hw
   · simp at hw
   · simp only [List.mem_cons, List.not_mem_nil, or_false] at hw
     rcases hw with rfl | rfl
     · exact k4
     · exact dec_cl _
 · unfold totW at hw
   split at hw
   · simp at hw
   · simp only [List.mem_cons, List.not_mem_nil, or_false] at hw
     rcases hw with rfl | rfl
     · exact k5
     · exact spW_cl _ _
 · exact cntW_cl _ _ _ hw
 · unfold cpnW at hw
   split at hw
   · simp at hw
   · simp only [List.mem_cons, List.not_mem_nil, or_false] at hw
     rcases hw with rfl | rfl
     · exact k6
     · exact dec_cl _
def plainR (r : Rl) : Rl := { r with group := -1, cap := 0, lo := 0, hi := 1000000, counts := [(0, 1000000), (0, 1000000), (0, 1000000)], coupon := 0 }
end Go.Proofs.YtijofgaekmahkaaGreatDoor

namespace Go.Proofs.YtijofgaekmahkaaGreatDoor
open Go.RowKit
theorem decFrom_snoc (d : UInt8) (k : Nat) (hd : Lib.digitVal d = some k) : ∀ (l : List UInt8) (acc : Nat), Lib.decFrom acc (l ++ [d]) = (Lib.decFrom acc l).map (fun m => m * 10 + k)
 | [], acc => by simp [Lib.decFrom, hd]
 | b :: r, acc => by
   rw [List.cons_append, Lib.decFrom, Lib.decFrom]
   cases Lib.digitVal b with
   | none => rfl
   | some v => exact decFrom_snoc d k hd r _
theorem digitVal_of (n : Nat) (h : n < 10) : Lib.digitVal (UInt8.ofNat (48 + n)) = some n := by
 match n, h with
 | 0, _ => rfl
 | 1, _ => rfl
 | 2, _ => rfl
 | 3, _ => rfl
 | 4, _ => rfl
 | 5, _ => rfl
 | 6, _ => rfl
 | 7, _ => rfl
 | 8, _ => rfl
 | 9, _ => rfl
theorem decFrom_digits : ∀ (m n : Nat), n < 10 ^ m → Lib.decFrom 0 (Lib.decDigits n) = some n
 | 0, n, h => by
   have h0 : n = 0 := by simpa using h
   subst h0
   rw [Lib.decDigits, dif_pos (by omega)]
   rfl
 | m + 1, n, h => by
   rw [Lib.decDigits]
   by_cases h10 : n < 10
   · rw [dif_pos h10]
     rw [Lib.decFrom, digitVal_of n h10]
     simp [Lib.decFrom]
   · rw [dif_neg h10, decFrom_snoc _ (n % 10) (digitVal_of _ (Nat.mod_lt _ (by omega))), decFrom_digits m (n / 10) (by rw [Nat.pow_succ] at h; omega)]
     simp only [Option.map_some, Option.some.injEq]
     omega
theorem atoi_dec (n : Nat) : Lib.atoi (dec (n : Int)) = some (n : Int) := by
 have hne := dec_ne (n : Int)
 have hd := dec_digits (n : Int)
 have hn : Lib.decNat (dec (n : Int)) = some n := by
   unfold Lib.decNat
   rw [if_neg (by simpa using hne)]
   show Lib.decFrom 0 (Lib.decDigits (n : Int).toNat) = _
   rw [Int.toNat_natCast]
   exact decFrom_digits n n (pow_big n)
 cases h : dec (n : Int) with
 | nil => exact absurd h hne
 | cons b r =>
   have hb := hd b (by rw [h]; simp)
   rw [Lib.atoi, if_neg, if_neg, ← h, hn]
   · rfl
   · intro e; rw [beq_iff_eq] at e; subst e; simp at hb
   · intro e; rw [beq_iff_eq] at e; subst e; simp at hb
theorem atoiAll_dec {n : Int} (h0 : 0 ≤ n) (hl : (dec n).length ≤ 18) : Lib.atoiAll (dec n) = .ok n := by
 obtain ⟨m, rfl⟩ := Int.eq_ofNat_of_zero_le h0
 rw [Lib.atoiAll_short _ hl, atoi_dec]
 rfl
theorem index_clean (c : UInt8) : ∀ (x r : List UInt8), (∀ b ∈ x, b ≠ c) → Lib.index (x ++ c :: r) [c] = (x.length : Int)
 | [], r, _ => by simp [Lib.index]
 | b :: t, r, h => by
   have hb : ¬ (c == b) = true := by rw [beq_iff_eq]; exact fun e => h b (by simp) e.symm
   have ih := index_clean c t r (fun z hz => h z (by simp [hz]))
   rw [List.cons_append, Lib.index, if_neg (by simpa [List.isPrefixOf] using hb), ih, if_neg (by simp)]
   simp
theorem index_no (c : UInt8) : ∀ (x : List UInt8), (∀ b ∈ x, b ≠ c) → Lib.index x [c] = -1
 | [], _ => by simp [Lib.index]
 | b :: t, h => by
   have hb : ¬ (c == b) = true := by rw [beq_iff_eq]; exact fun e => h b (by simp) e.symm
   have ih := index_no c t (fun z hz => h z (by simp [hz]))
   rw [Lib.index, if_neg (by simpa [List.isPrefixOf] using hb), ih]
   simp
def wordsOf (T : List UInt8) : List (List UInt8) := Lib.split T [32]
theorem wordsOf_tl : ∀ (ws : List (List UInt8)) (x : List UInt8), (∀ b ∈ x, b ≠ 32) → (∀ w ∈ ws, Cl w) → wordsOf (x ++ tl ws) = x :: ws
 | [], x, hx, _ => by
   rw [tl_nil, List.append_nil]
   unfold wordsOf Lib.split
   rw [Lib.count_miss (index_no 32 x hx)]
   rfl
 | w :: ws, x, hx, hw => by
   have e : x ++ tl (w :: ws) = x ++ 32 :: (w ++ tl ws) := by rw [tl_cons]; simp
   have hi := index_clean 32 x (w ++ tl ws) hx
   have hdrop : (x ++ 32 :: (w ++ tl ws)).drop (x.length + 1) = w ++ tl ws := by simp [List.drop_append]
   have ih := wordsOf_tl ws w (hw w (by simp)).2 (fun v hv => hw v (by simp [hv]))
   rw [e]
   unfold wordsOf Lib.split at ih ⊢
   rw [Lib.count_hit (by simp) hi, Nat.add_comm 1, Lib.splitK, if_neg (by rw [hi]; simp), hi]
   simp only [Int.toNat_natCast, List.length_singleton, Nat.add_zero]
   rw [hdrop, ih]
   simp
theorem words_text (r : Rl) : wordsOf (textR r) = dec r.num :: restW r := wordsOf_tl _ _ (dec_cl _).2 (restW_cl r)
theorem words_nil : wordsOf [] = [[]] := by decide
theorem cut_span (a b : Int) : Lib.cut (spW a b) [45] = (dec a, dec b, true) := by
 have hc : ∀ x ∈ dec a, x ≠ 45 := fun x hx e => by have := dec_digits a x hx; subst e; simp at this
 have hi := index_clean 45 (dec a) (dec b) hc
 unfold Lib.cut
 rw [show spW a b = dec a ++ 45 :: dec b from rfl, hi, if_pos (by omega)]
 simp [List.drop_append]
end Go.Proofs.YtijofgaekmahkaaGreatDoor

namespace Go.Proofs.YtijofgaekmahkaaGreatDoor
open Go.RowKit
theorem okRu_num {r : Rl} (h : okRu r = true) : (1 ≤ r.num ∧ r.num ≤ 99) ∧ (0 ≤ r.lvl ∧ r.lvl ≤ 3) ∧ (0 ≤ r.rank ∧ r.rank ≤ 9) ∧ (-1 ≤ r.group ∧ r.group ≤ 2) ∧ (0 ≤ r.cap ∧ r.cap ≤ 1000000) ∧ ((0 ≤ r.lo ∧ r.lo ≤ 1000000) ∧ (0 ≤ r.hi ∧ r.hi ≤ 1000000)) ∧ r.counts.length = 3 ∧
   (∀ j, j < r.counts.length → (0 ≤ pA r.counts j ∧ pA r.counts j ≤ 1000000) ∧ (0 ≤ pB r.counts j ∧ pB r.counts j ≤ 1000000)) ∧ (0 ≤ r.coupon ∧ r.coupon ≤ 9) ∧ (r.kind = 1 ∨ r.kind = 2 ∨ r.kind = 3) ∧ (1 ≤ r.value ∧ r.value ≤ 1000000) := by
 have sp : ∀ a b : Int, okSp a b = true → (0 ≤ a ∧ a ≤ 1000000) ∧ (0 ≤ b ∧ b ≤ 1000000) := fun a b h => by
   simp only [okSp, Bool.and_eq_true, wi_true] at h
   omega
 simp only [okRu, okGd, okCn, Bool.and_eq_true, wi_true, List.all_eq_true, List.mem_range, decide_eq_true_eq] at h
 obtain ⟨⟨⟨⟨⟨⟨h1, h2⟩, h3⟩, h4⟩, h5⟩, ⟨h6, h7⟩, h8⟩, h9⟩ := h
 refine ⟨h1, h2, h3, h4, h5, sp _ _ h6, h7.2, fun j hj => sp _ _ (h7.1 j hj), h8, ?_, ?_⟩
 · unfold okVal at h9
   split at h9
   · omega
   · split at h9
     · omega
     · split at h9
       · omega
       · cases h9
 · unfold okVal at h9
   split at h9
   · rw [wi_true] at h9; omega
   · split at h9
     · rw [wi_true] at h9; omega
     · split at h9
       · rw [wi_true] at h9; omega
       · cases h9
theorem dec_len18 {n : Int} (h0 : 0 ≤ n) (h1 : n ≤ 1000000) : (dec n).length ≤ 18 := by
 obtain ⟨m, rfl⟩ := Int.eq_ofNat_of_zero_le h0
 have key : ∀ (k m : Nat), m < 10 ^ (k + 1) → (Lib.decDigits m).length ≤ k + 1 := by
   intro k
   induction k with
   | zero => intro m h; rw [Lib.decDigits, dif_pos (by simpa using h)]; simp
   | succ k ih =>
     intro m h
     rw [Lib.decDigits]
     by_cases h10 : m < 10
     · rw [dif_pos h10]; simp
     · rw [dif_neg h10, List.length_append]
       have := ih (m / 10) (by rw [Nat.pow_succ] at h; omega)
       simp only [List.length_singleton]
       omega
 have := key 9 m (by omega)
 unfold dec
 rw [Int.toNat_natCast]
 omega
def Gh (T : List UInt8) (P : Rl → Prop) : Prop := ∀ r0, okRu r0 = true → textR r0 = T → P r0
theorem Gh.imp {T : List UInt8} {P Q : Rl → Prop} (h : Gh T P) (hi : ∀ r0, okRu r0 = true → textR r0 = T → P r0 → Q r0) : Gh T Q := fun r0 h1 h2 => hi r0 h1 h2 (h r0 h1 h2)
def all3 : List (Int × Int) := [(0, 1000000), (0, 1000000), (0, 1000000)]
def cnt1 (c : List (Int × Int)) (k : Nat) : List (List UInt8) := if allSp (pA c k) (pB c k) then [] else [wCount, dec k, spW (pA c k) (pB c k)]
def cntD (c : List (Int × Int)) (k : Nat) : List (List UInt8) := match k with
 | 0 => cnt1 c 0 ++ (cnt1 c 1 ++ cnt1 c 2)
 | 1 => cnt1 c 1 ++ cnt1 c 2
 | 2 => cnt1 c 2
 | _ => []
theorem cntW_three (c : List (Int × Int)) : cntW c 3 = cntD c 0 := by simp [cntW, cntD, cnt1]
def rest1 (r : Rl) : List (List UInt8) := grpW r ++ (capW r ++ (totW r ++ (cntD r.counts 0 ++ cpnW r)))
theorem restW_rest {r : Rl} (h : okRu r = true) : restW r = headW r ++ rest1 r := by
 have h3 := (okRu_num h).2.2.2.2.2.2.1
 unfold restW rest1
 rw [h3, cntW_three]
 simp
def nextNot (l : List (List UInt8)) (z : List UInt8) : Prop := ∀ x, l.head? = some x → x ≠ z
theorem next_app {a b : List (List UInt8)} {z : List UInt8} (ha : nextNot a z) (hb : nextNot b z) : nextNot (a ++ b) z := by
 cases a with
 | nil => exact hb
 | cons x t => intro y hy; exact ha y (by simpa using hy)
theorem next_cap (r : Rl) {z : List UInt8} (h : wCap ≠ z) : nextNot (capW r) z := by
 intro x hx; unfold capW at hx; split at hx
 · cases hx
 · cases hx; exact h
theorem next_tot (r : Rl) {z : List UInt8} (h : wTotal ≠ z) : nextNot (totW r) z := by
 intro x hx; unfold totW at hx; split at hx
 · cases hx
 · cases hx; exact h
theorem next_cnt1 (c : List (Int × Int)) (k : Nat) {z : List UInt8} (h : wCount ≠ z) : nextNot (cnt1 c k) z := by
 intro x hx; unfold cnt1 at hx; split at hx
 · cases hx
 · cases hx; exact h
theorem next_cntD (c : List (Int × Int)) (k : Nat) {z : List UInt8} (h : wCount ≠ z) : nextNot (cntD c k) z := by
 unfold cntD
 split
 · exact next_app (next_cnt1 _ _ h) (next_app (next_cnt1 _ _ h) (next_cnt1 _ _ h))
 · exact next_app (next_cnt1 _ _ h) (next_cnt1 _ _ h)
 · exact next_cnt1 _ _ h
 · intro x hx; cases hx
theorem next_cpn (r : Rl) {z : List UInt8} (h : wCoupon ≠ z) : nextNot (cpnW r) z := by
 intro x hx; unfold cpnW at hx; split at hx
 · cases hx
 · cases hx; exact h
theorem splitK_len (sep : List UInt8) : ∀ (k : Nat) (s : List UInt8), ∀ x ∈ Lib.splitK sep 0 k s, x.length ≤ s.length
 | 0, s, x, hx => by simp only [Lib.splitK, List.mem_singleton] at hx; subst hx; exact Nat.le_refl _
 | k + 1, s, x, hx => by
   unfold Lib.splitK at hx
   split at hx
   · simp only [List.mem_singleton] at hx; subst hx; exact Nat.le_refl _
   · rcases List.mem_cons.1 hx with rfl | hx
     · simp only [List.length_take]; omega
     · have := splitK_len sep k _ x hx
       simp only [List.length_drop] at this
       omega
theorem words_len (T : List UInt8) : ∀ x ∈ wordsOf T, x.length ≤ T.length := splitK_len _ _ _
theorem cut_len (x : List UInt8) : (Lib.cut x [45]).1.length ≤ x.length ∧ (Lib.cut x [45]).2.1.length ≤ x.length := by
 unfold Lib.cut
 split
 · simp only [List.length_take, List.length_drop]; omega
 · simp
end Go.Proofs.YtijofgaekmahkaaGreatDoor

namespace Go.Proofs.YtijofgaekmahkaaGreatDoor
open Go.RowKit
theorem sumT_take (l : List Int) : ∀ k, k ≤ l.length → sumT l k = (l.take k).sum
 | 0, _ => by simp [sumT]
 | k + 1, hk => by
   unfold sumT
   rw [sumT_take l k (by omega), List.take_succ_eq_append_getElem (by omega), List.sum_append]
   simp [iG, List.getD, show k < l.length by omega]
theorem sumT_all (l : List Int) : sumT l l.length = l.sum := by rw [sumT_take l _ (Nat.le_refl _), List.take_length]
theorem sum_put : ∀ (l : List Int) (i : Nat) (x : Int), i < l.length → (l.set i x).sum = l.sum - iG l i + x
 | [], i, x, h => by simp at h
 | a :: l, 0, x, _ => by simp [iG]; omega
 | a :: l, i + 1, x, h => by
   have ih := sum_put l i x (by simpa using h)
   simp [iG] at *
   omega
theorem sumT_put {l : List Int} {i : Nat} {x : Int} (h : i < l.length) : sumT (l.set i x) l.length = sumT l l.length - iG l i + x := by
 have := sumT_all (l.set i x)
 rw [List.length_set] at this
 rw [this, sumT_all, sum_put l i x h]
theorem iG_put {h : List Int} {i j : Nat} {x : Int} (hj : j < h.length) : iG (h.set i x) j = if i = j then x else iG h j := by
 unfold iG
 rw [List.getD_eq_getElem?_getD, List.getElem?_set, List.getD_eq_getElem?_getD]
 by_cases e : i = j
 · subst e; simp [hj]
 · simp [e]
theorem sumT_nn {l : List Int} : ∀ k, (∀ j, j < k → 0 ≤ iG l j) → 0 ≤ sumT l k
 | 0, _ => by simp [sumT]
 | k + 1, h => by
   have h1 := sumT_nn k (fun j hj => h j (by omega))
   have h2 := h k (by omega)
   unfold sumT
   omega
theorem sumT_ub {l : List Int} {b : Int} : ∀ k : Nat, (∀ j, j < k → iG l j ≤ b) → sumT l k ≤ b * k
 | 0, _ => by simp [sumT]
 | k + 1, h => by
   have h1 := sumT_ub k (fun j hj => h j (by omega))
   have h2 := h k (by omega)
   have h3 : b * ((k + 1 : Nat) : Int) = b * (k : Int) + b := by rw [Int.natCast_add, Int.mul_add]; simp
   unfold sumT
   omega
def posS (l : List Int) : Int := (l.map fun x => max x 0).sum
theorem posS_put : ∀ (l : List Int) (i : Nat), i < l.length → posS (l.set i (-1)) = posS l - max (iG l i) 0
 | [], i, h => by simp at h
 | a :: l, 0, _ => by simp [posS, iG]; omega
 | a :: l, i + 1, h => by
   have ih := posS_put l i (by simpa using h)
   simp [posS, iG] at *
   omega
theorem posS_no : ∀ (l : List Int), (∀ j, j < l.length → iG l j ≤ 0) → posS l = 0
 | [], _ => rfl
 | a :: l, h => by
   have ih := posS_no l (fun j hj => by have := h (j + 1) (by simpa using hj); simpa [iG] using this)
   have h0 := h 0 (by simp)
   simp [posS, iG] at *
   omega
theorem posS_sum : ∀ (l : List Int), (∀ j, j < l.length → 0 ≤ iG l j) → posS l = l.sum
 | [], _ => rfl
 | a :: l, h => by
   have ih := posS_sum l (fun j hj => by have := h (j + 1) (by simpa using hj); simpa [iG] using this)
   have h0 := h 0 (by simp)
   simp [posS, iG] at *
   omega
def argM (l : List Int) : Nat → Nat
 | 0 => 0
 | k + 1 => if iG l (argM l k) < iG l k then k else argM l k
theorem argM_one (l : List Int) : argM l 1 = 0 := by simp [argM]
theorem argM_yes {l : List Int} {k : Nat} (h : iG l (argM l k) < iG l k) : argM l (k + 1) = k := by unfold argM; rw [if_pos h]
theorem argM_no {l : List Int} {k : Nat} (h : ¬ iG l (argM l k) < iG l k) : argM l (k + 1) = argM l k := by
 show (if iG l (argM l k) < iG l k then k else argM l k) = argM l k
 rw [if_neg h]
theorem argM_le (l : List Int) : ∀ k, argM l k ≤ k - 1
 | 0 => by simp [argM]
 | k + 1 => by
   have := argM_le l k
   by_cases h : iG l (argM l k) < iG l k
   · rw [argM_yes h]; omega
   · rw [argM_no h]; omega
theorem argM_max (l : List Int) : ∀ k j, j < k → iG l j ≤ iG l (argM l k)
 | 0, j, h => absurd h (Nat.not_lt_zero _)
 | k + 1, j, hj => by
   by_cases h : iG l (argM l k) < iG l k
   · rw [argM_yes h]
     by_cases e : j = k
     · subst e; exact Int.le_refl _
     · have := argM_max l k j (by omega); omega
   · rw [argM_no h]
     by_cases e : j = k
     · subst e; omega
     · exact argM_max l k j (by omega)
def bump : Nat → List Int → List Int → List Int
 | 0, out, _ => out
 | n + 1, out, rs => bump n (out.set (argM rs rs.length) (iG out (argM rs rs.length) + 1)) (rs.set (argM rs rs.length) (-1))
def apF (a : Int) (ws : List Int) : List Int := (List.range ws.length).map fun k => (a * iG ws k).tdiv (sumT ws ws.length)
def apR (a : Int) (ws : List Int) : List Int := (List.range ws.length).map fun k => (a * iG ws k).tmod (sumT ws ws.length)
def appo (a : Int) (ws : List Int) : List Int :=
 if sumT ws ws.length = 0 then List.replicate ws.length 0 else bump (a - sumT (apF a ws) ws.length).toNat (apF a ws) (apR a ws)
theorem apF_len (a : Int) (ws : List Int) : (apF a ws).length = ws.length := by simp [apF]
theorem apR_len (a : Int) (ws : List Int) : (apR a ws).length = ws.length := by simp [apR]
theorem iG_range (f : Nat → Int) {n k : Nat} (hk : k < n) : iG ((List.range n).map f) k = f k := by
 rw [iG, List.getD_eq_getElem?_getD, List.getElem?_map, List.getElem?_range hk]
 rfl
theorem apF_get (a : Int) {ws : List Int} {k : Nat} (hk : k < ws.length) : iG (apF a ws) k = (a * iG ws k).tdiv (sumT ws ws.length) := iG_range _ hk
theorem apR_get (a : Int) {ws : List Int} {k : Nat} (hk : k < ws.length) : iG (apR a ws) k = (a * iG ws k).tmod (sumT ws ws.length) := iG_range _ hk
structure ApInv (ws : List Int) (all : Int) (n : Nat) (out rs : List Int) : Prop where
 lo : out.length = ws.length
 lr : rs.length = ws.length
 q : (n : Int) * all ≤ posS rs
 r : ∀ k, k < ws.length → iG rs k < all
 o : ∀ k, k < ws.length → 0 ≤ iG out k ∧ iG out k ≤ iG ws k ∧ (0 < iG rs k → iG out k < iG ws k)
theorem ApInv.step {ws : List Int} {all : Int} {n : Nat} {out rs : List Int} (h : ApInv ws all (n + 1) out rs) (ha : 0 < all) :
   argM rs rs.length < ws.length ∧ ApInv ws all n (out.set (argM rs rs.length) (iG out (argM rs rs.length) + 1)) (rs.set (argM rs rs.length) (-1)) := by
 have hq := h.q
 have e1 : ((n + 1 : Nat) : Int) * all = (n : Int) * all + all := by rw [Int.natCast_add, Int.add_mul]; simp
 have hn0 : 0 ≤ (n : Int) * all := Int.mul_nonneg (by omega) (by omega)
 have hpos : 0 < posS rs := by omega
 have hlr := h.lr
 have hl : 0 < rs.length := by
   cases hr : rs with
   | nil => rw [hr] at hpos; simp [posS] at hpos
   | cons a t => simp
 have hm : argM rs rs.length < rs.length := by have := argM_le rs rs.length; omega
 have hmp : 0 < iG rs (argM rs rs.length) := by
   apply Int.lt_of_not_ge
   intro hle
   have := posS_no rs (fun j hj => by have := argM_max rs rs.length j hj; omega)
   omega
 generalize argM rs rs.length = m at hm hmp ⊢
 have hr := h.r m (by omega)
 refine ⟨by omega, ⟨by rw [List.length_set]; exact h.lo, by rw [List.length_set]; exact h.lr, ?_, fun k hk => ?_, fun k hk => ?_⟩⟩
 · rw [posS_put _ _ hm]; omega
 · rw [iG_put (by omega)]
   split
   · omega
   · exact h.r k hk
 · have ho := h.o k hk
   rw [iG_put (by rw [h.lo]; exact hk), iG_put (by omega)]
   by_cases e : m = k
   · subst e
     rw [if_pos rfl, if_pos rfl]
     have := ho.2.2 hmp
     omega
   · rw [if_neg e, if_neg e]; exact ho
theorem ApInv.done {ws : List Int} {all : Int} (ha : 0 < all) : ∀ {n : Nat} {out rs : List Int}, ApInv ws all n out rs → (bump n out rs).length = ws.length ∧ ∀ k, k < ws.length → 0 ≤ iG (bump n out rs) k ∧ iG (bump n out rs) k ≤ iG ws k
 | 0, out, rs, h => ⟨h.lo, fun k hk => ⟨(h.o k hk).1, (h.o k hk).2.1⟩⟩
 | n + 1, out, rs, h => by
   show (bump n _ _).length = _ ∧ _
   exact (h.step ha).2.done ha
theorem ap_sum (a : Int) (ws : List Int) : ∀ k, k ≤ ws.length → a * sumT ws k = sumT ws ws.length * sumT (apF a ws) k + sumT (apR a ws) k
 | 0, _ => by simp [sumT]
 | k + 1, hk => by
   have ih := ap_sum a ws k (by omega)
   have h1 := Int.mul_tdiv_add_tmod (a * iG ws k) (sumT ws ws.length)
   show a * (sumT ws k + iG ws k) = sumT ws ws.length * (sumT (apF a ws) k + iG (apF a ws) k) + (sumT (apR a ws) k + iG (apR a ws) k)
   rw [apF_get a (by omega), apR_get a (by omega), Int.mul_add, Int.mul_add, ih]
   omega
theorem ap_inv {a : Int} {ws : List Int} (h0 : 0 ≤ a) (h1 : a ≤ sumT ws ws.length) (hp : 0 < sumT ws ws.length) (hw : ∀ k, k < ws.length → 0 ≤ iG ws k) :
   sumT (apF a ws) ws.length ≤ a ∧ ApInv ws (sumT ws ws.length) (a - sumT (apF a ws) ws.length).toNat (apF a ws) (apR a ws) := by
 have hsum := ap_sum a ws ws.length (Nat.le_refl _)
 have hk : ∀ k, k < ws.length → (0 ≤ iG (apF a ws) k ∧ iG (apF a ws) k ≤ iG ws k ∧ (0 < iG (apR a ws) k → iG (apF a ws) k < iG ws k)) ∧ 0 ≤ iG (apR a ws) k ∧ iG (apR a ws) k < sumT ws ws.length := by
   intro k hk
   have hw0 := hw k hk
   rw [apF_get a hk, apR_get a hk]
   generalize sumT ws ws.length = S at h1 hp
   generalize iG ws k = x at hw0
   have hm : 0 ≤ a * x := Int.mul_nonneg h0 hw0
   have hm2 : a * x ≤ S * x := Int.mul_le_mul_of_nonneg_right h1 hw0
   rw [Int.tdiv_eq_ediv_of_nonneg hm, Int.tmod_eq_emod_of_nonneg hm]
   have e := Int.mul_ediv_add_emod (a * x) S
   have r0 := Int.emod_nonneg (a * x) (Int.ne_of_gt hp)
   have r1 := Int.emod_lt_of_pos (a * x) hp
   have d0 := Int.ediv_nonneg hm (Int.le_of_lt hp)
   have d1 : a * x / S ≤ x := Int.ediv_le_of_le_mul hp (by rw [Int.mul_comm x]; exact hm2)
   refine ⟨⟨d0, d1, fun hr => ?_⟩, r0, r1⟩
   apply Int.lt_of_not_ge
   intro hge
   have e2 : a * x / S = x := by omega
   rw [e2] at e
   omega
 have hR : 0 ≤ sumT (apR a ws) ws.length := sumT_nn _ fun j hj => (hk j hj).2.1
 have hF : sumT (apF a ws) ws.length ≤ a := by
   apply Int.le_of_not_gt
   intro hgt
   have := Int.mul_lt_mul_of_pos_left hgt hp
   rw [Int.mul_comm a] at hsum
   omega
 refine ⟨hF, ⟨apF_len _ _, apR_len _ _, ?_, fun k h => (hk k h).2.2, fun k h => (hk k h).1⟩⟩
 rw [posS_sum _ (fun j hj => (hk j (by rw [apR_len] at hj; exact hj)).2.1), ← sumT_all, apR_len, Int.toNat_of_nonneg (by omega), Int.sub_mul, Int.mul_comm (sumT (apF a ws) ws.length)]
 omega
theorem appo_bd {a : Int} {ws : List Int} (h0 : 0 ≤ a) (h1 : a ≤ sumT ws ws.length) (hw : ∀ k, k < ws.length → 0 ≤ iG ws k) :
   (appo a ws).length = ws.length ∧ ∀ k, k < ws.length → 0 ≤ iG (appo a ws) k ∧ iG (appo a ws) k ≤ iG ws k := by
 unfold appo
 by_cases hz : sumT ws ws.length = 0
 · rw [if_pos hz]
   refine ⟨by simp, fun k hk => ?_⟩
   have e : iG (List.replicate ws.length 0) k = 0 := by simp [iG, List.getD, hk]
   rw [e]
   exact ⟨Int.le_refl _, hw k hk⟩
 · rw [if_neg hz]
   have hp : 0 < sumT ws ws.length := by have := sumT_nn ws.length hw; omega
   exact (ap_inv h0 h1 hp hw).2.done hp
def meaL (s : List Art) (r : Rl) (c : List (Int × Int)) (left : List Int) : List Int :=
 (List.range c.length).map fun k => if r.group = -1 ∨ (aT s (pA c k).toNat).g = r.group then iG left k else 0
def wisK (s : List Art) (r : Rl) (c : List (Int × Int)) (left : List Int) : List Int :=
 (List.range c.length).map fun k => if r.kind = 1 then (iG (meaL s r c left) k * r.value).tdiv 1000 else min (iG (meaL s r c left) k) ((pB c k).tdiv r.value * (aT s (pA c k).toNat).p)
def wisL (s : List Art) (r : Rl) (c : List (Int × Int)) (left : List Int) : List Int :=
 if r.kind = 2 then appo (min r.value (sumT (meaL s r c left) c.length)) (meaL s r c left) else wisK s r c left
def effL (s : List Art) (r : Rl) (c : List (Int × Int)) (left : List Int) : List Int :=
 if r.cap ≠ 0 ∧ r.cap < sumT (wisL s r c left) c.length then appo r.cap (wisL s r c left) else wisL s r c left
theorem meaL_len (s : List Art) (r : Rl) (c : List (Int × Int)) (left : List Int) : (meaL s r c left).length = c.length := by simp [meaL]
theorem meaL_get (s : List Art) (r : Rl) {c : List (Int × Int)} (left : List Int) {k : Nat} (hk : k < c.length) : iG (meaL s r c left) k = if r.group = -1 ∨ (aT s (pA c k).toNat).g = r.group then iG left k else 0 := iG_range _ hk
theorem wisK_len (s : List Art) (r : Rl) (c : List (Int × Int)) (left : List Int) : (wisK s r c left).length = c.length := by simp [wisK]
theorem wisK_get (s : List Art) (r : Rl) {c : List (Int × Int)} (left : List Int) {k : Nat} (hk : k < c.length) : iG (wisK s r c left) k = if r.kind = 1 then (iG (meaL s r c left) k * r.value).tdiv 1000 else min (iG (meaL s r c left) k) ((pB c k).tdiv r.value * (aT s (pA c k).toNat).p) := iG_range _ hk
def LeftOk (s : List Art) (c : List (Int × Int)) (left : List Int) : Prop := left.length = c.length ∧ ∀ k, k < c.length → 0 ≤ iG left k ∧ iG left k ≤ amt s c k
theorem left_start (s : List Art) (c : List (Int × Int)) (h : vCart s c = true) : LeftOk s c (amK s c c.length) :=
 ⟨amK_len s c _, fun k hk => by rw [amK_get s c _ k hk]; have := amt_bd h hk; omega⟩
theorem okRu_parts {r : Rl} (h : okRu r = true) : 1 ≤ r.num ∧ r.num ≤ 99 ∧ 0 ≤ r.cap ∧ r.cap ≤ 1000000 ∧ ((r.kind = 1 ∧ 1 ≤ r.value ∧ r.value ≤ 1000) ∨ (r.kind = 2 ∧ 1 ≤ r.value ∧ r.value ≤ 1000000) ∨ (r.kind = 3 ∧ 2 ≤ r.value ∧ r.value ≤ 20)) ∧ 0 ≤ r.lvl ∧ r.lvl ≤ 3 ∧ 0 ≤ r.rank ∧ r.rank ≤ 9 ∧ -1 ≤ r.group ∧ r.group ≤ 2 := by
 unfold okRu at h
 simp only [Bool.and_eq_true, wi_true] at h
 obtain ⟨⟨⟨⟨⟨⟨h1, h2⟩, h3⟩, h4⟩, h5⟩, _⟩, h7⟩ := h
 unfold okVal at h7
 refine ⟨h1.1, h1.2, h5.1, h5.2, ?_, h2.1, h2.2, h3.1, h3.2, h4.1, h4.2⟩
 split at h7
 · rename_i e; rw [wi_true] at h7; exact .inl ⟨e, h7⟩
 · split at h7
   · rename_i e; rw [wi_true] at h7; exact .inr (.inl ⟨e, h7⟩)
   · split at h7
     · rename_i e; rw [wi_true] at h7; exact .inr (.inr ⟨e, h7⟩)
     · cases h7
theorem mea_bd {s : List Art} {r : Rl} {c : List (Int × Int)} {left : List Int} (h : ∀ k, k < c.length → 0 ≤ iG left k) {k : Nat} (hk : k < c.length) : 0 ≤ iG (meaL s r c left) k ∧ iG (meaL s r c left) k ≤ iG left k := by
 rw [meaL_get s r left hk]
 have := h k hk
 split <;> omega
theorem wisK_bd {s : List Art} {r : Rl} {c : List (Int × Int)} {left : List Int} (hr : okRu r = true) (hc : vCart s c = true) (h : ∀ k, k < c.length → 0 ≤ iG left k) {k : Nat} (hk : k < c.length) (h2 : r.kind ≠ 2) : 0 ≤ iG (wisK s r c left) k ∧ iG (wisK s r c left) k ≤ iG left k := by
 have hm := mea_bd (s := s) (r := r) h hk
 rw [wisK_get s r left hk]
 generalize iG (meaL s r c left) k = m at hm ⊢
 have hp := okRu_parts hr
 have ha := art_in hc hk
 have hb := atOk_pr ha.2.2.2.2.2
 split
 · rename_i e
   have hv : 1 ≤ r.value ∧ r.value ≤ 1000 := by rcases hp.2.2.2.2.1 with h | h | h <;> omega
   have m0 : 0 ≤ m * r.value := Int.mul_nonneg hm.1 (by omega)
   have m1 : m * r.value ≤ m * 1000 := Int.mul_le_mul_of_nonneg_left hv.2 hm.1
   rw [Int.tdiv_eq_ediv_of_nonneg m0]
   omega
 · rename_i e
   have hv : 2 ≤ r.value ∧ r.value ≤ 20 := by rcases hp.2.2.2.2.1 with h | h | h <;> omega
   have d0 : 0 ≤ (pB c k).tdiv r.value * (aT s (pA c k).toNat).p := Int.mul_nonneg (by rw [Int.tdiv_eq_ediv_of_nonneg (by omega)]; exact Int.ediv_nonneg (by omega) (by omega)) (by omega)
   omega
theorem wisL_bd {s : List Art} {r : Rl} {c : List (Int × Int)} {left : List Int} (hr : okRu r = true) (hc : vCart s c = true) (h : ∀ k, k < c.length → 0 ≤ iG left k) :
   (wisL s r c left).length = c.length ∧ ∀ k, k < c.length → 0 ≤ iG (wisL s r c left) k ∧ iG (wisL s r c left) k ≤ iG left k := by
 have hp := okRu_parts hr
 unfold wisL
 by_cases h2 : r.kind = 2
 · rw [if_pos h2]
   have hv : 1 ≤ r.value := by rcases hp.2.2.2.2.1 with h | h | h <;> omega
   have hl := meaL_len s r c left
   have hnn : ∀ k, k < (meaL s r c left).length → 0 ≤ iG (meaL s r c left) k := fun k hk => (mea_bd h (by omega)).1
   have hs := sumT_nn c.length (fun k hk => hnn k (by omega))
   have ha := appo_bd (a := min r.value (sumT (meaL s r c left) c.length)) (ws := meaL s r c left) (by omega) (by rw [hl]; omega) hnn
   rw [hl] at ha
   refine ⟨ha.1, fun k hk => ?_⟩
   have h3 := ha.2 k hk
   have h4 := mea_bd (s := s) (r := r) h hk
   omega
 · rw [if_neg h2]
   exact ⟨wisK_len _ _ _ _, fun k hk => wisK_bd hr hc h hk h2⟩
theorem effL_bd {s : List Art} {r : Rl} {c : List (Int × Int)} {left : List Int} (hr : okRu r = true) (hc : vCart s c = true) (h : ∀ k, k < c.length → 0 ≤ iG left k) :
   (effL s r c left).length = c.length ∧ ∀ k, k < c.length → 0 ≤ iG (effL s r c left) k ∧ iG (effL s r c left) k ≤ iG left k := by
 have hp := okRu_parts hr
 have hw := wisL_bd hr hc h
 unfold effL
 split
 · rename_i e
   have ha := appo_bd (a := r.cap) (ws := wisL s r c left) hp.2.2.1 (by rw [hw.1]; omega) (fun k hk => (hw.2 k (by omega)).1)
   rw [hw.1] at ha
   refine ⟨ha.1, fun k hk => ?_⟩
   have h3 := ha.2 k hk
   have h4 := hw.2 k hk
   omega
 · exact hw
end Go.Proofs.YtijofgaekmahkaaGreatDoor
