/- Plain laws on the text of a rule: its spaces, its prefix; no program. Conditions: none. -/
import Derived.Test.YtdofpealmngmiaaGreatDoorRuFns
namespace Go.Proofs.YtdofpealmngmiaaGreatDoor
open Go.RowKit

theorem digits_clean : ∀ (m n : Nat), n < 10 ^ m → ∀ x ∈ Go.Lib.decDigits n, 48 ≤ x.toNat ∧ x.toNat ≤ 57
  | 0, n, h => by
    intro x hx
    have h0 : n = 0 := by simpa using h
    subst h0
    rw [Go.Lib.decDigits, dif_pos (by omega)] at hx
    simp at hx
    subst hx
    decide
  | m + 1, n, h => by
    intro x hx
    rw [Go.Lib.decDigits] at hx
    by_cases h10 : n < 10
    · rw [dif_pos h10] at hx
      simp only [List.mem_singleton] at hx
      subst hx
      rw [UInt8.toNat_ofNat']
      omega
    · rw [dif_neg h10, List.mem_append, List.mem_singleton] at hx
      rcases hx with hx | rfl
      · exact digits_clean m (n / 10) (by rw [Nat.pow_succ] at h; omega) x hx
      · rw [UInt8.toNat_ofNat']
        omega
theorem pow_big : ∀ n : Nat, n < 10 ^ n
  | 0 => by decide
  | n + 1 => by have := pow_big n; rw [Nat.pow_succ]; omega
/-- a number's text: digits alone -/
theorem dec_digits (n : Int) : ∀ x ∈ dec n, 48 ≤ x.toNat ∧ x.toNat ≤ 57 := digits_clean n.toNat n.toNat (pow_big _)
theorem dec_ne (n : Int) : dec n ≠ [] := by
  unfold dec
  rw [Go.Lib.decDigits]
  split
  · simp
  · simp

/-- a word: not empty, no space -/
def Cl (w : List UInt8) : Prop := w ≠ [] ∧ ∀ x ∈ w, x ≠ 32
theorem dec_cl (n : Int) : Cl (dec n) := ⟨dec_ne n, fun x hx e => by have := dec_digits n x hx; subst e; simp at this⟩
theorem spW_cl (a b : Int) : Cl (spW a b) := by
  refine ⟨by unfold spW; simp, fun x hx => ?_⟩
  unfold spW at hx
  rw [List.mem_append, List.mem_cons] at hx
  rcases hx with hx | rfl | hx
  · exact (dec_cl a).2 x hx
  · decide
  · exact (dec_cl b).2 x hx
theorem kindW_cl (k : Int) : Cl (kindW k) := by
  unfold kindW
  split
  · exact ⟨by simp, by decide⟩
  · split
    · exact ⟨by simp, by decide⟩
    · exact ⟨by simp, by decide⟩
theorem cntW_cl (c : List (Int × Int)) : ∀ k, ∀ w ∈ cntW c k, Cl w
  | 0 => by simp [cntW]
  | k + 1 => by
    intro w hw
    rw [cntW, List.mem_append] at hw
    rcases hw with hw | hw
    · exact cntW_cl c k w hw
    · split at hw
      · simp at hw
      · simp only [List.mem_cons, List.not_mem_nil, or_false] at hw
        rcases hw with rfl | rfl | rfl
        · exact ⟨by simp [wCount], by decide⟩
        · exact dec_cl _
        · exact spW_cl _ _
theorem restW_cl (r : Rl) : ∀ w ∈ restW r, Cl w := by
  intro w hw
  have k1 : Cl wLevel := ⟨by simp [wLevel], by decide⟩
  have k2 : Cl wRank := ⟨by simp [wRank], by decide⟩
  have k3 : Cl wGroup := ⟨by simp [wGroup], by decide⟩
  have k4 : Cl wCap := ⟨by simp [wCap], by decide⟩
  have k5 : Cl wTotal := ⟨by simp [wTotal], by decide⟩
  have k6 : Cl wCoupon := ⟨by simp [wCoupon], by decide⟩
  unfold restW at hw
  simp only [List.mem_append] at hw
  rcases hw with ((((hw | hw) | hw) | hw) | hw) | hw
  · simp only [headW, List.mem_cons, List.not_mem_nil, or_false] at hw
    rcases hw with rfl | rfl | rfl | rfl | rfl | rfl
    · exact k1
    · exact dec_cl _
    · exact k2
    · exact dec_cl _
    · exact kindW_cl _
    · exact dec_cl _
  · unfold grpW at hw
    split at hw
    · simp at hw
    · simp only [List.mem_cons, List.not_mem_nil, or_false] at hw
      rcases hw with rfl | rfl
      · exact k3
      · exact dec_cl _
  · unfold capW at hw
    split at hw
    · simp at hw
    · simp only [List.mem_cons, List.not_mem_nil, or_false] at hw
      rcases hw with rfl | rfl
      · exact k4
      · exact dec_cl _
  · unfold totW at hw
    split at hw
    · simp at hw
    · simp only [List.mem_cons, List.not_mem_nil, or_false] at hw
      rcases hw with rfl | rfl
      · exact k5
      · exact spW_cl _ _
  · exact cntW_cl _ _ _ hw
  · unfold cpnW at hw
    split at hw
    · simp at hw
    · simp only [List.mem_cons, List.not_mem_nil, or_false] at hw
      rcases hw with rfl | rfl
      · exact k6
      · exact dec_cl _

/-- the spaces of a text -/
def nsp (l : List UInt8) : Nat := l.countP (fun x => x == 32)
theorem nsp_append (a b : List UInt8) : nsp (a ++ b) = nsp a + nsp b := by simp [nsp, List.countP_append]
theorem nsp_cl {w : List UInt8} (h : Cl w) : nsp w = 0 := by
  unfold nsp
  rw [List.countP_eq_zero]
  intro x hx
  simpa using h.2 x hx
theorem nsp_tl : ∀ (ws : List (List UInt8)), (∀ w ∈ ws, Cl w) → nsp (tl ws) = ws.length
  | [], _ => rfl
  | w :: ws, h => by
    rw [tl_cons, nsp_append, nsp_tl ws (fun x hx => h x (by simp [hx]))]
    have : nsp (32 :: w) = 1 := by
      have h0 := nsp_cl (h w (by simp))
      unfold nsp at h0 ⊢
      rw [List.countP_cons, h0]
      rfl
    simp only [List.length_cons]
    omega
theorem nsp_text (r : Rl) : 6 ≤ nsp (textR r) := by
  rw [textR, nsp_append, nsp_cl (dec_cl _), nsp_tl _ (restW_cl r)]
  unfold restW headW
  simp only [List.length_append, List.length_cons, List.length_nil]
  omega

/-- no two spaces side by side -/
def nod : List UInt8 → Bool
  | [] => true
  | [_] => true
  | a :: b :: r => !(a == 32 && b == 32) && nod (b :: r)
theorem nod_cons {x : UInt8} (hx : x ≠ 32) : ∀ {l : List UInt8}, nod l = true → nod (x :: l) = true
  | [], _ => rfl
  | b :: r, h => by
    have hb : (x == 32) = false := by simpa using hx
    rw [nod, hb, h]
    rfl
theorem nod_word : ∀ (w : List UInt8) {l : List UInt8}, (∀ x ∈ w, x ≠ 32) → nod l = true → nod (w ++ l) = true
  | [], _, _, h => h
  | a :: t, l, hw, h => nod_cons (hw a (by simp)) (nod_word t (fun x hx => hw x (by simp [hx])) h)
theorem nod_sp {w l : List UInt8} (hw : Cl w) (h : nod l = true) : nod (32 :: w ++ l) = true := by
  match w, hw with
  | [], hw => exact absurd rfl hw.1
  | a :: t, hw =>
    have ha : (a == 32) = false := by simpa using hw.2 a (by simp)
    show nod (32 :: a :: (t ++ l)) = true
    rw [nod, ha]
    have := nod_word (a :: t) hw.2 h
    simpa using this
theorem nod_tl : ∀ (ws : List (List UInt8)), (∀ w ∈ ws, Cl w) → nod (tl ws) = true
  | [], _ => rfl
  | w :: ws, h => by
    rw [tl_cons]
    exact nod_sp (h w (by simp)) (nod_tl ws (fun x hx => h x (by simp [hx])))
theorem nod_text (r : Rl) : nod (textR r) = true := nod_word _ (dec_cl _).2 (nod_tl _ (restW_cl r))
theorem nod_at : ∀ {l : List UInt8}, nod l = true → ∀ i : Nat, l[i]? = some 32 → l[i + 1]? = some 32 → False
  | [], _, i, h, _ => by simp at h
  | [a], _, i, _, h => by simp at h
  | a :: b :: r, hn, 0, h, k => by
    simp at h k
    subst h; subst k
    simp [nod] at hn
  | a :: b :: r, hn, i + 1, h, k => by
    rw [nod, Bool.and_eq_true] at hn
    exact nod_at hn.2 i (by simpa using h) (by simpa using k)

/-- the last byte is no space -/
theorem last_tl : ∀ (ws : List (List UInt8)) (x : List UInt8), Cl x → (∀ w ∈ ws, Cl w) → ∀ y, (x ++ tl ws).getLast? = some y → y ≠ 32
  | [], x, hx, _, y, h => by
    rw [tl_nil, List.append_nil] at h
    exact hx.2 y (List.mem_of_getLast? h)
  | w :: ws, x, hx, hw, y, h => by
    have hc := hw w (by simp)
    have e : x ++ tl (w :: ws) = (x ++ [32]) ++ (w ++ tl ws) := by rw [tl_cons]; simp
    have hn : w ++ tl ws ≠ [] := by intro e; exact hc.1 (List.append_eq_nil_iff.1 e).1
    rw [e, List.getLast?_append] at h
    have h2 : (w ++ tl ws).getLast? = some y := by
      cases hl : (w ++ tl ws).getLast? with
      | none => exact absurd (List.getLast?_eq_none_iff.1 hl) hn
      | some z => rw [hl] at h; simpa using h
    have h := h2
    exact last_tl ws w hc (fun v hv => hw v (by simp [hv])) y h
theorem last_text (r : Rl) : ∀ y, (textR r).getLast? = some y → y ≠ 32 := last_tl _ _ (dec_cl _) (restW_cl r)
theorem text_ne (r : Rl) : textR r ≠ [] := by
  intro e
  exact dec_ne _ (List.append_eq_nil_iff.1 e).1

/-- the same rule without a group, a cap, a guard -/
def plainR (r : Rl) : Rl := { r with group := -1, cap := 0, lo := 0, hi := 1000000, counts := [(0, 1000000), (0, 1000000), (0, 1000000)], coupon := 0 }
theorem plain_ok (r : Rl) (h : okRu r = true) : okRu (plainR r) = true := by
  unfold okRu at h ⊢
  simp only [Bool.and_eq_true] at h ⊢
  obtain ⟨⟨⟨⟨⟨⟨h1, h2⟩, h3⟩, _⟩, _⟩, _⟩, h7⟩ := h
  refine ⟨⟨⟨⟨⟨⟨h1, h2⟩, h3⟩, (by decide : wi (-1) (-1) 2 = true)⟩, (by decide : wi 0 0 1000000 = true)⟩, ?_⟩, h7⟩
  show okGd (plainR r) = true
  unfold okGd plainR
  simp only
  decide
theorem plain_text (r : Rl) : textR (plainR r) = dec r.num ++ tl (headW r) := by
  unfold textR restW
  have e1 : grpW (plainR r) = [] := by simp [grpW, plainR]
  have e2 : capW (plainR r) = [] := by simp [capW, plainR]
  have e3 : totW (plainR r) = [] := by simp [totW, plainR, allSp]
  have e4 : cntW (plainR r).counts (plainR r).counts.length = [] := by show cntW [(0, 1000000), (0, 1000000), (0, 1000000)] 3 = []; decide
  have e5 : cpnW (plainR r) = [] := by simp [cpnW, plainR]
  rw [e1, e2, e3, e4, e5]
  simp [headW, plainR]
theorem text_front (r : Rl) : ∃ t, textR r = textR (plainR r) ++ t := by
  rw [plain_text]
  refine ⟨tl (grpW r ++ capW r ++ totW r ++ cntW r.counts r.counts.length ++ cpnW r), ?_⟩
  unfold textR restW
  simp [tl_append]

end Go.Proofs.YtdofpealmngmiaaGreatDoor
