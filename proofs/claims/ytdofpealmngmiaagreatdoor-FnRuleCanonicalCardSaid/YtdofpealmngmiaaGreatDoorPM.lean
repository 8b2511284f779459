/- Plain laws: the counts of a rule's text, read one by one; what stays in memory. Conditions: none. -/
import Derived.Test.YtdofpealmngmiaaGreatDoorPJ
namespace Go.Proofs.YtdofpealmngmiaaGreatDoor
open Go.RowKit

/-- the counts that have been read: the first k, the others of all numbers -/
def mix (c : List (Int × Int)) (k : Nat) : List (Int × Int) := [if 0 < k then (pA c 0, pB c 0) else (0, 1000000), if 1 < k then (pA c 1, pB c 1) else (0, 1000000), if 2 < k then (pA c 2, pB c 2) else (0, 1000000)]
theorem mix3 {c : List (Int × Int)} (h : c.length = 3) : mix c 3 = c := by
  match c, h with
  | [x, y, z], _ => rfl
theorem mix0 (c : List (Int × Int)) : mix c 0 = all3 := rfl
theorem allSp_iff {a b : Int} (h : allSp a b = true) : a = 0 ∧ b = 1000000 := by simpa [allSp] using h
theorem mix_skip {c : List (Int × Int)} {k : Nat} (hk : k < 3) (h : allSp (pA c k) (pB c k) = true) : mix c k = mix c (k + 1) := by
  obtain ⟨h1, h2⟩ := allSp_iff h
  match k, hk with
  | 0, _ => simp [mix, h1, h2]
  | 1, _ => simp [mix, h1, h2]
  | 2, _ => simp [mix, h1, h2]
theorem mix_set {c : List (Int × Int)} {j : Nat} (hj : j < 3) : (mix c j).set j (pA c j, pB c j) = mix c (j + 1) := by
  match j, hj with
  | 0, _ => rfl
  | 1, _ => rfl
  | 2, _ => rfl
theorem cntD_step (c : List (Int × Int)) {k : Nat} (hk : k < 3) : cntD c k = cnt1 c k ++ cntD c (k + 1) := by
  match k, hk with
  | 0, _ => rfl
  | 1, _ => rfl
  | 2, _ => simp [cntD]
theorem cntD_three (c : List (Int × Int)) : cntD c 3 = [] := rfl
/-- no count is left -/
theorem cnt_none (c : List (Int × Int)) (t : List (List UInt8)) : ∀ (m k : Nat), k + m = 3 → isW (cntD c k ++ t) wCount = false → cntD c k = [] ∧ mix c k = mix c 3
  | 0, k, hk, _ => by
    have : k = 3 := by omega
    subst this
    exact ⟨rfl, rfl⟩
  | m + 1, k, hk, h => by
    have hk3 : k < 3 := by omega
    rw [cntD_step c hk3] at h ⊢
    cases hs : allSp (pA c k) (pB c k)
    · simp [cnt1, hs, isW] at h
    · have h0 : cnt1 c k = [] := by simp [cnt1, hs]
      rw [h0, List.nil_append] at h ⊢
      have := cnt_none c t m (k + 1) (by omega) h
      exact ⟨this.1, (mix_skip hk3 hs).trans this.2⟩
/-- the next count -/
theorem cnt_some (c : List (Int × Int)) (t : List (List UInt8)) (ht : isW t wCount = false) : ∀ (m k : Nat), k + m = 3 → isW (cntD c k ++ t) wCount = true →
    ∃ j : Nat, j < 3 ∧ cntD c k ++ t = wCount :: dec (j : Int) :: spW (pA c j) (pB c j) :: (cntD c (j + 1) ++ t) ∧ mix c k = mix c j
  | 0, k, hk, h => by
    have : k = 3 := by omega
    subst this
    rw [cntD_three, List.nil_append, ht] at h
    cases h
  | m + 1, k, hk, h => by
    have hk3 : k < 3 := by omega
    cases hs : allSp (pA c k) (pB c k)
    · refine ⟨k, hk3, ?_, rfl⟩
      rw [cntD_step c hk3]
      simp [cnt1, hs]
    · have h0 : cnt1 c k = [] := by simp [cnt1, hs]
      rw [cntD_step c hk3, h0, List.nil_append] at h ⊢
      obtain ⟨j, h1, h2, h3⟩ := cnt_some c t ht m (k + 1) (by omega) h
      exact ⟨j, h1, h2, (mix_skip hk3 hs).trans h3⟩

/-- what is known in the loop over the counts -/
def KC (T : List UInt8) (r : Rl) (ws : List (List UInt8)) (bad : Bool) : Prop := (T = [] → bad = true) ∧ Gh T (fun r0 => bad = false ∧ ∃ k, k ≤ 3 ∧ ws = cntD r0.counts k ++ cpnW r0 ∧ r = { r0 with counts := mix r0.counts k, coupon := 0 })

theorem At.alloc {w W : World} {S g b : Nat} {r : Rl} {ws : List (List UInt8)} {bad : Bool} (A : At w S g b r ws bad W) (o : Obj) : At w S g b r ws bad (W.alloc o) := by
  have hb : Below W.heap.size W (W.alloc o) := (Below.refl _ _).alloc (Nat.le_refl _) _
  obtain ⟨a0, b0, a1, b1, a2, b2, h1, h2⟩ := A.F
  exact ⟨A.ord, heap_keep A.K, heap_keep A.G, ⟨a0, b0, a1, b1, a2, b2, h1, heap_keep h2⟩, A.sc.below hb, A.env.below hb, A.bel.trans (hb.mono A.bel.size), A.sh⟩
/-- a count is written -/
theorem At.count {w W : World} {S g b : Nat} {r : Rl} {ws : List (List UInt8)} {bad : Bool} (A : At w S g b r ws bad W) (j : Nat) (hj : j < 3) (p q : Int) :
    At w S g b { r with counts := r.counts.set j (p, q) } ws bad ((W.setCell ⟨g, j * 2, none⟩ (.int .i64 p)).setCell ⟨g, j * 2 + 1, none⟩ (.int .i64 q)) := by
  obtain ⟨o1, o2, o3⟩ := A.ord
  obtain ⟨a0, b0, a1, b1, a2, b2, h1, h2⟩ := A.F
  have hgr := grownBy_trans (grown_set W g (j * 2) (.int .i64 p)) (grown_set _ g (j * 2 + 1) (.int .i64 q))
  refine ⟨A.ord, heap_set (heap_set A.K (by omega)) (by omega), heap_set (heap_set A.G (by omega)) (by omega), ?_, A.sc.grown hgr (fun k hk => by simp only [Option.some.injEq] at hk; omega),
    A.env.grown hgr (by omega), (A.bel.setCell (p := ⟨g, j * 2, none⟩) (by show _ ≤ g; omega) _).setCell (p := ⟨g, j * 2 + 1, none⟩) (by show _ ≤ g; omega) _, A.sh⟩
  show ∃ a0 b0 a1 b1 a2 b2 : Int, r.counts.set j (p, q) = _ ∧ _
  rw [h1]
  match j, hj with
  | 0, _ => exact ⟨p, q, a1, b1, a2, b2, rfl, Joins.block_setCell (i := 1) (Joins.block_setCell (i := 0) h2 _) _⟩
  | 1, _ => exact ⟨a0, b0, p, q, a2, b2, rfl, Joins.block_setCell (i := 3) (Joins.block_setCell (i := 2) h2 _) _⟩
  | 2, _ => exact ⟨a0, b0, a1, b1, p, q, rfl, Joins.block_setCell (i := 5) (Joins.block_setCell (i := 4) h2 _) _⟩

theorem num_b (r : Rl) (h : okRu r = true) : 0 ≤ r.num ∧ r.num ≤ 1000000 := by have := (okRu_num h).1; omega
theorem lvl_b (r : Rl) (h : okRu r = true) : 0 ≤ r.lvl ∧ r.lvl ≤ 1000000 := by have := (okRu_num h).2.1; omega
theorem rank_b (r : Rl) (h : okRu r = true) : 0 ≤ r.rank ∧ r.rank ≤ 1000000 := by have := (okRu_num h).2.2.1; omega
theorem val_b (r : Rl) (h : okRu r = true) : 0 ≤ r.value ∧ r.value ≤ 1000000 := by have := (okRu_num h).2.2.2.2.2.2.2.2.2.2; omega
/-- how many words are left -/
def scLen (W : World) (S : Nat) : Nat := match W.cell? ⟨S, 0, none⟩ with
  | some (.slice _ n _) => n
  | _ => 0
theorem Sc.len {W : World} {S : Nat} {ws : List (List UInt8)} {bad : Bool} (h : Sc W S ws bad) : scLen W S = ws.length := by
  obtain ⟨bk, off, cap, h1, _⟩ := h
  unfold scLen
  rw [cell_of_row W S 0 _ _ _ h1]
  rfl
theorem isW_len {ws : List (List UInt8)} {z : List UInt8} (h : isW ws z = true) : ws.tail.tail.tail.length < ws.length := by
  cases ws with
  | nil => cases h
  | cons x t => simp only [List.tail_cons, List.length_tail, List.length_cons]; omega

end Go.Proofs.YtdofpealmngmiaaGreatDoor
