/- Walks: the marks of the exact laws on rules. Conditions: none. -/
import Derived.Test.YtdofpealmngmiaaDoorRU
import Derived.Test.YtdofpealmngmiaaDoorSN
namespace Go.Proofs.YtdofpealmngmiaaDoor
open Go.RowKit

/-- n pairs of marks from k on -/
def marks (k : Int) : Nat → List (Int × Int)
  | 0 => []
  | n + 1 => marks k n ++ [(k + 2 * n, k + 2 * n + 1)]

theorem marks_len (k : Int) : ∀ n, (marks k n).length = n
  | 0 => rfl
  | n + 1 => by simp [marks, marks_len k n]

theorem marks_get (k : Int) : ∀ n j, j < n → pA (marks k n) j = k + 2 * j ∧ pB (marks k n) j = k + 2 * j + 1
  | 0, j, h => absurd h (Nat.not_lt_zero _)
  | n + 1, j, h => by
    unfold marks
    by_cases e : j = n
    · subst e
      unfold pA pB
      rw [List.getD_eq_getElem?_getD, List.getElem?_append_right (by rw [marks_len]; exact Nat.le_refl _), marks_len]
      simp
    · have ih := marks_get k n j (by omega)
      unfold pA pB at ih ⊢
      rw [List.getD_eq_getElem?_getD, List.getElem?_append_left (by rw [marks_len]; omega), ← List.getD_eq_getElem?_getD]
      exact ih

/-- the first j pairs are marks, the others as in l -/
def markP (l : List (Int × Int)) (k : Int) (j : Nat) : List (Int × Int) := marks k j ++ l.drop j
theorem markP_len (l : List (Int × Int)) (k : Int) (j : Nat) (h : j ≤ l.length) : (markP l k j).length = l.length := by simp [markP, marks_len]; omega
theorem markP_succ (l : List (Int × Int)) (k : Int) (j : Nat) (h : j < l.length) : (markP l k j).set j (k + 2 * j, k + 2 * j + 1) = markP l k (j + 1) := by
  unfold markP
  rw [List.set_append_right _ _ (by rw [marks_len]; exact Nat.le_refl _), marks_len, Nat.sub_self, List.drop_eq_getElem_cons h, List.set_cons_zero, marks, List.append_assoc]
  rfl
theorem markP_end (l : List (Int × Int)) (k : Int) : markP l k l.length = marks k l.length := by simp [markP]

set_option maxHeartbeats 1000000 in
theorem markSpanS_any (base : Nat) (l : List (Int × Int)) (v : Value) (k : Int) (w : World) (hv : w.ownsRow base 24 2 v l.length (pr l)) (hl : l.length ≤ 2000000) (hk : 0 ≤ k) (hk2 : k ≤ 1000000) :
    Calls Tryd.prog 81 #[v, .int .i64 k] w fun e w' => e = .returned (.int .i64 (k + 2 * l.length)) ∧ w'.ownsRow base 24 2 v l.length (pr (marks k l.length)) ∧ w.grownBy w' v.ownBlock := by
  obtain ⟨ao, cap, rfl, hg⟩ := owns_shape hv
  have HG := Lib.hid hg
  have HV : Hid (w.ownsRow base 24 2 (.slice ao l.length cap) l.length (pr (markP l k 0))) := by rw [Hid]; simpa [markP, marks] using hv
  clear hg hv
  go_enter Tryd.func81, Tryd.ntmps81
  go_wp2
  go_loopw [1, 5] (fun c i wr => ∃ j : Nat, j ≤ l.length ∧ i = .int .i64 j ∧ c = .int .i64 (k + 2 * j) ∧ Hid (wr.ownsRow base 24 2 (.slice ao l.length cap) l.length (pr (markP l k j))) ∧ Hid (w.grownBy wr (Value.slice ao l.length cap).ownBlock)) (fun _ i _ => l.length - (intOf i).toNat)
  case atStart => exact ⟨0, Nat.zero_le _, rfl, by simp, HV, World.grownBy.refl _ _⟩
  case round =>
    clear HV
    obtain ⟨j, hj, rfl, rfl, ho, hgr⟩ := hrel
    by_cases hlt : j < l.length
    · obtain ⟨g, rfl, hgb⟩ := HG.out (by omega)
      obtain ⟨c0, c1, f0, f1⟩ := owns_at2 ho.out j hlt
      go_wp2
      go_roundw
      case rel =>
        refine ⟨j + 1, by omega, by go_num, by go_num, ?_, ?_⟩
        · have := owns_set2 ho.out j (k + 2 * j) (k + 2 * j + 1)
          rw [markP_succ l k j hlt] at this
          exact this
        · have e1 := (ho.out.stored (j * 2) (.int .i64 (k + 2 * j)))
          have e2 := (e1.1.stored (j * 2 + 1) (.int .i64 (k + 2 * j + 1)))
          exact grownBy_trans (grownBy_trans hgr.out e1.2) e2.2
      case measure => simp [intOf]; omega
    · obtain rfl : j = l.length := by omega
      go_wp2
      go_ret
      exact ⟨rfl, by have := ho.out; rwa [markP_end] at this, hgr.out⟩

set_option maxHeartbeats 1000000 in
theorem heldSpanS_any (l : List (Int × Int)) (v : Value) (k : Int) (w : World) (hv : Rd w 2 v l.length (pr l)) (hl : l.length ≤ 2000000) (hk : 0 ≤ k) (hk2 : k ≤ 1000000) (hm : l = marks k l.length) :
    Calls Tryd.prog 82 #[v, .int .i64 k] w fun e w' => e = .returned (.int .i64 (k + 2 * l.length)) ∧ w = w' := by
  obtain ⟨ao, cap, rfl, _, _, hr⟩ := hv.pairs
  have HR := Lib.hid hr
  have HM : Hid (∀ j, j < l.length → pA l j = k + 2 * j ∧ pB l j = k + 2 * j + 1) := fun j hj => by have := marks_get k l.length j hj; rwa [← hm] at this
  clear hr hv hm
  go_enter Tryd.func82, Tryd.ntmps82
  go_wp2
  go_loop [1, 5] (fun c i => ∃ j : Nat, j ≤ l.length ∧ i = .int .i64 j ∧ c = .int .i64 (k + 2 * j)) (fun _ i => l.length - (intOf i).toNat)
  case atStart => exact ⟨0, Nat.zero_le _, rfl, by simp⟩
  case round =>
    obtain ⟨j, hj, rfl, rfl⟩ := hrel
    by_cases hlt : j < l.length
    · obtain ⟨b, off, rfl, hb, hcell⟩ := HR.out (by omega)
      obtain ⟨c0, c1⟩ := hcell j hlt
      rw [(HM.out j hlt).1] at c0
      rw [(HM.out j hlt).2] at c1
      clear hcell
      go_wp2
      go_round
      case rel => exact ⟨j + 1, by omega, by go_num, by go_num⟩
      case measure => simp [intOf]; omega
    · obtain rfl : j = l.length := by omega
      go_wp2
      go_ret
      exact ⟨rfl, rfl⟩

set_option maxHeartbeats 1000000 in
theorem markGuard_any (base : Nat) (r : Rl) (v : Value) (k : Int) (w : World) (hv : w.ownsRow base 24 2 v r.counts.length (pr r.counts)) (hl : r.counts.length ≤ 100) (hk : 0 ≤ k) (hk2 : k ≤ 1000000) :
    Calls Tryd.prog 51 #[gdV r v, .int .i64 k] w fun e w' => e = .returned (.int .i64 (k + 2 * r.counts.length)) ∧ w'.ownsRow base 24 2 v r.counts.length (pr (marks k r.counts.length)) ∧ w.grownBy w' v.ownBlock := by
  have HV := Lib.hid hv
  obtain ⟨ao, cap, rfl, _⟩ := owns_shape hv
  have e0 := heap_alloc_new w (.cells #[.int .i64 r.lo, .int .i64 r.hi, .slice ao r.counts.length cap, .int .i64 r.coupon] 27)
  have E0 := Lib.hid (hv.alloc (.cells #[.int .i64 r.lo, .int .i64 r.hi, .slice ao r.counts.length cap, .int .i64 r.coupon] 27))
  have b0 : Below w.heap.size w (w.alloc (.cells #[.int .i64 r.lo, .int .i64 r.hi, .slice ao r.counts.length cap, .int .i64 r.coupon] 27)) := (Below.refl _ _).alloc (Nat.le_refl _) _
  have B0 := Lib.hid (below_grownAny b0 (Value.slice ao r.counts.length cap).ownBlock)
  obtain ⟨⟨c0, c1, c2, c3⟩, _⟩ := row4 e0
  clear hv b0 e0
  unfold gdV
  go_enter Tryd.func51, Tryd.ntmps51
  go_wp2_with fail
  refine (markSpanS_any base r.counts _ k _ E0.out (by omega) hk hk2).mono ?_
  rintro e w1 ⟨rfl, ho, hg⟩
  go_wp2
  go_ret
  exact ⟨rfl, ho, grownBy_trans B0.out hg⟩

set_option maxHeartbeats 1000000 in
theorem markRule_any (base : Nat) (r : Rl) (v : Value) (k : Int) (w : World) (hv : w.ownsRow base 24 2 v r.counts.length (pr r.counts)) (hl : r.counts.length ≤ 100) (hk : 0 ≤ k) (hk2 : k ≤ 1000000) :
    Calls Tryd.prog 23 #[ruV r v, .int .i64 k] w fun e w' => e = .returned (.int .i64 (k + 2 * r.counts.length)) ∧ w'.ownsRow base 24 2 v r.counts.length (pr (marks k r.counts.length)) ∧ w.grownBy w' v.ownBlock := by
  have HV := Lib.hid hv
  obtain ⟨ao, cap, rfl, _⟩ := owns_shape hv
  have e0 := heap_alloc_new w (.cells #[.int .i64 r.num, .int .i64 r.lvl, .int .i64 r.rank, .int .i64 r.group, .int .i64 r.kind, .int .i64 r.value, .int .i64 r.cap, .int .i64 r.lo, .int .i64 r.hi, .slice ao r.counts.length cap, .int .i64 r.coupon] 29)
  have E0 := Lib.hid (hv.alloc (.cells #[.int .i64 r.num, .int .i64 r.lvl, .int .i64 r.rank, .int .i64 r.group, .int .i64 r.kind, .int .i64 r.value, .int .i64 r.cap, .int .i64 r.lo, .int .i64 r.hi, .slice ao r.counts.length cap, .int .i64 r.coupon] 29))
  have b0 : Below w.heap.size w (w.alloc (.cells #[.int .i64 r.num, .int .i64 r.lvl, .int .i64 r.rank, .int .i64 r.group, .int .i64 r.kind, .int .i64 r.value, .int .i64 r.cap, .int .i64 r.lo, .int .i64 r.hi, .slice ao r.counts.length cap, .int .i64 r.coupon] 29)) := (Below.refl _ _).alloc (Nat.le_refl _) _
  have B0 := Lib.hid (below_grownAny b0 (Value.slice ao r.counts.length cap).ownBlock)
  obtain ⟨⟨c0, c1, c2, c3, c4, c5, c6, c7, c8, c9, c10⟩, _⟩ := row11 e0
  clear hv b0 e0
  unfold ruV
  go_enter Tryd.func23, Tryd.ntmps23
  go_wp2_with fail
  refine (markGuard_any base r _ k _ E0.out (by omega) hk hk2).mono ?_
  rintro e w1 ⟨rfl, ho, hg⟩
  go_wp2
  go_ret
  exact ⟨rfl, ho, grownBy_trans B0.out hg⟩

set_option maxHeartbeats 1000000 in
theorem heldGuard_any (r : Rl) (v : Value) (k : Int) (w : World) (hv : Rd w 2 v r.counts.length (pr (marks k r.counts.length))) (hl : r.counts.length ≤ 100) (hk : 0 ≤ k) (hk2 : k ≤ 1000000) :
    Calls Tryd.prog 52 #[gdV r v, .int .i64 k] w fun e w' => e = .returned (.int .i64 (k + 2 * r.counts.length)) ∧ Below w.heap.size w w' := by
  obtain ⟨_, ao, cap, rfl, _⟩ := id hv
  have e0 := heap_alloc_new w (.cells #[.int .i64 r.lo, .int .i64 r.hi, .slice ao r.counts.length cap, .int .i64 r.coupon] 27)
  have b0 : Below w.heap.size w (w.alloc (.cells #[.int .i64 r.lo, .int .i64 r.hi, .slice ao r.counts.length cap, .int .i64 r.coupon] 27)) := (Below.refl _ _).alloc (Nat.le_refl _) _
  have E0 := Lib.hid (hv.below b0 (Nat.le_refl _))
  have B0 := Lib.hid b0
  obtain ⟨⟨c0, c1, c2, c3⟩, _⟩ := row4 e0
  have hpos : ¬ (k + 2 * (r.counts.length : Int) < 0) := by omega
  clear hv b0 e0
  unfold gdV
  go_enter Tryd.func52, Tryd.ntmps52
  go_wp2_with fail
  refine (heldSpanS_any (marks k r.counts.length) _ k _ (by rw [marks_len]; exact E0.out) (by rw [marks_len]; omega) hk hk2 (by rw [marks_len])).mono ?_
  rintro e w1 ⟨rfl, rfl⟩
  rw [marks_len]
  go_wp2
  go_ret
  exact ⟨rfl, B0.out⟩

set_option maxHeartbeats 1000000 in
theorem heldRule_any (r : Rl) (v : Value) (k : Int) (w : World) (hv : Rd w 2 v r.counts.length (pr (marks k r.counts.length))) (hl : r.counts.length ≤ 100) (hk : 0 ≤ k) (hk2 : k ≤ 1000000) :
    Calls Tryd.prog 24 #[ruV r v, .int .i64 k] w fun e w' => e = .returned (.int .i64 (k + 2 * r.counts.length)) ∧ Below w.heap.size w w' := by
  obtain ⟨_, ao, cap, rfl, _⟩ := id hv
  have e0 := heap_alloc_new w (.cells #[.int .i64 r.num, .int .i64 r.lvl, .int .i64 r.rank, .int .i64 r.group, .int .i64 r.kind, .int .i64 r.value, .int .i64 r.cap, .int .i64 r.lo, .int .i64 r.hi, .slice ao r.counts.length cap, .int .i64 r.coupon] 29)
  have b0 : Below w.heap.size w (w.alloc (.cells #[.int .i64 r.num, .int .i64 r.lvl, .int .i64 r.rank, .int .i64 r.group, .int .i64 r.kind, .int .i64 r.value, .int .i64 r.cap, .int .i64 r.lo, .int .i64 r.hi, .slice ao r.counts.length cap, .int .i64 r.coupon] 29)) := (Below.refl _ _).alloc (Nat.le_refl _) _
  have E0 := Lib.hid (hv.below b0 (Nat.le_refl _))
  have B0 := Lib.hid b0
  obtain ⟨⟨c0, c1, c2, c3, c4, c5, c6, c7, c8, c9, c10⟩, _⟩ := row11 e0
  have hpos : ¬ (k + 2 * (r.counts.length : Int) < 0) := by omega
  clear hv b0 e0
  unfold ruV
  go_enter Tryd.func24, Tryd.ntmps24
  go_wp2_with fail
  refine (heldGuard_any r _ k _ E0.out hl hk hk2).mono ?_
  rintro e w1 ⟨rfl, hb⟩
  go_wp2
  go_ret
  exact ⟨rfl, B0.out.trans (hb.mono B0.out.size)⟩

end Go.Proofs.YtdofpealmngmiaaDoor
