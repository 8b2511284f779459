/- Small laws on bundles: the first ones of a list; what the laws read of them. Conditions: none. -/
import Derived.Test.YtomapdedajdkkabBS
namespace Go.Proofs.Ytomapdedajdkkab
open Go.RowKit

theorem bn_takeT (B : List Bn) (k : Nat) : bn (B.take k) = (bn B).take (k * 2) := by
  induction B generalizing k with
  | nil => simp [bn]
  | cons a l ih =>
    cases k with
    | zero => simp [bn]
    | succ k => rw [List.take_succ_cons, bn_cons, bn_cons, ih, show (k + 1) * 2 = k * 2 + 1 + 1 by omega, List.take_succ_cons, List.take_succ_cons]

theorem RdB.takeT {w : World} {ao : Option Addr} {cap : Nat} {B : List Bn} (h : RdB w (.slice ao B.length cap) B) {k : Nat} (hk : k ≤ B.length) : RdB w (.slice ao k cap) (B.take k) := by
  refine ⟨?_, fun x hx => h.2 x (List.mem_of_mem_take hx)⟩
  have h1 := h.1.take hk
  rw [← bn_takeT] at h1
  rw [show (B.take k).length = k by rw [List.length_take]; omega]
  exact h1

theorem vBn_takeT {s : List Art} {B : List Bn} (h : vBn s B = true) (k : Nat) : vBn s (B.take k) = true := by
  unfold vBn at h ⊢
  rw [Bool.and_eq_true, Bool.and_eq_true, decide_eq_true_eq, List.all_eq_true] at h
  rw [h.1, List.all_eq_true.2 (fun x hx => h.2.1 x (List.mem_of_mem_take hx)), decide_eq_true (by rw [List.length_take]; omega)]
  rfl
theorem qsB_take (B : List Bn) (k : Nat) : qsB (B.take k) = (qsB B).take k := by simp [qsB, List.map_take]
theorem qsB_getD {B : List Bn} {i : Nat} (h : i < B.length) : (qsB B).getD i ([], 0) = ((bT B i).l, (bT B i).p) := by
  simp [qsB, bT, List.getD, h]
theorem bOk_at {s : List Art} {B : List Bn} (h : vBn s B = true) {i : Nat} (hi : i < B.length) : bOk s (bT B i).l (bT B i).p = true := (vBn_pr h).2.1 i hi

end Go.Proofs.Ytomapdedajdkkab
