/- Walks: a text at an index. Conditions: none. -/
import Derived.Test.YtdofpealmngmiaaGreatDoorRG
import Derived.Test.YtdofpealmngmiaaGreatDoorRD
namespace Go.Proofs.YtdofpealmngmiaaGreatDoor
open Go.RowKit

theorem str_index {T : List UInt8} {i : Nat} {x : UInt8} (h : T[i]? = some x) (W : World) : (Instr.index 9 (.string ⟨T.toArray⟩) (.int .i64 (i : Int))).run Tryz.prog W = .ok (.int .u8 (x.toNat : Int)) W := by
  have hl := (List.getElem?_eq_some_iff.1 h).1
  have hx := (List.getElem?_eq_some_iff.1 h).2
  rw [run_index_string _ _ _ _ _ Tryz.underlying9]
  have hc : 0 ≤ (i : Int) ∧ (i : Int) < ((⟨T.toArray⟩ : ByteArray).size : Int) := ⟨by omega, by simp [ByteArray.size]; omega⟩
  rw [dif_pos hc]
  congr 3
  show (T.toArray[(i : Int).toNat]'_).toNat = _
  simp [hx]

theorem text_len {r : Rl} (h : OkR r) : (textR r).length ≤ 1000000 := by
  rw [textR_s4]
  have h1 := s4_len h r.counts.length (Nat.le_refl _)
  have h2 := h.cn
  have h3 := dec_short (n := r.coupon) (by have := h.coupon; omega) (by have := h.coupon; omega)
  unfold cpnW
  split
  · simp [tl]; omega
  · simp [tl, wCoupon]; omega

end Go.Proofs.YtdofpealmngmiaaGreatDoor
