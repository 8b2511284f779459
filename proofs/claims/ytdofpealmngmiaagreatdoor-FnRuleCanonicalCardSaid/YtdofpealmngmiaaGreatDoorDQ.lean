/- Walks: the drawn texts of rules, as the laws draw them. Conditions: none. -/
import Derived.Test.YtdofpealmngmiaaGreatDoorDP
import Derived.Test.YtdofpealmngmiaaGreatDoorRQ
namespace Go.Proofs.YtdofpealmngmiaaGreatDoor
open Go.RowKit

theorem fmt_len (r : Rl) : (fmtR r).length ≤ 1000000 := by
  unfold fmtR
  cases hok : okRu r
  · simp
  · exact text_len (OkR.of hok)

set_option maxRecDepth 100000 in
set_option maxHeartbeats 4000000 in
theorem DrawParseRule_any (z : List Int) (v : Value) (w : World) (hv : Rd w 1 v z.length (z.map (Value.int .u8))) (hz : ∀ x ∈ z, 0 ≤ x ∧ x ≤ 255) :
    Calls Tryz.prog 4 #[v] w fun e w' => ∃ T : List UInt8, e = .returned (.string ⟨T.toArray⟩) ∧ T.length ≤ 1000010 ∧ Below w.heap.size w w' := by
  have HV := Lib.hid hv
  obtain ⟨_, ao, cap, rfl, _⟩ := hv
  go_enter Tryz.func4, Tryz.ntmps4
  go_wp2_with fail
  refine (newReader_any z _ _ HV.out hz).mono ?_
  rintro e w1 ⟨rfl, hr, B1⟩
  have L1 := hr.lt
  go_wp2_with fail
  refine (anyRule_any w.heap.size 0 _ hr (by omega)).mono ?_
  rintro e w2 ⟨r, v', rfl, O2, l2, s2⟩
  have S2 := s2
  clear s2
  go_wp2_with fail
  refine (specFormat_any r v' _ (Rd.of_owns O2)).mono ?_
  rintro e w3 ⟨rfl, b3⟩
  have S3 := S2.below b3 S2.1.lt S2.size
  have hl := fmt_len r
  obtain ⟨S, hS⟩ : ∃ S, S = fmtR r := ⟨_, rfl⟩
  rw [← hS] at hl ⊢
  clear hS O2 b3 S2
  go_wp2_with fail
  refine (pick_any w.heap.size _ _ _ S3.1 (by omega)).mono ?_
  rintro e w4 ⟨m, rfl, m0, m1, s4⟩
  have S4 := S3.trans s4
  clear s4 m1
  have fin : ∀ (W : World) (n : Nat), RdrStep w1 w.heap.size n W → Below w.heap.size w W := fun W n st =>
    B1.grown st.grown B1.size (fun k hk => by simp only [Option.some.injEq] at hk; omega)
  have FIN := Lib.hid fin
  clear fin
  by_cases h0 : m = 0
  · subst h0
    go_wp2_with fail
    refine (mutate_any w.heap.size _ S _ S4.1 (by omega) hl).mono ?_
    rintro e w5 ⟨T, rfl, hT, s5⟩
    go_wp2
    go_ret
    exact ⟨T, rfl, hT, FIN.out _ _ (S4.trans s5)⟩
  · have hm : (m == 0) = false := by simpa using h0
    go_wp2
    go_ret
    exact ⟨S, rfl, by omega, FIN.out _ _ S4⟩

end Go.Proofs.YtdofpealmngmiaaGreatDoor
