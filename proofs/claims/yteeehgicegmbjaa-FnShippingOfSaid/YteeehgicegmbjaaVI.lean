/- Walks: the drawn arguments of the laws on shipping. Conditions: none. -/
import Derived.Test.YteeehgicegmbjaaVH
namespace Go.Proofs.Yteeehgicegmbjaa
open Go.RowKit

theorem results_tmp4 {fn : Func} {t u v x : Tmp} (h : fn.results = #[.tmp t, .tmp u, .tmp v, .tmp x]) (tmps : Array Value) (P : Program) (w : World) :
    (results fn tmps).run P w = .ok (.tuple #[tmps.getD t undef, tmps.getD u undef, tmps.getD v undef, tmps.getD x undef]) w := by
  simp [results, h]

set_option maxHeartbeats 1000000 in
theorem someAmount_any (R u : Nat) (w : World) (h : Rdr w R u) (hu : u ≤ 1000000002000) :
    Calls Try.prog 52 #[.pointer (some ⟨R, 0, none⟩)] w fun e w' => ∃ d : Int, e = .returned (.int .i64 d) ∧ -2000000 ≤ d ∧ d ≤ 2000000 ∧ RdrStep w R (u + 2) w' := by
  have hR := h.lt
  have H := Lib.hid h
  clear h
  go_enter Try.func52, Try.ntmps52
  go_wp2_with fail
  refine (pick_any R _ _ _ H.out (by omega)).mono ?_
  rintro e w3 ⟨k0, rfl, hk0, hk1, s3⟩
  have hk2 := hk1 (by omega)
  have S3 := Lib.hid s3
  clear hk1 s3
  go_wp2_with fail
  refine (one_lit R _ [0, 1, 99, 100, 250, 1000, 333, 12345, 1000000, 5 * k0] _ _ S3.out.1 (by omega) (by simp) (by simp)).mono ?_
  rintro e w6 ⟨q, hq, rfl, s6⟩
  have hq1 : -2000000 ≤ q ∧ q ≤ 2000000 := by
    simp only [List.mem_cons, List.not_mem_nil, or_false] at hq
    omega
  clear hq
  go_wp2
  go_ret
  exact ⟨q, rfl, hq1.1, hq1.2, (S3.out.trans s6).mono (by omega)⟩

set_option maxHeartbeats 1000000 in
theorem anyAmount_any (R u : Nat) (w : World) (h : Rdr w R u) (hu : u ≤ 1000000001500) :
    Calls Try.prog 47 #[.pointer (some ⟨R, 0, none⟩)] w fun e w' => ∃ d : Int, e = .returned (.int .i64 d) ∧ -2000000 ≤ d ∧ d ≤ 2000000 ∧ RdrStep w R (u + 3) w' := by
  have hR := h.lt
  have H := Lib.hid h
  clear h
  go_enter Try.func47, Try.ntmps47
  go_wp2_with fail
  refine (pick_any R _ _ _ H.out (by omega)).mono ?_
  rintro e w3 ⟨k0, rfl, hk0, hk1, s3⟩
  have S3 := Lib.hid s3
  clear hk1 s3
  cases hk2 : (k0 == 0)
  · go_wp2_with fail
    refine (someAmount_any R _ _ S3.out.1 (by omega)).mono ?_
    rintro e w6 ⟨q, rfl, hq1, hq2, s6⟩
    go_wp2
    go_ret
    exact ⟨q, rfl, hq1, hq2, (S3.out.trans s6).mono (by omega)⟩
  · go_wp2_with fail
    refine (one_lit R _ [-1, 1000001] _ _ S3.out.1 (by omega) (by simp) (by simp)).mono ?_
    rintro e w6 ⟨q, hq, rfl, s6⟩
    have hq1 : -2000000 ≤ q ∧ q ≤ 2000000 := (by decide : ∀ x ∈ ([-1, 1000001] : List Int), -2000000 ≤ x ∧ x ≤ 2000000) q hq
    go_wp2
    go_ret
    exact ⟨q, rfl, hq1.1, hq1.2, (S3.out.trans s6).mono (by omega)⟩

/-- Drawn bands, a weight, an amount and a limit, seen from the law. -/
def DrawSPost (w : World) (e : Ending) (w' : World) : Prop :=
  ∃ (l : List (Int × Int)) (v : Value) (x a m : Int), e = .returned (.tuple #[v, .int .i64 x, .int .i64 a, .int .i64 m]) ∧ w'.ownsRow w.heap.size 37 2 v l.length (pr l) ∧ l.length ≤ 6 ∧ (-2000000 ≤ x ∧ x ≤ 2000000 ∧ -2000000 ≤ a ∧ a ≤ 2000000 ∧ -2000000 ≤ m ∧ m ≤ 2000000) ∧ Below w.heap.size w w'

set_option maxHeartbeats 1000000 in
theorem drawShippingOf_any (z : List Int) (v : Value) (w : World) (hv : Rd w 1 v z.length (z.map (Value.int .u8))) (hz : ∀ x ∈ z, 0 ≤ x ∧ x ≤ 255) :
    Calls Try.prog 26 #[v] w (DrawSPost w) := by
  have HV := Lib.hid hv
  have HZ := Lib.hid hz
  clear hv hz
  go_enter Try.func26, Try.ntmps26
  go_wp2_with fail
  refine (newReader_any z _ _ HV.out HZ.out).mono ?_
  rintro e w1 ⟨rfl, hr, hb⟩
  have hR := hr.lt
  go_wp2_with fail
  refine (anyBands_any _ _ _ hr (by omega)).mono ?_
  rintro e w2 ⟨l, u, rfl, ho, hs, hl, hst⟩
  go_wp2_with fail
  refine (someWeight_any _ _ w1.heap.size l _ _ hst.1 (by omega) ho hR hs hl).mono ?_
  rintro e w3 ⟨x, rfl, hx1, hx2, s3⟩
  have o3 := Lib.hid (owns_step ho s3 hR)
  have st3 := hst.trans s3
  clear ho hst s3
  go_wp2_with fail
  refine (anyAmount_any _ _ _ st3.1 (by omega)).mono ?_
  rintro e w4 ⟨a, rfl, ha1, ha2, s4⟩
  have o4 := Lib.hid (owns_step o3.out s4 hR)
  have st4 := st3.trans s4
  clear o3 st3 s4
  go_wp2_with fail
  refine (one_lit _ _ [1000, 0, a, 1000000, 1000001, -1] _ _ st4.1 (by omega) (by simp) (by simp)).mono ?_
  rintro e w6 ⟨m, hq, rfl, s6⟩
  have hq1 : -2000000 ≤ m ∧ m ≤ 2000000 := by
    simp only [List.mem_cons, List.not_mem_nil, or_false] at hq
    omega
  have o6 := Lib.hid (owns_step o4.out s6 hR)
  have st6 := st4.trans s6
  clear hq o4 st4 s6
  go_wp2
  (try simp only [Exit.inBlock, Exit.then])
  refine bodyPost_ret (results_tmp4 rfl _ _ _) rfl ?_
  exact ⟨l, u, x, a, m, rfl, owns_base o6.out hb.size, hl, ⟨hx1, hx2, ha1, ha2, hq1.1, hq1.2⟩, st6.fresh hb (Nat.le_refl _)⟩

end Go.Proofs.Yteeehgicegmbjaa
