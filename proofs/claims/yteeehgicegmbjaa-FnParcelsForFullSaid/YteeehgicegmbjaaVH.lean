/- Walks: the drawn arguments of the laws on bands. Conditions: none. -/
import Derived.Test.YteeehgicegmbjaaVG
import Derived.Deep.RegionHeld3
import Derived.Deep.RegionWith
namespace Go.Proofs.Yteeehgicegmbjaa
open Go.RowKit

/-- Drawn bands, seen from the law. -/
def DrawBPost (w : World) (e : Ending) (w' : World) : Prop :=
  ∃ (l : List (Int × Int)) (v : Value), e = .returned v ∧ w'.ownsRow w.heap.size 37 2 v l.length (pr l) ∧ smallM l ∧ l.length ≤ 6 ∧ Below w.heap.size w w'

set_option maxHeartbeats 1000000 in
theorem drawValidBands_any (z : List Int) (v : Value) (w : World) (hv : Rd w 1 v z.length (z.map (Value.int .u8))) (hz : ∀ x ∈ z, 0 ≤ x ∧ x ≤ 255) :
    Calls Try.prog 15 #[v] w (DrawBPost w) := by
  have HV := Lib.hid hv
  have HZ := Lib.hid hz
  clear hv hz
  go_enter Try.func15, Try.ntmps15
  go_wp2_with fail
  refine (newReader_any z _ _ HV.out HZ.out).mono ?_
  rintro e w1 ⟨rfl, hr, hb⟩
  go_wp2_with fail
  refine (anyBands_any _ _ _ hr (by omega)).mono ?_
  rintro e w2 ⟨l, u, rfl, ho, hs, hl, hst⟩
  go_wp2
  go_ret
  exact ⟨l, u, rfl, owns_base ho hb.size, hs, hl, hst.fresh hb (Nat.le_refl _)⟩

set_option maxHeartbeats 1000000 in
theorem someWeight_any (R u base : Nat) (l : List (Int × Int)) (v : Value) (w : World) (h : Rdr w R u) (hu : u ≤ 1000000001000) (ho : w.ownsRow base 37 2 v l.length (pr l)) (hb : R < base) (hs : smallM l) (hl : l.length ≤ 6) :
    Calls Try.prog 45 #[.pointer (some ⟨R, 0, none⟩), v] w fun e w' => ∃ d : Int, e = .returned (.int .i64 d) ∧ -2000000 ≤ d ∧ d ≤ 2000000 ∧ RdrStep w R (u + 5) w' := by
  have hR := h.lt
  have H := Lib.hid h
  have O := Lib.hid ho
  obtain ⟨ao, cap, rfl, hg⟩ := owns_shape ho
  have HG := Lib.hid hg
  have HS := Lib.hid hs
  clear h ho hg hs
  by_cases hl0 : 0 < l.length
  · obtain ⟨g, rfl, hgb⟩ := HG.out hl0
    go_enter Try.func45, Try.ntmps45
    go_wp2_with fail
    refine (pick_any R _ _ _ H.out (by omega)).mono ?_
    rintro e w3 ⟨k0, rfl, hk0, hk1, s3⟩
    have O3 := Lib.hid (owns_step O.out s3 hb)
    have S3 := Lib.hid s3
    clear hk1 s3
    cases hk2 : (k0 == 0)
    · go_wp2_with fail
      refine (one_lit R _ [0, 100, 700, 5000, 800000, -1] _ _ S3.out.1 (by omega) (by simp) (by simp)).mono ?_
      rintro e w6 ⟨q, hq, rfl, s6⟩
      have hq1 : -2000000 ≤ q ∧ q ≤ 2000000 := (by decide : ∀ x ∈ ([0, 100, 700, 5000, 800000, -1] : List Int), -2000000 ≤ x ∧ x ≤ 2000000) q hq
      go_wp2
      go_ret
      exact ⟨q, rfl, by omega, by omega, (S3.out.trans s6).mono (by omega)⟩
    · go_wp2_with fail
      have s3d := S3.out.drew
      have O3d := Lib.hid (owns_step O3.out ((RdrStep.refl S3.out.1).drew) hb)
      have s3a : RdrStep w R (u + 1) ((w3.alloc (.cells #[.int .i64 0, .int .i64 1, .int .i64 (-1)] 3)).drew) := (S3.out.alloc _).drew
      have O3a := Lib.hid (owns_step O3.out (((RdrStep.refl S3.out.1).alloc (.cells #[.int .i64 0, .int .i64 1, .int .i64 (-1)] 3)).drew) hb)
      have hgr : g ≠ R := by omega
      have hR3 := S3.out.1.lt
      go_region_with (first | (go_at_call 51; (with_reducible refine (pick_any R (u + 1) _ w3.drew s3d.1 (by omega)).mono ?_); rintro e w4 ⟨k1, rfl, hk3, hk4, s4⟩; have O4 := Lib.hid (owns_step O3d.out s4 hb); have hk5 := hk4 (by omega); obtain ⟨k, rfl⟩ := Int.eq_ofNat_of_zero_le hk3; have hk6 : k < l.length := (by omega); have z5 : g < w4.heap.size := (O4.out.lt g rfl).2; have c4 := (owns_at2 O4.out k hk6).1; have z4 := s4.1.lt; have S4 := Lib.hid s4; clear s4 hk4 hk5 hk3) | (go_at_call 51; (with_reducible refine (pick_any R (u + 1) _ _ s3a.1 (by omega)).mono ?_); rintro e w4 ⟨k1, rfl, hk3, hk4, s4⟩; have O4 := Lib.hid (owns_step O3a.out s4 hb); have C4 := Lib.hid (lit_step [0, 1, -1] _ s4 hR3); have hk5 := hk4 (by omega); obtain ⟨k, rfl⟩ := Int.eq_ofNat_of_zero_le hk3; have hk6 : k < l.length := (by omega); have z5 : g < w4.heap.size := (O4.out.lt g rfl).2; have c4 := (owns_at2 O4.out k hk6).1; have z4 := s4.1.lt; have S4 := Lib.hid s4; clear s4 hk4 hk5 hk3) | (go_at_call 48; refine (one_gen R _ w3.heap.size [0, 1, -1] w4 S4.out.1 (by omega) (by omega) (by have := S4.out.2.size; simp at this; omega) (by simp) (by simp) C4.out).mono ?_; rintro e w6 ⟨q, hq, rfl, s6⟩; have c6 := (owns_at2 (owns_step O4.out s6 hb) k hk6).1; have S6 := Lib.hid s6; clear s6; have hq1 : -10000 ≤ q ∧ q ≤ 10000 := (by decide : ∀ x ∈ ([0, 1, -1] : List Int), -10000 ≤ x ∧ x ≤ 10000) q hq; clear hq) | (go_at_call 48; refine (one_lit R _ [0, 1, -1] w4 _ S4.out.1 (by omega) (by simp) (by simp)).mono ?_; rintro e w6 ⟨q, hq, rfl, s6⟩; have c6 := (owns_at2 (owns_step O4.out s6 hb) k hk6).1; have S6 := Lib.hid s6; clear s6; have hq1 : -10000 ≤ q ∧ q ≤ 10000 := (by decide : ∀ x ∈ ([0, 1, -1] : List Int), -10000 ≤ x ∧ x ≤ 10000) q hq; clear hq))
      all_goals go_wp2
      all_goals go_ret
      all_goals
        have hsm := smallM_get HS.out hk6
        have ew : IntKind.i64.wrap (pA l k + q) = pA l k + q := IntWalk.i64_in _ (by omega)
        refine ⟨pA l k + q, ret_i ew, by omega, by omega, ?_⟩
        first | exact (s3d.trans (S4.out.trans S6.out)).mono (by omega) | exact (s3a.trans (S4.out.trans S6.out)).mono (by omega)
  · go_enter Try.func45, Try.ntmps45
    go_wp2_with fail
    refine (one_lit R _ [0, 100, 700, 5000, 800000, -1] _ _ H.out (by omega) (by simp) (by simp)).mono ?_
    rintro e w6 ⟨q, hq, rfl, s6⟩
    have hq1 : -2000000 ≤ q ∧ q ≤ 2000000 := (by decide : ∀ x ∈ ([0, 100, 700, 5000, 800000, -1] : List Int), -2000000 ≤ x ∧ x ≤ 2000000) q hq
    go_wp2
    go_ret
    exact ⟨q, rfl, by omega, by omega, s6.mono (by omega)⟩

/-- Drawn bands and a weight, seen from the law. -/
def DrawWPost (w : World) (e : Ending) (w' : World) : Prop :=
  ∃ (l : List (Int × Int)) (v : Value) (d : Int), e = .returned (.tuple #[v, .int .i64 d]) ∧ w'.ownsRow w.heap.size 37 2 v l.length (pr l) ∧ smallM l ∧ l.length ≤ 6 ∧ -2000000 ≤ d ∧ d ≤ 2000000 ∧ Below w.heap.size w w'

set_option maxHeartbeats 1000000 in
theorem drawParcelPrice_any (z : List Int) (v : Value) (w : World) (hv : Rd w 1 v z.length (z.map (Value.int .u8))) (hz : ∀ x ∈ z, 0 ≤ x ∧ x ≤ 255) :
    Calls Try.prog 23 #[v] w (DrawWPost w) := by
  have HV := Lib.hid hv
  have HZ := Lib.hid hz
  clear hv hz
  go_enter Try.func23, Try.ntmps23
  go_wp2_with fail
  refine (newReader_any z _ _ HV.out HZ.out).mono ?_
  rintro e w1 ⟨rfl, hr, hb⟩
  have hR := hr.lt
  go_wp2_with fail
  refine (anyBands_any _ _ _ hr (by omega)).mono ?_
  rintro e w2 ⟨l, u, rfl, ho, hs, hl, hst⟩
  go_wp2_with fail
  refine (someWeight_any _ _ w1.heap.size l _ _ hst.1 (by omega) ho hR hs hl).mono ?_
  rintro e w3 ⟨d, rfl, hd1, hd2, s3⟩
  have o3 := owns_step ho s3 hR
  go_wp2
  go_ret2
  exact ⟨l, u, d, rfl, owns_base o3 hb.size, hs, hl, hd1, hd2, (hst.trans s3).fresh hb (Nat.le_refl _)⟩

end Go.Proofs.Yteeehgicegmbjaa
