/- FormatRule of what ParseRule accepts is the text; for all arguments. Conditions: none. -/
import Derived.Test.YtdofpealmngmiaaGreatDoorQO
import Derived.Test.YtdofpealmngmiaaGreatDoorQE
import Derived.Test.YtdofpealmngmiaaGreatDoorDQ
namespace Go.Proofs.YtdofpealmngmiaaGreatDoor
open Go.RowKit

set_option maxRecDepth 100000 in
set_option maxHeartbeats 8000000 in
theorem lawRuleCanonical (z : List Int) (v : Value) (w : World) (hv : Rd w 1 v z.length (z.map (Value.int .u8))) (hz : ∀ x ∈ z, 0 ≤ x ∧ x ≤ 255) (hE : EnvB w.heap.size w) :
    Calls Tryz.prog 3 #[v] w fun e w' => e = .returned (.bool true) ∧ Below w.heap.size w w' := by
  have HV := Lib.hid hv
  have HE := Lib.hid hE
  have hm := hv.len
  unfold maxLen at hm
  obtain ⟨_, bo, bcap, rfl, _⟩ := hv
  clear hE
  by_cases hbig : 1048576 < z.length
  · go_enter Tryz.func3, Tryz.ntmps3
    go_wp2
    go_ret
    exact ⟨rfl, Below.refl _ _⟩
  · go_enter Tryz.func3, Tryz.ntmps3
    go_wp2_with fail
    refine (DrawParseRule_any z _ w HV.out hz).mono ?_
    rintro e w1 ⟨T, rfl, hT, B1⟩
    have hl : T.length ≤ 1000000000 := by omega
    have BB1 := Lib.hid B1
    clear B1
    go_wp2_with fail
    refine (implOut T _ ((HE.out.below BB1.out).upTo BB1.out.size) hl).mono ?_
    rintro e w2 ⟨ok, r, v1, R1, rfl, O1, b1⟩
    have B2 := Lib.hid (BB1.out.trans (b1.mono BB1.out.size))
    have hr := R1.len
    obtain ⟨ao, cap, rfl, _⟩ := owns_shape O1
    have a3 := heap_alloc_new w2 (.cells #[.int .i64 r.num, .int .i64 r.lvl, .int .i64 r.rank, .int .i64 r.group, .int .i64 r.kind, .int .i64 r.value, .int .i64 r.cap, .int .i64 r.lo, .int .i64 r.hi, .slice ao r.counts.length cap, .int .i64 r.coupon] 30)
    have O3 := Lib.hid (O1.alloc (.cells #[.int .i64 r.num, .int .i64 r.lvl, .int .i64 r.rank, .int .i64 r.group, .int .i64 r.kind, .int .i64 r.value, .int .i64 r.cap, .int .i64 r.lo, .int .i64 r.hi, .slice ao r.counts.length cap, .int .i64 r.coupon] 30))
    have B3 := Lib.hid (B2.out.alloc B2.out.size (.cells #[.int .i64 r.num, .int .i64 r.lvl, .int .i64 r.rank, .int .i64 r.group, .int .i64 r.kind, .int .i64 r.value, .int .i64 r.cap, .int .i64 r.lo, .int .i64 r.hi, .slice ao r.counts.length cap, .int .i64 r.coupon] 30))
    have A3 := Lib.hid a3
    have RR := Lib.hid R1
    have z3 : w2.heap.size < (w2.alloc (.cells #[.int .i64 r.num, .int .i64 r.lvl, .int .i64 r.rank, .int .i64 r.group, .int .i64 r.kind, .int .i64 r.value, .int .i64 r.cap, .int .i64 r.lo, .int .i64 r.hi, .slice ao r.counts.length cap, .int .i64 r.coupon] 30)).heap.size := by simp
    clear O1 b1 a3 R1 B2 BB1
    unfold ruV
    go_wp2_with fail
    refine (specOut T _ hl).mono ?_
    rintro e w3 ⟨ok2, r2, v2, R2, rfl, O2, b2⟩
    obtain ⟨rfl, rfl⟩ := RR.out.one R2
    obtain ⟨bo2, cap2, rfl, _⟩ := owns_shape O2
    have B4 := Lib.hid (B3.out.trans (b2.mono B3.out.size))
    have A4 := Lib.hid ((b2.block w2.heap.size z3).trans A3.out)
    have P4 := Lib.hid (ownsRow_below O3.out b2 (Nat.le_refl _))
    have z4 : w2.heap.size < w3.heap.size := Nat.lt_of_lt_of_le z3 b2.size
    have ab : Below w3.heap.size w3 (w3.alloc (.cells #[.int .i64 r.num, .int .i64 r.lvl, .int .i64 r.rank, .int .i64 r.group, .int .i64 r.kind, .int .i64 r.value, .int .i64 r.cap, .int .i64 r.lo, .int .i64 r.hi, .slice bo2 r.counts.length cap2, .int .i64 r.coupon] 30)) := (Below.refl _ _).alloc (Nat.le_refl _) _
    have z5 : (w3.alloc (.cells #[.int .i64 r.num, .int .i64 r.lvl, .int .i64 r.rank, .int .i64 r.group, .int .i64 r.kind, .int .i64 r.value, .int .i64 r.cap, .int .i64 r.lo, .int .i64 r.hi, .slice bo2 r.counts.length cap2, .int .i64 r.coupon] 30)).heap.size = w3.heap.size + 1 := by simp
    obtain ⟨w5, hw5⟩ : ∃ w5, w5 = w3.alloc (.cells #[.int .i64 r.num, .int .i64 r.lvl, .int .i64 r.rank, .int .i64 r.group, .int .i64 r.kind, .int .i64 r.value, .int .i64 r.cap, .int .i64 r.lo, .int .i64 r.hi, .slice bo2 r.counts.length cap2, .int .i64 r.coupon] 30) := ⟨_, rfl⟩
    have e5 := heap_alloc_new w3 (.cells #[.int .i64 r.num, .int .i64 r.lvl, .int .i64 r.rank, .int .i64 r.group, .int .i64 r.kind, .int .i64 r.value, .int .i64 r.cap, .int .i64 r.lo, .int .i64 r.hi, .slice bo2 r.counts.length cap2, .int .i64 r.coupon] 30)
    rw [← hw5] at ab z5 e5
    have E5 := Lib.hid e5
    have B5 := Lib.hid (B4.out.trans (ab.mono B4.out.size))
    have A5 := Lib.hid ((ab.block w2.heap.size z4).trans A4.out)
    have P5 := Lib.hid (ownsRow_below P4.out ab (Nat.le_refl _))
    have O5 := Lib.hid (ownsRow_below O2 ab (Nat.le_refl _))
    have HW := Lib.hid hw5
    obtain ⟨⟨c0, c1, c2, c3, c4, c5, c6, c7, c8, c9, c10⟩, _⟩ := row11 A5.out
    obtain ⟨⟨d0, d1, d2, d3, d4, d5, d6, d7, d8, d9, d10⟩, _⟩ := row11 E5.out
    clear O2 b2 ab hw5 R2 O3 B3 A3 B4 A4 P4 e5
    unfold ruV
    go_upto_region 6 with fail
    rw [← HW.out]
    go_wp2_with fail
    refine (equalRule_any r _ _ _ (Rd.of_owns P5.out) (Rd.of_owns O5.out)).mono ?_
    rintro e w6 ⟨rfl, b6⟩
    have A6 := Lib.hid ((b6.block w2.heap.size (by omega)).trans A5.out)
    have B6 := Lib.hid (B5.out.trans (b6.mono B5.out.size))
    have P6 := Lib.hid (ownsRow_below P5.out b6 (Nat.le_refl _))
    have z6 : w2.heap.size < w6.heap.size := by have := b6.size; omega
    clear c0 c1 c2 c3 c4 c5 c6 c7 c8 c9 c10 d0 d1 d2 d3 d4 d5 d6 d7 d8 d9 d10
    obtain ⟨⟨c0, c1, c2, c3, c4, c5, c6, c7, c8, c9, c10⟩, _⟩ := row11 A6.out
    clear b6 A5 E5 B5 P5 O5 HW
    cases ok
    · go_wp2
      go_ret
      exact ⟨rfl, B6.out⟩
    · obtain ⟨hok, ht⟩ : okRu r = true ∧ textR r = T := by
        rcases RR.out with ⟨_, h1, h2, _⟩ | ⟨h, _⟩
        · exact ⟨h1, h2⟩
        · cases h
      have hf : fmtR r = T := by unfold fmtR; rw [hok]; exact ht
      have HF := Lib.hid hf
      have HO := Lib.hid hok
      clear hf hok ht RR
      go_wp2_with fail
      refine (implFormat_any r _ _ (HE.out.below B6.out).p.env (Rd.of_owns P6.out)).mono ?_
      rintro e w7 ⟨rfl, b7⟩
      rw [HF.out]
      have A7 := Lib.hid ((b7.block w2.heap.size z6).trans A6.out)
      have B7 := Lib.hid (B6.out.trans (b7.mono B6.out.size))
      have P7 := Lib.hid (ownsRow_below P6.out b7 (Nat.le_refl _))
      clear c0 c1 c2 c3 c4 c5 c6 c7 c8 c9 c10
      obtain ⟨⟨c0, c1, c2, c3, c4, c5, c6, c7, c8, c9, c10⟩, _⟩ := row11 A7.out
      clear b7 A6 B6 P6
      go_wp2_with fail
      refine (implRule_any r _ _ (Rd.of_owns P7.out)).mono ?_
      rintro e w8 ⟨rfl, b8⟩
      rw [HO.out]
      go_wp2
      go_ret
      exact ⟨rfl, B7.out.trans (b8.mono B7.out.size)⟩

end Go.Proofs.YtdofpealmngmiaaGreatDoor
