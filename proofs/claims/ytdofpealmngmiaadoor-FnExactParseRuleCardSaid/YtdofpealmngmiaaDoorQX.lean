/- The program's ParseRule returns what the reference's returns, for all arguments. Conditions: none. -/
import Derived.Test.YtdofpealmngmiaaDoorQO
import Derived.Test.YtdofpealmngmiaaDoorQM
namespace Go.Proofs.YtdofpealmngmiaaDoor
open Go.RowKit

set_option maxRecDepth 100000 in
set_option maxHeartbeats 8000000 in
theorem lawExactParseRule (T : List UInt8) (w : World) (hT : T.length ≤ 9223372036854775807) (hE : EnvB w.heap.size w) :
    Calls Tryd.prog 8 #[.string ⟨T.toArray⟩] w fun e w' => e = .returned (.bool true) ∧ Below w.heap.size w w' := by
  have hs : (⟨T.toArray⟩ : ByteArray).size = T.length := by simp [ByteArray.size]
  have HE := Lib.hid hE
  clear hE
  by_cases hbig : 1048576 < T.length
  · go_enter Tryd.func8, Tryd.ntmps8
    go_wp2
    go_ret
    exact ⟨rfl, Below.refl _ _⟩
  · have hl : T.length ≤ 1000000000 := by omega
    go_enter Tryd.func8, Tryd.ntmps8
    go_wp2_with fail
    refine (specOut T _ hl).mono ?_
    rintro e w1 ⟨ok, r, v1, R1, rfl, O1, B1⟩
    have hr := R1.len
    obtain ⟨ao, cap, rfl, _⟩ := owns_shape O1
    have a3 := heap_alloc_new w1 (.cells #[.int .i64 r.num, .int .i64 r.lvl, .int .i64 r.rank, .int .i64 r.group, .int .i64 r.kind, .int .i64 r.value, .int .i64 r.cap, .int .i64 r.lo, .int .i64 r.hi, .slice ao r.counts.length cap, .int .i64 r.coupon] 29)
    have O3 := Lib.hid (O1.alloc (.cells #[.int .i64 r.num, .int .i64 r.lvl, .int .i64 r.rank, .int .i64 r.group, .int .i64 r.kind, .int .i64 r.value, .int .i64 r.cap, .int .i64 r.lo, .int .i64 r.hi, .slice ao r.counts.length cap, .int .i64 r.coupon] 29))
    have B3 := Lib.hid (B1.alloc B1.size (.cells #[.int .i64 r.num, .int .i64 r.lvl, .int .i64 r.rank, .int .i64 r.group, .int .i64 r.kind, .int .i64 r.value, .int .i64 r.cap, .int .i64 r.lo, .int .i64 r.hi, .slice ao r.counts.length cap, .int .i64 r.coupon] 29))
    have A3 := Lib.hid a3
    have RR := Lib.hid R1
    have zB := B1.size
    have hb1 : ∀ k, (Value.slice ao r.counts.length cap).ownBlock = some k → k < w1.heap.size := fun k hk => (O1.lt k hk).2
    have z3 : w1.heap.size < (w1.alloc (.cells #[.int .i64 r.num, .int .i64 r.lvl, .int .i64 r.rank, .int .i64 r.group, .int .i64 r.kind, .int .i64 r.value, .int .i64 r.cap, .int .i64 r.lo, .int .i64 r.hi, .slice ao r.counts.length cap, .int .i64 r.coupon] 29)).heap.size := by simp
    clear O1 B1 a3 R1
    unfold ruV
    go_wp2_with fail
    refine (implOut T _ ((HE.out.below B3.out).upTo B3.out.size) hl).mono ?_
    rintro e w2 ⟨ok2, r2, v2, R2, rfl, O2, b2⟩
    obtain ⟨rfl, rfl⟩ := RR.out.one R2
    obtain ⟨bo, cap2, rfl, _, hbo⟩ := owns_shape_cap O2
    have hb2 : ∀ k, (Value.slice bo r.counts.length cap2).ownBlock = some k → w1.heap.size < k ∧ k < w2.heap.size := fun k hk => ⟨Nat.lt_of_lt_of_le z3 (O2.lt k hk).1, (O2.lt k hk).2⟩
    have B4 := Lib.hid (B3.out.trans (b2.mono B3.out.size))
    have A4 := Lib.hid ((b2.block w1.heap.size z3).trans A3.out)
    have P4 := Lib.hid (ownsRow_below O3.out b2 (Nat.le_refl _))
    have z4 : w1.heap.size < w2.heap.size := Nat.lt_of_lt_of_le z3 b2.size
    have ab : Below w2.heap.size w2 (w2.alloc (.cells #[.int .i64 r.num, .int .i64 r.lvl, .int .i64 r.rank, .int .i64 r.group, .int .i64 r.kind, .int .i64 r.value, .int .i64 r.cap, .int .i64 r.lo, .int .i64 r.hi, .slice bo r.counts.length cap2, .int .i64 r.coupon] 29)) := (Below.refl _ _).alloc (Nat.le_refl _) _
    have z5 : (w2.alloc (.cells #[.int .i64 r.num, .int .i64 r.lvl, .int .i64 r.rank, .int .i64 r.group, .int .i64 r.kind, .int .i64 r.value, .int .i64 r.cap, .int .i64 r.lo, .int .i64 r.hi, .slice bo r.counts.length cap2, .int .i64 r.coupon] 29)).heap.size = w2.heap.size + 1 := by simp
    obtain ⟨w5, hw5⟩ : ∃ w5, w5 = w2.alloc (.cells #[.int .i64 r.num, .int .i64 r.lvl, .int .i64 r.rank, .int .i64 r.group, .int .i64 r.kind, .int .i64 r.value, .int .i64 r.cap, .int .i64 r.lo, .int .i64 r.hi, .slice bo r.counts.length cap2, .int .i64 r.coupon] 29) := ⟨_, rfl⟩
    have e5 := heap_alloc_new w2 (.cells #[.int .i64 r.num, .int .i64 r.lvl, .int .i64 r.rank, .int .i64 r.group, .int .i64 r.kind, .int .i64 r.value, .int .i64 r.cap, .int .i64 r.lo, .int .i64 r.hi, .slice bo r.counts.length cap2, .int .i64 r.coupon] 29)
    rw [← hw5] at ab z5 e5
    have E5 := Lib.hid e5
    have B5 := Lib.hid (B4.out.trans (ab.mono B4.out.size))
    have A5 := Lib.hid ((ab.block w1.heap.size z4).trans A4.out)
    have P5 := Lib.hid (ownsRow_below P4.out ab (Nat.le_refl _))
    have O5 := Lib.hid (ownsRow_below O2 ab (Nat.le_refl _))
    have HW := Lib.hid hw5
    obtain ⟨⟨c0, c1, c2, c3, c4, c5, c6, c7, c8, c9, c10⟩, _⟩ := row11 A5.out
    obtain ⟨⟨d0, d1, d2, d3, d4, d5, d6, d7, d8, d9, d10⟩, _⟩ := row11 E5.out
    clear O2 b2 ab hw5 R2 O3 B3 A3 B4 A4 P4 e5 hbo
    unfold ruV
    go_upto_region 5 with fail
    rw [← HW.out]
    go_wp2_with fail
    refine (eqRule_any r _ _ _ (Rd.of_owns O5.out) (Rd.of_owns P5.out)).mono ?_
    rintro e w6 ⟨rfl, b6⟩
    have A6 := Lib.hid ((b6.block w1.heap.size (by omega)).trans A5.out)
    have E6 := Lib.hid ((b6.block w2.heap.size (by omega)).trans E5.out)
    have B6 := Lib.hid (B5.out.trans (b6.mono B5.out.size))
    have P6 := Lib.hid (ownsRow_below P5.out b6 (Nat.le_refl _))
    have O6 := Lib.hid (ownsRow_below O5.out b6 (Nat.le_refl _))
    have z6 : w2.heap.size < w6.heap.size := by have := b6.size; omega
    clear c0 c1 c2 c3 c4 c5 c6 c7 c8 c9 c10 d0 d1 d2 d3 d4 d5 d6 d7 d8 d9 d10
    obtain ⟨⟨d0, d1, d2, d3, d4, d5, d6, d7, d8, d9, d10⟩, _⟩ := row11 E6.out
    clear b6 A5 E5 B5 P5 O5 HW
    cases ok
    all_goals
      go_wp2_with fail
      refine (markRule_any _ r _ 1 _ O6.out (by omega) (by omega) (by omega)).mono ?_
      rintro e w7 ⟨rfl, o7, g7⟩
      have A7 := Lib.hid ((g7.block w1.heap.size (by omega) (fun hk => by have := (hb2 _ hk.symm).1; omega)).trans A6.out)
      have E7 := Lib.hid ((g7.block w2.heap.size z6 (fun hk => by have := (hb2 _ hk.symm).2; omega)).trans E6.out)
      have B7 := Lib.hid (B6.out.grown g7 B6.out.size (fun k hk => by have := (hb2 _ hk).1; omega))
      have V7 := Lib.hid ((((HE.out.below B6.out).any g7 (fun k hk => by have := (hb2 _ hk).1; omega))))
      have P7 := Lib.hid (P6.out.kept g7 (by
        cases hv : (Value.slice ao r.counts.length cap).ownBlock with
        | none => exact .inl rfl
        | some k =>
          right
          intro e
          have h1 := hb1 k hv
          have h2 := (hb2 k e.symm).1
          omega))
      have O7 := Lib.hid o7
      have z7 : w2.heap.size < w7.heap.size := Nat.lt_of_lt_of_le z6 g7.size
      clear d0 d1 d2 d3 d4 d5 d6 d7 d8 d9 d10
      obtain ⟨⟨d0, d1, d2, d3, d4, d5, d6, d7, d8, d9, d10⟩, _⟩ := row11 E7.out
      clear g7 o7 A6 E6 B6 P6 O6
      go_wp2_with fail
      refine (heldRule_any r _ 1 _ (by simpa using Rd.of_owns O7.out) (by omega) (by omega) (by omega)).mono ?_
      rintro e w8 ⟨rfl, b8⟩
      have A8 := Lib.hid ((b8.block w1.heap.size (by omega)).trans A7.out)
      have E8 := Lib.hid ((b8.block w2.heap.size z7).trans E7.out)
      have B8 := Lib.hid (B7.out.trans (b8.mono B7.out.size))
      have P8 := Lib.hid (ownsRow_below P7.out b8 (Nat.le_refl _))
      have O8 := Lib.hid (ownsRow_below O7.out b8 (Nat.le_refl _))
      have V8 := Lib.hid (V7.out.below b8)
      have z8 : w2.heap.size < w8.heap.size := Nat.lt_of_lt_of_le z7 b8.size
      have hq : ((1 + 2 * (r.counts.length : Int)) != (1 + 2 * (r.counts.length : Int))) = false := by simp
      have hq2 : ¬ (1 + 2 * (r.counts.length : Int) < 0) := by omega
      clear d0 d1 d2 d3 d4 d5 d6 d7 d8 d9 d10
      clear b8 A7 E7 B7 P7 O7 V7
      go_wp2_with fail
      refine (implOut T _ (V8.out.upTo B8.out.size) hl).mono ?_
      rintro e w9 ⟨ok3, r3, v3, R3, rfl, O9, b9⟩
      obtain ⟨rfl, rfl⟩ := RR.out.one R3
      obtain ⟨co, cap3, rfl, _⟩ := owns_shape O9
      have ab : Below w9.heap.size w9 (w9.alloc (.cells #[.int .i64 r.num, .int .i64 r.lvl, .int .i64 r.rank, .int .i64 r.group, .int .i64 r.kind, .int .i64 r.value, .int .i64 r.cap, .int .i64 r.lo, .int .i64 r.hi, .slice co r.counts.length cap3, .int .i64 r.coupon] 29)) := (Below.refl _ _).alloc (Nat.le_refl _) _
      have z10 : (w9.alloc (.cells #[.int .i64 r.num, .int .i64 r.lvl, .int .i64 r.rank, .int .i64 r.group, .int .i64 r.kind, .int .i64 r.value, .int .i64 r.cap, .int .i64 r.lo, .int .i64 r.hi, .slice co r.counts.length cap3, .int .i64 r.coupon] 29)).heap.size = w9.heap.size + 1 := by simp
      obtain ⟨w10, hw10⟩ : ∃ w10, w10 = w9.alloc (.cells #[.int .i64 r.num, .int .i64 r.lvl, .int .i64 r.rank, .int .i64 r.group, .int .i64 r.kind, .int .i64 r.value, .int .i64 r.cap, .int .i64 r.lo, .int .i64 r.hi, .slice co r.counts.length cap3, .int .i64 r.coupon] 29) := ⟨_, rfl⟩
      have e10 := heap_alloc_new w9 (.cells #[.int .i64 r.num, .int .i64 r.lvl, .int .i64 r.rank, .int .i64 r.group, .int .i64 r.kind, .int .i64 r.value, .int .i64 r.cap, .int .i64 r.lo, .int .i64 r.hi, .slice co r.counts.length cap3, .int .i64 r.coupon] 29)
      rw [← hw10] at ab z10 e10
      have z9 : w2.heap.size < w9.heap.size := Nat.lt_of_lt_of_le z8 b9.size
      have bb := b9.trans (ab.mono b9.size)
      have F10 := Lib.hid e10
      have A10 := Lib.hid ((bb.block w1.heap.size (by omega)).trans A8.out)
      have E10 := Lib.hid ((bb.block w2.heap.size z8).trans E8.out)
      have B10 := Lib.hid (B8.out.trans (bb.mono B8.out.size))
      have P10 := Lib.hid (ownsRow_below P8.out bb (Nat.le_refl _))
      have O10 := Lib.hid (ownsRow_below O8.out bb (Nat.le_refl _))
      have Q10 := Lib.hid (ownsRow_below O9 ab (Nat.le_refl _))
      have HW := Lib.hid hw10
      obtain ⟨⟨c0, c1, c2, c3, c4, c5, c6, c7, c8, c9, c10⟩, _⟩ := row11 A10.out
      obtain ⟨⟨f0, f1, f2, f3, f4, f5, f6, f7, f8, f9, f10⟩, _⟩ := row11 F10.out
      clear O9 b9 ab hw10 R3 A8 E8 B8 P8 O8 e10 bb V8
      unfold ruV
      go_upto_region 16 with fail
      rw [← HW.out]
      go_wp2_with fail
      refine (eqRule_any r _ _ _ (Rd.of_owns Q10.out) (Rd.of_owns P10.out)).mono ?_
      rintro e w11 ⟨rfl, b11⟩
      have E11 := Lib.hid ((b11.block w2.heap.size (by omega)).trans E10.out)
      have B11 := Lib.hid (B10.out.trans (b11.mono B10.out.size))
      have O11 := Lib.hid (ownsRow_below O10.out b11 (Nat.le_refl _))
      clear c0 c1 c2 c3 c4 c5 c6 c7 c8 c9 c10 f0 f1 f2 f3 f4 f5 f6 f7 f8 f9 f10
      obtain ⟨⟨d0, d1, d2, d3, d4, d5, d6, d7, d8, d9, d10⟩, _⟩ := row11 E11.out
      clear b11 A10 E10 B10 P10 O10 Q10 HW F10
      go_wp2_with fail
      refine (heldRule_any r _ 1 _ (by simpa using Rd.of_owns O11.out) (by omega) (by omega) (by omega)).mono ?_
      rintro e w12 ⟨rfl, b12⟩
      go_wp2
      go_ret
      exact ⟨rfl, B11.out.trans (b12.mono B11.out.size)⟩

end Go.Proofs.YtdofpealmngmiaaDoor
