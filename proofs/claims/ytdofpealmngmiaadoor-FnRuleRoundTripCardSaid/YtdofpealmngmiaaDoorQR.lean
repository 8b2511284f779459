/- ParseRule of FormatRule is the rule; for all arguments. Conditions: none. -/
import Derived.Test.YtdofpealmngmiaaDoorTW
import Derived.Test.YtdofpealmngmiaaDoorPK
import Derived.Test.YtdofpealmngmiaaDoorQE
namespace Go.Proofs.YtdofpealmngmiaaDoor
open Go.RowKit

theorem EnvB.below1 {B : Nat} {w W : World} (h : EnvB B w) (hb : Below w.heap.size w W) : EnvB B W := h.below hb
theorem EnvB.up {B C : Nat} {W : World} (h : EnvB B W) (hc : B ≤ C) : EnvB C W := by
  obtain ⟨W0, h1, h2⟩ := h
  exact ⟨W0, Nat.le_trans h1 hc, h2⟩

set_option maxRecDepth 100000 in
set_option maxHeartbeats 4000000 in
theorem lawRuleRoundTrip (z : List Int) (v : Value) (w : World) (hv : Rd w 1 v z.length (z.map (Value.int .u8))) (hz : ∀ x ∈ z, 0 ≤ x ∧ x ≤ 255) (hE : EnvB w.heap.size w) :
    Calls Tryd.prog 7 #[v] w fun e w' => e = .returned (.bool true) ∧ Below w.heap.size w w' := by
  have HV := Lib.hid hv
  have HE := Lib.hid hE
  have hm := hv.len
  unfold maxLen at hm
  obtain ⟨_, bo, bcap, rfl, _⟩ := hv
  clear hE
  by_cases hbig : 1048576 < z.length
  · go_enter Tryd.func7, Tryd.ntmps7
    go_wp2
    go_ret
    exact ⟨rfl, Below.refl _ _⟩
  · go_enter Tryd.func7, Tryd.ntmps7
    go_wp2_with fail
    refine (DrawFormatRule_any z _ w HV.out hz).mono ?_
    rintro e w1 ⟨r, v', rfl, O1, l1, B1⟩
    unfold ruV
    obtain ⟨ao, cap, rfl, _⟩ := owns_shape O1
    have a1 := heap_alloc_new w1 (.cells #[.int .i64 r.num, .int .i64 r.lvl, .int .i64 r.rank, .int .i64 r.group, .int .i64 r.kind, .int .i64 r.value, .int .i64 r.cap, .int .i64 r.lo, .int .i64 r.hi, .slice ao r.counts.length cap, .int .i64 r.coupon] 29)
    have O2 := Lib.hid (O1.alloc (.cells #[.int .i64 r.num, .int .i64 r.lvl, .int .i64 r.rank, .int .i64 r.group, .int .i64 r.kind, .int .i64 r.value, .int .i64 r.cap, .int .i64 r.lo, .int .i64 r.hi, .slice ao r.counts.length cap, .int .i64 r.coupon] 29))
    have B2 := Lib.hid (B1.alloc B1.size (.cells #[.int .i64 r.num, .int .i64 r.lvl, .int .i64 r.rank, .int .i64 r.group, .int .i64 r.kind, .int .i64 r.value, .int .i64 r.cap, .int .i64 r.lo, .int .i64 r.hi, .slice ao r.counts.length cap, .int .i64 r.coupon] 29))
    have zz : w1.heap.size < (w1.alloc (.cells #[.int .i64 r.num, .int .i64 r.lvl, .int .i64 r.rank, .int .i64 r.group, .int .i64 r.kind, .int .i64 r.value, .int .i64 r.cap, .int .i64 r.lo, .int .i64 r.hi, .slice ao r.counts.length cap, .int .i64 r.coupon] 29)).heap.size := by simp
    have A1 := Lib.hid a1
    obtain ⟨⟨c0, c1, c2, c3, c4, c5, c6, c7, c8, c9, c10⟩, _⟩ := row11 a1
    clear a1 O1
    go_wp2_with fail
    refine (implFormat_any r _ _ (HE.out.below1 B2.out).p.env (Rd.of_owns O2.out)).mono ?_
    rintro e w2 ⟨rfl, hb⟩
    clear c0 c1 c2 c3 c4 c5 c6 c7 c8 c9 c10
    have a2 := (hb.block w1.heap.size zz).trans A1.out
    have R2 := Lib.hid ((Rd.of_owns O2.out).below hb (Nat.le_refl _))
    have B3 := Lib.hid (B2.out.trans (hb.mono B2.out.size))
    obtain ⟨⟨c0, c1, c2, c3, c4, c5, c6, c7, c8, c9, c10⟩, _⟩ := row11 a2
    have A2 := Lib.hid a2
    have z2 := (Array.getElem?_eq_some_iff.1 a2).1
    clear a2 hb A1 B2 O2
    cases hok : okRu r
    · have hT : Hid (fmtR r = []) := by show fmtR r = []; unfold fmtR; rw [hok]; rfl
      rw [hT.out]
      go_wp2_with fail
      refine (specFormat_any r _ _ R2.out).mono ?_
      rintro e w3 ⟨rfl, hb⟩
      rw [hT.out]
      clear c0 c1 c2 c3 c4 c5 c6 c7 c8 c9 c10
      have a3 := (hb.block w1.heap.size z2).trans A2.out
      have R3 := Lib.hid (R2.out.below hb (Nat.le_refl _))
      have B4 := Lib.hid (B3.out.trans (hb.mono B3.out.size))
      obtain ⟨⟨c0, c1, c2, c3, c4, c5, c6, c7, c8, c9, c10⟩, _⟩ := row11 a3
      clear a3 hb
      go_wp2_with fail
      refine (specFormat_any r _ _ R3.out).mono ?_
      rintro e w4 ⟨rfl, hb⟩
      rw [hT.out]
      go_wp2
      go_ret
      exact ⟨rfl, B4.out.trans (hb.mono B4.out.size)⟩
    · have hT : Hid (fmtR r = textR r) := by show fmtR r = _; unfold fmtR; rw [hok]; rfl
      rw [hT.out]
      have hl := text_len (OkR.of hok)
      have hn0 := text_ne r
      have hne : (textR r == []) = false := by simpa using hn0
      go_wp2_with fail
      refine (specFormat_any r _ _ R2.out).mono ?_
      rintro e w3 ⟨rfl, hb⟩
      rw [hT.out]
      clear c0 c1 c2 c3 c4 c5 c6 c7 c8 c9 c10
      have a3 := (hb.block w1.heap.size z2).trans A2.out
      have R3 := Lib.hid (R2.out.below hb (Nat.le_refl _))
      have B4 := Lib.hid (B3.out.trans (hb.mono B3.out.size))
      have z3 := (Array.getElem?_eq_some_iff.1 a3).1
      have A3 := Lib.hid a3
      have OK := Lib.hid hok
      have LL := Lib.hid hl
      clear a3 hb hT R2 B3 A2 hok hn0 hl
      obtain ⟨T, hTT⟩ : ∃ T, T = textR r := ⟨_, rfl⟩
      rw [← hTT] at hne LL ⊢
      have TT := Lib.hid hTT
      clear hTT
      go_wp2_with fail
      refine (implParse T _ ((HE.out.below1 B4.out).up B4.out.size) (Nat.le_trans LL.out (by omega))).mono ?_
      rintro e w4 ⟨hP, hb⟩
      rcases hP with ⟨q, v4, h1, h2, h3, rfl, O4⟩ | ⟨h1, _⟩
      · have hq : r = q := h3 r OK.out TT.out.symm
        subst hq
        clear h1 h2 h3
        have a4 := (hb.block w1.heap.size z3).trans A3.out
        have R4 := Lib.hid (R3.out.below hb (Nat.le_refl _))
        have B5 := Lib.hid (B4.out.trans (hb.mono B4.out.size))
        have z4 := (Array.getElem?_eq_some_iff.1 a4).1
        obtain ⟨bo, cap2, rfl, _⟩ := owns_shape O4
        have O5 := Lib.hid (Rd.of_owns (O4.alloc (.cells #[.int .i64 r.num, .int .i64 r.lvl, .int .i64 r.rank, .int .i64 r.group, .int .i64 r.kind, .int .i64 r.value, .int .i64 r.cap, .int .i64 r.lo, .int .i64 r.hi, .slice bo r.counts.length cap2, .int .i64 r.coupon] 29)))
        have R5 := Lib.hid (R4.out.below ((Below.refl _ w4).alloc (Nat.le_refl _) (.cells #[.int .i64 r.num, .int .i64 r.lvl, .int .i64 r.rank, .int .i64 r.group, .int .i64 r.kind, .int .i64 r.value, .int .i64 r.cap, .int .i64 r.lo, .int .i64 r.hi, .slice bo r.counts.length cap2, .int .i64 r.coupon] 29)) (Nat.le_refl _))
        have a5 := (((Below.refl _ w4).alloc (Nat.le_refl _) (.cells #[.int .i64 r.num, .int .i64 r.lvl, .int .i64 r.rank, .int .i64 r.group, .int .i64 r.kind, .int .i64 r.value, .int .i64 r.cap, .int .i64 r.lo, .int .i64 r.hi, .slice bo r.counts.length cap2, .int .i64 r.coupon] 29)).block w1.heap.size z4).trans a4
        have b5 := heap_alloc_new w4 (.cells #[.int .i64 r.num, .int .i64 r.lvl, .int .i64 r.rank, .int .i64 r.group, .int .i64 r.kind, .int .i64 r.value, .int .i64 r.cap, .int .i64 r.lo, .int .i64 r.hi, .slice bo r.counts.length cap2, .int .i64 r.coupon] 29)
        have B6 := Lib.hid (B5.out.alloc B5.out.size (.cells #[.int .i64 r.num, .int .i64 r.lvl, .int .i64 r.rank, .int .i64 r.group, .int .i64 r.kind, .int .i64 r.value, .int .i64 r.cap, .int .i64 r.lo, .int .i64 r.hi, .slice bo r.counts.length cap2, .int .i64 r.coupon] 29))
        obtain ⟨⟨c0, c1, c2, c3, c4, c5, c6, c7, c8, c9, c10⟩, _⟩ := row11 a5
        obtain ⟨⟨d0, d1, d2, d3, d4, d5, d6, d7, d8, d9, d10⟩, _⟩ := row11 b5
        clear a4 a5 b5 hb O4 A3 R3 R4 B4 B5
        unfold ruV
        go_wp2_with fail
        refine (equalRule_any r _ _ _ O5.out R5.out).mono ?_
        rintro e w6 ⟨rfl, hb⟩
        go_wp2
        go_ret
        exact ⟨rfl, B6.out.trans (hb.mono B6.out.size)⟩
      · exact absurd TT.out.symm (h1 r OK.out)

end Go.Proofs.YtdofpealmngmiaaDoor
