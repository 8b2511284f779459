/- What is not limited is not written: the text of a rule without a group, a cap and a guard is the front of the rule's; for all arguments. Conditions: none. -/
import Derived.Test.YtdofpealmngmiaaDoorTW
import Derived.Test.YtdofpealmngmiaaDoorRU
import Derived.Test.YtdofpealmngmiaaDoorRSX
namespace Go.Proofs.YtdofpealmngmiaaDoor
open Go.RowKit

/-- the guard of every cart -/
theorem always_any (w : World) : Calls Tryd.prog 12 #[] w fun e w' => ∃ g, e = .returned (.agg #[.int .i64 0, .int .i64 1000000, .slice (some ⟨g, 0, none⟩) 3 3, .int .i64 0]) ∧ w.heap.size ≤ g ∧
    w'.heap[g]? = some (.cells #[.int .i64 0, .int .i64 1000000, .int .i64 0, .int .i64 1000000, .int .i64 0, .int .i64 1000000] 24 (0, 0)) ∧ Below w.heap.size w w' := by
  go_enter Tryd.func12, Tryd.ntmps12
  go_wp2
  have e := three_blocks w (.cells #[.int .i64 0, .int .i64 1000000, .slice (some ⟨w.heap.size + 1 + 1, 0, none⟩) 3 3, .int .i64 0] 27) (.cells #[.int .i64 0, .int .i64 1000000] 24) (.cells #[.int .i64 0, .int .i64 1000000, .int .i64 0, .int .i64 1000000, .int .i64 0, .int .i64 1000000] 24)
  obtain ⟨e0, _, e2, z3, b3⟩ := e
  refine bodyPost_ret (results_row (p := 0) (ty := 27) rfl row27 _ _ w.heap.size 27 _ rfl rfl e0) rfl ?_
  exact ⟨w.heap.size + 1 + 1, rfl, by omega, e2, b3⟩

set_option maxRecDepth 100000 in
set_option maxHeartbeats 4000000 in
theorem lawRuleTextShort (z : List Int) (v : Value) (w : World) (hv : Rd w 1 v z.length (z.map (Value.int .u8))) (hz : ∀ x ∈ z, 0 ≤ x ∧ x ≤ 255) (hE : Env w) :
    Calls Tryd.prog 4 #[v] w fun e w' => e = .returned (.bool true) ∧ Below w.heap.size w w' := by
  have HV := Lib.hid hv
  have HE := Lib.hid hE
  have hm := hv.len
  unfold maxLen at hm
  obtain ⟨_, bo, bcap, rfl, _⟩ := hv
  clear hE
  by_cases hbig : 1048576 < z.length
  · go_enter Tryd.func4, Tryd.ntmps4
    go_wp2
    go_ret
    exact ⟨rfl, Below.refl _ _⟩
  · go_enter Tryd.func4, Tryd.ntmps4
    go_wp2_with fail
    refine (DrawFormatRule_any z _ w HV.out hz).mono ?_
    rintro e w1 ⟨r, v', rfl, O1, l1, B1⟩
    unfold ruV
    obtain ⟨ao, cap, rfl, _⟩ := owns_shape O1
    have a1 := heap_alloc_new w1 (.cells #[.int .i64 r.num, .int .i64 r.lvl, .int .i64 r.rank, .int .i64 r.group, .int .i64 r.kind, .int .i64 r.value, .int .i64 r.cap, .int .i64 r.lo, .int .i64 r.hi, .slice ao r.counts.length cap, .int .i64 r.coupon] 29)
    have O2 := Lib.hid (O1.alloc (.cells #[.int .i64 r.num, .int .i64 r.lvl, .int .i64 r.rank, .int .i64 r.group, .int .i64 r.kind, .int .i64 r.value, .int .i64 r.cap, .int .i64 r.lo, .int .i64 r.hi, .slice ao r.counts.length cap, .int .i64 r.coupon] 29))
    have B2 := Lib.hid (B1.alloc B1.size (.cells #[.int .i64 r.num, .int .i64 r.lvl, .int .i64 r.rank, .int .i64 r.group, .int .i64 r.kind, .int .i64 r.value, .int .i64 r.cap, .int .i64 r.lo, .int .i64 r.hi, .slice ao r.counts.length cap, .int .i64 r.coupon] 29))
    have zz : w1.heap.size < (w1.alloc (.cells #[.int .i64 r.num, .int .i64 r.lvl, .int .i64 r.rank, .int .i64 r.group, .int .i64 r.kind, .int .i64 r.value, .int .i64 r.cap, .int .i64 r.lo, .int .i64 r.hi, .slice ao r.counts.length cap, .int .i64 r.coupon] 29)).heap.size := by simp
    have A1 := Lib.hid a1
    obtain ⟨⟨c0, c1, c2, c3, c4, c5, c6, c7, c8, c9, c10⟩, _⟩ := row11 a1
    clear a1 O1
    go_wp2_with fail
    refine (implFormat_any r _ _ (HE.out.below B2.out) (Rd.of_owns O2.out)).mono ?_
    rintro e w2 ⟨rfl, hb⟩
    clear c0 c1 c2 c3 c4 c5 c6 c7 c8 c9 c10
    have a2 := (hb.block w1.heap.size zz).trans A1.out
    have R2 := Lib.hid ((Rd.of_owns O2.out).below hb (Nat.le_refl _))
    have B3 := Lib.hid (B2.out.trans (hb.mono B2.out.size))
    obtain ⟨⟨c0, c1, c2, c3, c4, c5, c6, c7, c8, c9, c10⟩, _⟩ := row11 a2
    have A2 := Lib.hid a2
    have z2 := (Array.getElem?_eq_some_iff.1 a2).1
    clear a2 hb A1 B2 O2
    cases hok : okRu r
    · have hT : Hid (fmtR r = []) := by show fmtR r = []; unfold fmtR; rw [hok]; rfl
      rw [hT.out]
      go_wp2_with fail
      refine (specFormat_any r _ _ R2.out).mono ?_
      rintro e w3 ⟨rfl, hb⟩
      rw [hT.out]
      clear c0 c1 c2 c3 c4 c5 c6 c7 c8 c9 c10
      have a3 := (hb.block w1.heap.size z2).trans A2.out
      have R3 := Lib.hid (R2.out.below hb (Nat.le_refl _))
      have B4 := Lib.hid (B3.out.trans (hb.mono B3.out.size))
      obtain ⟨⟨c0, c1, c2, c3, c4, c5, c6, c7, c8, c9, c10⟩, _⟩ := row11 a3
      clear a3 hb
      go_wp2_with fail
      refine (specFormat_any r _ _ R3.out).mono ?_
      rintro e w4 ⟨rfl, hb⟩
      rw [hT.out]
      go_wp2
      go_ret
      exact ⟨rfl, B4.out.trans (hb.mono B4.out.size)⟩
    · have hT : Hid (fmtR r = textR r) := by show fmtR r = _; unfold fmtR; rw [hok]; rfl
      have hP : Hid (fmtR (plainR r) = textR (plainR r)) := by show fmtR _ = _; unfold fmtR; rw [plain_ok r hok]; rfl
      rw [hT.out]
      go_wp2_with fail
      refine (specFormat_any r _ _ R2.out).mono ?_
      rintro e w3 ⟨rfl, hb⟩
      rw [hT.out]
      clear c0 c1 c2 c3 c4 c5 c6 c7 c8 c9 c10
      have a3 := (hb.block w1.heap.size z2).trans A2.out
      have B4 := Lib.hid (B3.out.trans (hb.mono B3.out.size))
      obtain ⟨⟨c0, c1, c2, c3, c4, c5, c6, c7, c8, c9, c10⟩, _⟩ := row11 a3
      obtain ⟨t, ht⟩ := text_front r
      have hl := text_len (OkR.of hok)
      have hn0 := text_ne r
      have hn1 := text_ne (plainR r)
      clear hb hT
      have z3 := (Array.getElem?_eq_some_iff.1 a3).1
      have A3 := Lib.hid a3
      clear a3
      have HP := Lib.hid (show textR r = textR (plainR r) ++ t from ht)
      have hne : (textR r == []) = false := by simpa using hn0
      clear ht
      have b4 := heap_alloc_new w3 (.cells #[.int .i64 r.num, .int .i64 r.lvl, .int .i64 r.rank, .int .i64 (-1), .int .i64 r.kind, .int .i64 r.value, .int .i64 0, .int .i64 r.lo, .int .i64 r.hi, .slice ao r.counts.length cap, .int .i64 r.coupon] 29)
      have A4 := Lib.hid b4
      have B5 := Lib.hid (B4.out.alloc B4.out.size (.cells #[.int .i64 r.num, .int .i64 r.lvl, .int .i64 r.rank, .int .i64 (-1), .int .i64 r.kind, .int .i64 r.value, .int .i64 0, .int .i64 r.lo, .int .i64 r.hi, .slice ao r.counts.length cap, .int .i64 r.coupon] 29))
      have zw : w.heap.size ≤ w3.heap.size := B4.out.size
      have zz4 : w3.heap.size < (w3.alloc (.cells #[.int .i64 r.num, .int .i64 r.lvl, .int .i64 r.rank, .int .i64 (-1), .int .i64 r.kind, .int .i64 r.value, .int .i64 0, .int .i64 r.lo, .int .i64 r.hi, .slice ao r.counts.length cap, .int .i64 r.coupon] 29)).heap.size := by simp
      clear b4 B4 B3 R2 A2 A3
      go_wp2_with fail
      refine (always_any _).mono ?_
      rintro e w5 ⟨g, rfl, hg, f5, hb⟩
      rw [World.size_alloc] at hg
      clear c0 c1 c2 c3 c4 c5 c6 c7 c8 c9 c10
      have g5 := (hb.block w3.heap.size zz4).trans A4.out
      have B6 := B5.out.trans (hb.mono B5.out.size)
      obtain ⟨⟨c0, c1, c2, c3, c4, c5, c6, c7, c8, c9, c10⟩, p0, p1, p2, p3, p4, p5, p6, p7, p8, p9, p10⟩ := row11 g5
      have G5 := Lib.hid g5
      have F5 := Lib.hid f5
      have B6 := Lib.hid B6
      clear g5 f5 hb A4 B5
      go_upto_region 11 with fail
      obtain ⟨w6, hW⟩ : ∃ W, W = (((w5.setCell ⟨w3.heap.size, 7, none⟩ (.int .i64 0)).setCell ⟨w3.heap.size, 8, none⟩ (.int .i64 1000000)).setCell ⟨w3.heap.size, 9, none⟩ (.slice (some ⟨g, 0, none⟩) 3 3)).setCell ⟨w3.heap.size, 10, none⟩ (.int .i64 0) := ⟨_, rfl⟩
      rw [← hW]
      have g6 : w6.heap[w3.heap.size]? = some (.cells #[.int .i64 r.num, .int .i64 r.lvl, .int .i64 r.rank, .int .i64 (-1), .int .i64 r.kind, .int .i64 r.value, .int .i64 0, .int .i64 0, .int .i64 1000000, .slice (some ⟨g, 0, none⟩) 3 3, .int .i64 0] 29 (0, 0)) := by rw [hW]; exact Joins.block_setCell (Joins.block_setCell (Joins.block_setCell (Joins.block_setCell G5.out _) _) _) _
      have f6 : Hid (w6.heap[g]? = some (.cells #[.int .i64 0, .int .i64 1000000, .int .i64 0, .int .i64 1000000, .int .i64 0, .int .i64 1000000] 24 (0, 0))) := by rw [hW]; exact heap_set (heap_set (heap_set (heap_set F5.out (by omega)) (by omega)) (by omega)) (by omega)
      have B7 : Hid (Below w.heap.size w w6) := by rw [hW]; exact (((B6.out.setCell zw _).setCell zw _).setCell zw _).setCell zw _
      clear hW c0 c1 c2 c3 c4 c5 c6 c7 c8 c9 c10 p0 p1 p2 p3 p4 p5 p6 p7 p8 p9 p10 G5 F5 B6
      obtain ⟨⟨c0, c1, c2, c3, c4, c5, c6, c7, c8, c9, c10⟩, _⟩ := row11 g6
      clear g6
      go_wp2_with fail
      refine (implFormat_any (plainR r) _ _ (HE.out.below B7.out) (Rd.of_owns (six_owns (base := 0) f6.out (Nat.zero_le _)))).mono ?_
      rintro e w7 ⟨rfl, hb⟩
      rw [hP.out]
      have B8 := Lib.hid (B7.out.trans (hb.mono B7.out.size))
      have hT1 : (textR (plainR r) == []) = false := by simpa using hn1
      have hlen : (textR (plainR r)).length ≤ (textR r).length := by rw [HP.out]; simp
      have htk : (textR r).take (textR (plainR r)).length = textR (plainR r) := by rw [HP.out]; simp
      clear hP hn0 hn1 hb HP
      revert hT1 hlen htk hne hl
      generalize textR r = S
      generalize textR (plainR r) = T1
      intro hl hne hT1 hlen htk
      have hs1 : (⟨S.toArray⟩ : ByteArray).size = S.length := by simp [ByteArray.size]
      have hs2 : (⟨T1.toArray⟩ : ByteArray).size = T1.length := by simp [ByteArray.size]
      clear c0 c1 c2 c3 c4 c5 c6 c7 c8 c9 c10
      have hx : ((⟨S.toArray⟩ : ByteArray).extract 0 T1.length).toList = T1 := by
        rw [ByteArray.toList_eq, ByteArray.data_extract]
        simpa using htk
      have HX := Lib.hid hx
      clear hx htk
      go_wp2
      go_ret
      exact ⟨by rw [HX.out]; simp, B8.out⟩

end Go.Proofs.YtdofpealmngmiaaDoor
