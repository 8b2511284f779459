/- Walks: the draws of rules of the laws. Conditions: none. -/
import Derived.Test.YtdofpealmngmiaaDoorRQ
namespace Go.Proofs.YtdofpealmngmiaaDoor
open Go.RowKit


theorem set11 {w : World} {g : Nat} {x0 x1 x2 x3 x4 x5 x6 x7 x8 x9 x10 : Value} {t : TypeId} (h : w.heap[g]? = some (.cells #[x0, x1, x2, x3, x4, x5, x6, x7, x8, x9, x10] t)) (y0 y1 y2 y3 y4 y5 y6 y7 y8 y9 y10 : Value) : (((((((((((w.setCell ⟨g, 0, none⟩ y0).setCell ⟨g, 1, none⟩ y1).setCell ⟨g, 2, none⟩ y2).setCell ⟨g, 3, none⟩ y3).setCell ⟨g, 4, none⟩ y4).setCell ⟨g, 5, none⟩ y5).setCell ⟨g, 6, none⟩ y6).setCell ⟨g, 7, none⟩ y7).setCell ⟨g, 8, none⟩ y8).setCell ⟨g, 9, none⟩ y9).setCell ⟨g, 10, none⟩ y10).heap[g]? = some (.cells #[y0, y1, y2, y3, y4, y5, y6, y7, y8, y9, y10] t) := by
  have h1 : (w.setCell ⟨g, 0, none⟩ y0).heap[g]? = some (.cells #[y0, x1, x2, x3, x4, x5, x6, x7, x8, x9, x10] t) := Joins.block_setCell h _
  have h2 : ((w.setCell ⟨g, 0, none⟩ y0).setCell ⟨g, 1, none⟩ y1).heap[g]? = some (.cells #[y0, y1, x2, x3, x4, x5, x6, x7, x8, x9, x10] t) := Joins.block_setCell h1 _
  have h3 : (((w.setCell ⟨g, 0, none⟩ y0).setCell ⟨g, 1, none⟩ y1).setCell ⟨g, 2, none⟩ y2).heap[g]? = some (.cells #[y0, y1, y2, x3, x4, x5, x6, x7, x8, x9, x10] t) := Joins.block_setCell h2 _
  have h4 : ((((w.setCell ⟨g, 0, none⟩ y0).setCell ⟨g, 1, none⟩ y1).setCell ⟨g, 2, none⟩ y2).setCell ⟨g, 3, none⟩ y3).heap[g]? = some (.cells #[y0, y1, y2, y3, x4, x5, x6, x7, x8, x9, x10] t) := Joins.block_setCell h3 _
  have h5 : (((((w.setCell ⟨g, 0, none⟩ y0).setCell ⟨g, 1, none⟩ y1).setCell ⟨g, 2, none⟩ y2).setCell ⟨g, 3, none⟩ y3).setCell ⟨g, 4, none⟩ y4).heap[g]? = some (.cells #[y0, y1, y2, y3, y4, x5, x6, x7, x8, x9, x10] t) := Joins.block_setCell h4 _
  have h6 : ((((((w.setCell ⟨g, 0, none⟩ y0).setCell ⟨g, 1, none⟩ y1).setCell ⟨g, 2, none⟩ y2).setCell ⟨g, 3, none⟩ y3).setCell ⟨g, 4, none⟩ y4).setCell ⟨g, 5, none⟩ y5).heap[g]? = some (.cells #[y0, y1, y2, y3, y4, y5, x6, x7, x8, x9, x10] t) := Joins.block_setCell h5 _
  have h7 : (((((((w.setCell ⟨g, 0, none⟩ y0).setCell ⟨g, 1, none⟩ y1).setCell ⟨g, 2, none⟩ y2).setCell ⟨g, 3, none⟩ y3).setCell ⟨g, 4, none⟩ y4).setCell ⟨g, 5, none⟩ y5).setCell ⟨g, 6, none⟩ y6).heap[g]? = some (.cells #[y0, y1, y2, y3, y4, y5, y6, x7, x8, x9, x10] t) := Joins.block_setCell h6 _
  have h8 : ((((((((w.setCell ⟨g, 0, none⟩ y0).setCell ⟨g, 1, none⟩ y1).setCell ⟨g, 2, none⟩ y2).setCell ⟨g, 3, none⟩ y3).setCell ⟨g, 4, none⟩ y4).setCell ⟨g, 5, none⟩ y5).setCell ⟨g, 6, none⟩ y6).setCell ⟨g, 7, none⟩ y7).heap[g]? = some (.cells #[y0, y1, y2, y3, y4, y5, y6, y7, x8, x9, x10] t) := Joins.block_setCell h7 _
  have h9 : (((((((((w.setCell ⟨g, 0, none⟩ y0).setCell ⟨g, 1, none⟩ y1).setCell ⟨g, 2, none⟩ y2).setCell ⟨g, 3, none⟩ y3).setCell ⟨g, 4, none⟩ y4).setCell ⟨g, 5, none⟩ y5).setCell ⟨g, 6, none⟩ y6).setCell ⟨g, 7, none⟩ y7).setCell ⟨g, 8, none⟩ y8).heap[g]? = some (.cells #[y0, y1, y2, y3, y4, y5, y6, y7, y8, x9, x10] t) := Joins.block_setCell h8 _
  have h10 : ((((((((((w.setCell ⟨g, 0, none⟩ y0).setCell ⟨g, 1, none⟩ y1).setCell ⟨g, 2, none⟩ y2).setCell ⟨g, 3, none⟩ y3).setCell ⟨g, 4, none⟩ y4).setCell ⟨g, 5, none⟩ y5).setCell ⟨g, 6, none⟩ y6).setCell ⟨g, 7, none⟩ y7).setCell ⟨g, 8, none⟩ y8).setCell ⟨g, 9, none⟩ y9).heap[g]? = some (.cells #[y0, y1, y2, y3, y4, y5, y6, y7, y8, y9, x10] t) := Joins.block_setCell h9 _
  have h11 : (((((((((((w.setCell ⟨g, 0, none⟩ y0).setCell ⟨g, 1, none⟩ y1).setCell ⟨g, 2, none⟩ y2).setCell ⟨g, 3, none⟩ y3).setCell ⟨g, 4, none⟩ y4).setCell ⟨g, 5, none⟩ y5).setCell ⟨g, 6, none⟩ y6).setCell ⟨g, 7, none⟩ y7).setCell ⟨g, 8, none⟩ y8).setCell ⟨g, 9, none⟩ y9).setCell ⟨g, 10, none⟩ y10).heap[g]? = some (.cells #[y0, y1, y2, y3, y4, y5, y6, y7, y8, y9, y10] t) := Joins.block_setCell h10 _
  exact h11


set_option maxHeartbeats 4000000 in
set_option maxRecDepth 100000 in
theorem DrawFormatRule_any (z : List Int) (v : Value) (w : World) (hv : Rd w 1 v z.length (z.map (Value.int .u8))) (hz : ∀ x ∈ z, 0 ≤ x ∧ x ≤ 255) :
    Calls Tryd.prog 9 #[v] w fun e w' => ∃ (r : Rl) (v' : Value), e = .returned (ruV r v') ∧ w'.ownsRow w.heap.size 24 2 v' r.counts.length (pr r.counts) ∧ r.counts.length ≤ 4 ∧ Below w.heap.size w w' := by
  have b0 : Below w.heap.size w (w.alloc (.cells #[.int .i64 0, .int .i64 0, .int .i64 0, .int .i64 0, .int .i64 0, .int .i64 0, .int .i64 0, .int .i64 0, .int .i64 0, .slice none 0 0, .int .i64 0] 29)) := (Below.refl _ _).alloc (Nat.le_refl _) _
  have k0 := heap_alloc_new w (.cells #[.int .i64 0, .int .i64 0, .int .i64 0, .int .i64 0, .int .i64 0, .int .i64 0, .int .i64 0, .int .i64 0, .int .i64 0, .slice none 0 0, .int .i64 0] 29)
  have K0 := Lib.hid k0
  have B0 := Lib.hid b0
  have HV := Lib.hid (hv.below b0 (Nat.le_refl _))
  have z0 : (w.alloc (.cells #[.int .i64 0, .int .i64 0, .int .i64 0, .int .i64 0, .int .i64 0, .int .i64 0, .int .i64 0, .int .i64 0, .int .i64 0, .slice none 0 0, .int .i64 0] 29)).heap.size = w.heap.size + 1 := by simp
  obtain ⟨_, ao, cap, rfl, _⟩ := hv
  clear k0 b0
  go_enter Tryd.func9, Tryd.ntmps9
  go_wp2_with fail
  refine (newReader_any z _ _ HV.out hz).mono ?_
  rintro e w1 ⟨rfl, hr, hb⟩
  rw [z0] at hr hb
  have k1 := (hb.block w.heap.size (Nat.lt_succ_self _)).trans K0.out
  have B1 := B0.out.trans (hb.mono (Nat.le_succ _))
  have L1 := hr.lt
  clear hb K0
  rw [z0]
  go_wp2_with fail
  refine (anyRule_any (w.heap.size + 1) 0 _ hr (by omega)).mono ?_
  rintro e w2 ⟨r, v', rfl, O2, l2, s2⟩
  unfold ruV
  have k2 := s2.row k1 (by omega)
  have B2 := s2.fresh B1 (Nat.le_succ _)
  have NV := Lib.hid (fun k hk => Nat.ne_of_gt (Nat.lt_of_lt_of_le (Array.getElem?_eq_some_iff.1 k1).1 (O2.lt k hk).1))
  have O2 := owns_base (base' := w.heap.size) O2 (Nat.le_of_lt (Array.getElem?_eq_some_iff.1 k1).1)
  obtain ⟨co, cap2, rfl, _⟩ := owns_shape O2
  have HO := Lib.hid O2
  obtain ⟨⟨c0, c1, c2, c3, c4, c5, c6, c7, c8, c9, c10⟩, p0, p1, p2, p3, p4, p5, p6, p7, p8, p9, p10⟩ := row11 k2
  have KK := Lib.hid k2
  clear k2 k1 O2
  go_wp2
  refine bodyPost_ret (results_row (p := 2) (ty := 29) rfl row29 _ _ w.heap.size 29 #[.int .i64 r.num, .int .i64 r.lvl, .int .i64 r.rank, .int .i64 r.group, .int .i64 r.kind, .int .i64 r.value, .int .i64 r.cap, .int .i64 r.lo, .int .i64 r.hi, .slice co r.counts.length cap2, .int .i64 r.coupon] rfl rfl (set11 KK.out _ _ _ _ _ _ _ _ _ _ _)) rfl ?_
  exact ⟨r, _, rfl, owns_away (owns_away (owns_away (owns_away (owns_away (owns_away (owns_away (owns_away (owns_away (owns_away (owns_away (HO.out) NV.out _) NV.out _) NV.out _) NV.out _) NV.out _) NV.out _) NV.out _) NV.out _) NV.out _) NV.out _) NV.out _, l2, Below.setCell (Below.setCell (Below.setCell (Below.setCell (Below.setCell (Below.setCell (Below.setCell (Below.setCell (Below.setCell (Below.setCell (Below.setCell (B2) (Nat.le_refl _) _) (Nat.le_refl _) _) (Nat.le_refl _) _) (Nat.le_refl _) _) (Nat.le_refl _) _) (Nat.le_refl _) _) (Nat.le_refl _) _) (Nat.le_refl _) _) (Nat.le_refl _) _) (Nat.le_refl _) _) (Nat.le_refl _) _⟩


set_option maxHeartbeats 4000000 in
set_option maxRecDepth 100000 in
theorem DrawValidRule_any (z : List Int) (v : Value) (w : World) (hv : Rd w 1 v z.length (z.map (Value.int .u8))) (hz : ∀ x ∈ z, 0 ≤ x ∧ x ≤ 255) :
    Calls Tryd.prog 16 #[v] w fun e w' => ∃ (r : Rl) (v' : Value), e = .returned (ruV r v') ∧ w'.ownsRow w.heap.size 24 2 v' r.counts.length (pr r.counts) ∧ r.counts.length ≤ 4 ∧ Below w.heap.size w w' := by
  have b0 : Below w.heap.size w (w.alloc (.cells #[.int .i64 0, .int .i64 0, .int .i64 0, .int .i64 0, .int .i64 0, .int .i64 0, .int .i64 0, .int .i64 0, .int .i64 0, .slice none 0 0, .int .i64 0] 29)) := (Below.refl _ _).alloc (Nat.le_refl _) _
  have k0 := heap_alloc_new w (.cells #[.int .i64 0, .int .i64 0, .int .i64 0, .int .i64 0, .int .i64 0, .int .i64 0, .int .i64 0, .int .i64 0, .int .i64 0, .slice none 0 0, .int .i64 0] 29)
  have K0 := Lib.hid k0
  have B0 := Lib.hid b0
  have HV := Lib.hid (hv.below b0 (Nat.le_refl _))
  have z0 : (w.alloc (.cells #[.int .i64 0, .int .i64 0, .int .i64 0, .int .i64 0, .int .i64 0, .int .i64 0, .int .i64 0, .int .i64 0, .int .i64 0, .slice none 0 0, .int .i64 0] 29)).heap.size = w.heap.size + 1 := by simp
  obtain ⟨_, ao, cap, rfl, _⟩ := hv
  clear k0 b0
  go_enter Tryd.func16, Tryd.ntmps16
  go_wp2_with fail
  refine (newReader_any z _ _ HV.out hz).mono ?_
  rintro e w1 ⟨rfl, hr, hb⟩
  rw [z0] at hr hb
  have k1 := (hb.block w.heap.size (Nat.lt_succ_self _)).trans K0.out
  have B1 := B0.out.trans (hb.mono (Nat.le_succ _))
  have L1 := hr.lt
  clear hb K0
  rw [z0]
  go_wp2_with fail
  refine (anyRule_any (w.heap.size + 1) 0 _ hr (by omega)).mono ?_
  rintro e w2 ⟨r, v', rfl, O2, l2, s2⟩
  unfold ruV
  have k2 := s2.row k1 (by omega)
  have B2 := s2.fresh B1 (Nat.le_succ _)
  have NV := Lib.hid (fun k hk => Nat.ne_of_gt (Nat.lt_of_lt_of_le (Array.getElem?_eq_some_iff.1 k1).1 (O2.lt k hk).1))
  have O2 := owns_base (base' := w.heap.size) O2 (Nat.le_of_lt (Array.getElem?_eq_some_iff.1 k1).1)
  obtain ⟨co, cap2, rfl, _⟩ := owns_shape O2
  have HO := Lib.hid O2
  obtain ⟨⟨c0, c1, c2, c3, c4, c5, c6, c7, c8, c9, c10⟩, p0, p1, p2, p3, p4, p5, p6, p7, p8, p9, p10⟩ := row11 k2
  have KK := Lib.hid k2
  clear k2 k1 O2
  go_wp2
  refine bodyPost_ret (results_row (p := 2) (ty := 29) rfl row29 _ _ w.heap.size 29 #[.int .i64 r.num, .int .i64 r.lvl, .int .i64 r.rank, .int .i64 r.group, .int .i64 r.kind, .int .i64 r.value, .int .i64 r.cap, .int .i64 r.lo, .int .i64 r.hi, .slice co r.counts.length cap2, .int .i64 r.coupon] rfl rfl (set11 KK.out _ _ _ _ _ _ _ _ _ _ _)) rfl ?_
  exact ⟨r, _, rfl, owns_away (owns_away (owns_away (owns_away (owns_away (owns_away (owns_away (owns_away (owns_away (owns_away (owns_away (HO.out) NV.out _) NV.out _) NV.out _) NV.out _) NV.out _) NV.out _) NV.out _) NV.out _) NV.out _) NV.out _) NV.out _, l2, Below.setCell (Below.setCell (Below.setCell (Below.setCell (Below.setCell (Below.setCell (Below.setCell (Below.setCell (Below.setCell (Below.setCell (Below.setCell (B2) (Nat.le_refl _) _) (Nat.le_refl _) _) (Nat.le_refl _) _) (Nat.le_refl _) _) (Nat.le_refl _) _) (Nat.le_refl _) _) (Nat.le_refl _) _) (Nat.le_refl _) _) (Nat.le_refl _) _) (Nat.le_refl _) _) (Nat.le_refl _) _⟩


end Go.Proofs.YtdofpealmngmiaaDoor
