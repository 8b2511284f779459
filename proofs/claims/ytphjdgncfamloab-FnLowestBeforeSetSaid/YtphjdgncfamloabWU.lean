/- Walks: equal histories, and the drawn arguments of the laws on setting a price. Conditions: none. -/
import Derived.Test.YtphjdgncfamloabWH
import Derived.Test.YtphjdgncfamloabSet
import Derived.Laws.StructEq
namespace Go.Proofs.Ytphjdgncfamloab
open Go.RowKit

theorem two_fields {fs : List Field} {T : TypeId} (h : fs.map (fun f => (f.name == "_", f.type, f.offset)) = [(false, T, 0), (false, T, 1)]) :
    ∃ f0 f1, fs = [f0, f1] ∧ f0.name ≠ "_" ∧ f0.type = T ∧ f0.offset = 0 ∧ f1.name ≠ "_" ∧ f1.type = T ∧ f1.offset = 1 := by
  match fs, h with
  | [], h => simp at h
  | [_], h => simp at h
  | _ :: _ :: _ :: _, h => simp at h
  | [f0, f1], h =>
    simp only [List.map_cons, List.map_nil, List.cons.injEq, Prod.mk.injEq, beq_eq_false_iff_ne, and_true] at h
    exact ⟨f0, f1, rfl, h.1.1, h.1.2.1, h.1.2.2, h.2.1, h.2.2.1, h.2.2.2⟩

theorem neqChange (a b c d : Int) (w : World) : (binOp .neq 36 (.agg #[.int .i64 a, .int .i64 b]) (.agg #[.int .i64 c, .int .i64 d])).run Try.prog w = .ok (.bool (!eqP a b c d)) w := by
  have h1 : Try.prog.underlying 36 = some (.struct (Try.prog.fieldsOf 36)) := by kernel_rfl
  have h2 : Try.prog.stoodInHeld 36 = false := by kernel_rfl
  have h3 : (Try.prog.fieldsOf 36).toList.map (fun f => (f.name == "_", f.type, f.offset)) = [(false, 3, 0), (false, 3, 1)] := by kernel_rfl
  have p0 : ∀ x y : Value, (part 3 #[x, y] 0).run Try.prog w = .ok x w := fun x y => by kernel_rfl
  have p1 : ∀ x y : Value, (part 3 #[x, y] 1).run Try.prog w = .ok y w := fun x y => by kernel_rfl
  have hu : ∀ x y : Int, (Op.equalIn (9998 + 1) 3 (.int .i64 x) (.int .i64 y)).run Try.prog w = .ok (x == y) w := fun x y => run_equalIn_int w 9998 3 .i64 .i64 x y Try.underlying3
  obtain ⟨f0, f1, hf, n0, t0, o0, n1, t1, o1⟩ := two_fields h3
  rw [run_neq_struct, run_equalIn_agg w _ _ _ _ h1 h2, hf]
  cases hx : (a == c) <;> cases hy : (b == d) <;>
    simp [Op.eqFields, n0, t0, o0, n1, t1, o1, p0, p1, hu, eqP, hx, hy] <;> simp_all

set_option maxHeartbeats 1000000 in
theorem equalChanges_any (l m : List (Int × Int)) (u v : Value) (w : World) (hu : Rd w 2 u l.length (pr l)) (hv : Rd w 2 v m.length (pr m)) :
    Calls Try.prog 19 #[u, v] w fun e w' => e = .returned (.bool (decide (l = m))) ∧ Below w.heap.size w w' := by
  have hm := hu.len
  unfold maxLen at hm
  obtain ⟨ao, cap, rfl, _, _, hr⟩ := hu.pairs
  obtain ⟨bo, cap', rfl, _, _, hs⟩ := hv.pairs
  have HR := Lib.hid hr
  have HS := Lib.hid hs
  clear hr hv hs hu
  go_enter Try.func19, Try.ntmps19
  by_cases hlm : l.length = m.length
  · have hlen : m.length ≤ l.length ∧ l.length ≤ m.length := by omega
    have hne : ((l.length : Int) != (m.length : Int)) = false := by simp [hlm]
    have HLM := Lib.hid hlm
    clear hlm
    go_wp2
    go_loopw [5] (fun i wr => ∃ k : Nat, k ≤ l.length ∧ i = .int .i64 k ∧ Below w.heap.size w wr ∧ Hid (∀ j, j < k → (pA l j, pB l j) = (pA m j, pB m j))) (fun i _ => l.length - (intOf i).toNat)
    case atStart => exact ⟨0, Nat.zero_le _, rfl, Below.refl _ _, fun j hj => absurd hj (Nat.not_lt_zero _)⟩
    case round =>
      obtain ⟨k, hk, rfl, hbl, hall⟩ := hrel
      by_cases hlt : k < l.length
      · have hlt2 : k < m.length := by omega
        obtain ⟨b, off, rfl, hb, hcell⟩ := HR.out (by omega)
        obtain ⟨b2, off2, rfl, hb2, hcell2⟩ := HS.out (by omega)
        have h0 := (hbl.cell (p := ⟨b, off + k*2, none⟩) hb).trans (hcell k hlt).1
        have h1 := (hbl.cell (p := ⟨b, off + k*2+1, none⟩) hb).trans (hcell k hlt).2
        have h2 := (hbl.cell (p := ⟨b2, off2 + k*2, none⟩) hb2).trans (hcell2 k hlt2).1
        have h3 := (hbl.cell (p := ⟨b2, off2 + k*2+1, none⟩) hb2).trans (hcell2 k hlt2).2
        clear hcell hcell2
        cases he : eqP (pA l k) (pB l k) (pA m k) (pB m k)
        · have fin : Hid (decide (l = m) = false) := by
            rw [Hid, decide_eq_false]; rintro rfl; simp [eqP] at he
          have hN := neqChange (pA l k) (pB l k) (pA m k) (pB m k)
          rw [he] at hN
          clear he
          go_wp2
          go_quiet (fail)
          go_wp2
          go_ret
          exact ⟨by rw [fin.out]; rfl, below_drewN hbl _⟩
        · have fin : Hid ((pA l k, pB l k) = (pA m k, pB m k)) := by simpa [Hid, eqP] using he
          have hN := neqChange (pA l k) (pB l k) (pA m k) (pB m k)
          rw [he] at hN
          clear he
          go_wp2
          go_quiet (fail)
          go_wp2
          go_roundw
          case rel => exact ⟨k+1, by omega, by go_num, below_drewN hbl _, all_snoc hall.out fin.out⟩
          case measure => simp [intOf]; omega
      · go_wp2
        go_ret
        have he : l = m := pair_ext HLM.out fun j hj => hall.out j (by omega)
        exact ⟨ret_b (by rw [he]; simp), hbl⟩
  · have hne : ((l.length : Int) != (m.length : Int)) = true := by simp; omega
    have HLM := Lib.hid hlm
    clear hlm
    go_wp2
    go_ret
    exact ⟨ret_b (by rw [decide_eq_false]; intro e; exact HLM.out (by rw [e])), Below.refl _ _⟩

/-- A drawn history, a day and a price, seen from the law. -/
def DrawSetPost (w : World) (e : Ending) (w' : World) : Prop :=
  ∃ (l : List (Int × Int)) (v : Value) (d p : Int), e = .returned (.tuple #[v, .int .i64 d, .int .i64 p]) ∧ w'.ownsRow w.heap.size 36 2 v l.length (pr l) ∧ l.length ≤ 13 ∧ (-20000 ≤ d ∧ d ≤ 20000 ∧ -20000 ≤ p ∧ p ≤ 20000) ∧ Below w.heap.size w w'

theorem draw_set_end {w w1 w4 w6 : World} {u g : Nat} {l : List (Int × Int)} {v : Value} (hb : Below w.heap.size w w1) (ho : w4.ownsRow w1.heap.size 36 2 v l.length (pr l)) (hl : l.length ≤ 13) {d q : Int} (hd : -20000 ≤ d ∧ d ≤ 20000) (hq : q ∈ ([500, 1, 5000, 5001, 0, 250] : List Int))
    (hst : RdrStep w1 w.heap.size u w4) (s6 : RdrStep w4 w.heap.size g w6) (hR : w.heap.size < w1.heap.size) : DrawSetPost w (.returned (.tuple #[v, .int .i64 d, .int .i64 q])) w6 := by
  have hq1 : -20000 ≤ q ∧ q ≤ 20000 := (by decide : ∀ x ∈ ([500, 1, 5000, 5001, 0, 250] : List Int), -20000 ≤ x ∧ x ≤ 20000) q hq
  exact ⟨l, v, d, q, rfl, owns_base (owns_step ho s6 hR) hb.size, hl, ⟨hd.1, hd.2, hq1.1, hq1.2⟩, (hst.trans s6).fresh hb (Nat.le_refl _)⟩

set_option maxHeartbeats 2000000 in
theorem drawSetPrice_any (z : List Int) (v : Value) (w : World) (hv : Rd w 1 v z.length (z.map (Value.int .u8))) (hz : ∀ x ∈ z, 0 ≤ x ∧ x ≤ 255) :
    Calls Try.prog 16 #[v] w (DrawSetPost w) := by
  have HV := Lib.hid hv
  have HZ := Lib.hid hz
  clear hv hz
  go_enter Try.func16, Try.ntmps16
  go_wp2_with fail
  refine (newReader_any z _ _ HV.out HZ.out).mono ?_
  rintro e w1 ⟨rfl, hr, hb⟩
  have hR := hr.lt
  go_wp2_with fail
  refine (anyPrices_any _ _ _ hr (by omega)).mono ?_
  rintro e w2 ⟨l, u, rfl, ho, hs, hl, hst⟩
  go_wp2_with fail
  refine (someDay_any _ _ _ hst.1 (by omega)).mono ?_
  rintro e w3 ⟨d, rfl, hd1, hd2, s3⟩
  have O3 := Lib.hid (owns_step ho s3 hR)
  have S3 := Lib.hid (hst.trans s3)
  have HS := Lib.hid hs
  have HB := Lib.hid hb
  obtain ⟨ao, cap, rfl, ⟨hcap1, hcap2⟩, hg⟩ := owns_shape_cap O3.out
  have HG := Lib.hid hg
  clear hg ho hst s3 hs hb
  by_cases h0 : 0 < l.length
  · obtain ⟨g, rfl, hgb⟩ := HG.out h0
    go_wp2_with fail
    refine (pick_any _ _ _ _ S3.out.1 (by omega)).mono ?_
    rintro e w4 ⟨k0, rfl, hk0, hk1, s4⟩
    have O4 := Lib.hid (owns_step O3.out s4 hR)
    have S4 := Lib.hid (S3.out.trans s4)
    clear hk1 s4
    by_cases hk : 0 < k0
    · obtain ⟨j, hj⟩ : ∃ j, l.length = j + 1 := ⟨l.length - 1, by omega⟩
      have hw : IntKind.i64.wrap (j : Int) = (j : Int) := IntWalk.i64_in _ (by omega)
      have hsm := small_get HS.out (k := j) (by omega)
      obtain ⟨hsm1, hsm2, _⟩ := hsm
      have s4a : RdrStep w1 w.heap.size _ ((w4.alloc (.cells #[.int .i64 0, .int .i64 1, .int .i64 10, .int .i64 (-1)] 3)).drew) := (S4.out.alloc _).drew
      have O4a := Lib.hid (owns_step O4.out (((RdrStep.refl S4.out.1).alloc (.cells #[.int .i64 0, .int .i64 1, .int .i64 10, .int .i64 (-1)] 3)).drew) hR)
      obtain ⟨c4, _, _, _⟩ := owns_at2 O4a.out j (by omega)
      obtain ⟨c4', _, _, _⟩ := owns_at2 O4.out j (by omega)
      have z4 : g < w4.heap.size := (O4.out.lt g rfl).2
      have z41 := S4.out.1.lt
      have hgr : g ≠ w.heap.size := by omega
      rw [hj]
      go_wp2_with fail
      go_region_with (go_at_call 39; refine (one_gen w.heap.size _ w4.heap.size [0, 1, 10, -1] _ s4a.1 (by omega) (by omega) (by simp) (by simp) (by simp) (fun k hk => lit_cell w4 [0, 1, 10, -1] 3 k hk)).mono ?_; rintro e w6 ⟨q, hq, rfl, s6⟩; have O6 := Lib.hid (owns_step O4a.out s6 hR); have c6 := (owns_at2 O6.out j (by omega)).1; have S6 := Lib.hid (s4a.trans s6); have z6 : g < w6.heap.size := (O6.out.lt g rfl).2; clear s6; have hq1 : -10000 ≤ q ∧ q ≤ 10000 := (by decide : ∀ x ∈ ([0, 1, 10, -1] : List Int), -10000 ≤ x ∧ x ≤ 10000) q hq; clear hq)
      all_goals
        have ew : IntKind.i64.wrap (pA l j + q) = pA l j + q := IntWalk.i64_in _ (by omega)
        rw [ew]
        clear ew
        have O6' := O6.out
        rw [show Value.slice (some (⟨g, 0, none⟩ : Addr)) l.length cap = Value.slice (some ⟨g, 0, none⟩) (j + 1) cap by rw [hj]] at O6'
        have O6L := Lib.hid O6'
        clear O6' c4 c4' c6 hw
        have HJ := Lib.hid hj
        clear hj
        go_wp2_with fail
        refine (one_lit _ _ [500, 1, 5000, 5001, 0, 250] _ _ S6.out.1 (by omega) (by simp) (by simp)).mono ?_
        rintro e w7 ⟨q2, hq2, rfl, s7⟩
        go_wp2
        go_ret3
        exact draw_set_end HB.out O6L.out hl ⟨by omega, by omega⟩ hq2 S6.out s7 hR
    · have hkb : decide (0 < k0) = false := by simpa using hk
      go_wp2_with fail
      refine (one_lit _ _ [500, 1, 5000, 5001, 0, 250] _ _ S4.out.1 (by omega) (by simp) (by simp)).mono ?_
      rintro e w6 ⟨q, hq, rfl, s6⟩
      go_wp2
      go_ret3
      exact draw_set_end HB.out O4.out hl ⟨by omega, by omega⟩ hq S4.out s6 hR
  · go_wp2_with fail
    refine (one_lit _ _ [500, 1, 5000, 5001, 0, 250] _ _ S3.out.1 (by omega) (by simp) (by simp)).mono ?_
    rintro e w6 ⟨q, hq, rfl, s6⟩
    go_wp2
    go_ret3
    exact draw_set_end HB.out O3.out hl ⟨by omega, by omega⟩ hq S3.out s6 hR

end Go.Proofs.Ytphjdgncfamloab
