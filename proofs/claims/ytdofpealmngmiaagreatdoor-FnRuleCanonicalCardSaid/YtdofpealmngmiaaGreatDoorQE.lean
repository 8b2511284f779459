/- Walks: the laws' own comparison of two rules. Conditions: none. -/
import Derived.Test.YtdofpealmngmiaaGreatDoorRU
import Derived.Test.YtdofpealmngmiaaGreatDoorRG
import Derived.Laws.StructEq
import Derived.BigQuiet
import Derived.Deep.QuietTactic
namespace Go.Proofs.YtdofpealmngmiaaGreatDoor
open Go.RowKit

theorem neqSpan2 (a b c d : Int) (w : World) : (binOp .neq 25 (.agg #[.int .i64 a, .int .i64 b]) (.agg #[.int .i64 c, .int .i64 d])).run Tryz.prog w = .ok (.bool (!eqP a b c d)) w := by
  have h1 : Tryz.prog.underlying 25 = some (.struct (Tryz.prog.fieldsOf 25)) := by kernel_rfl
  have h2 : Tryz.prog.stoodInHeld 25 = false := by kernel_rfl
  have h3 : (Tryz.prog.fieldsOf 25).toList.map (fun f => (f.name == "_", f.type, f.offset)) = [(false, 3, 0), (false, 3, 1)] := by kernel_rfl
  have p0 : ∀ x y : Value, (part 3 #[x, y] 0).run Tryz.prog w = .ok x w := fun x y => by kernel_rfl
  have p1 : ∀ x y : Value, (part 3 #[x, y] 1).run Tryz.prog w = .ok y w := fun x y => by kernel_rfl
  have hu : ∀ x y : Int, (Op.equalIn (9998 + 1) 3 (.int .i64 x) (.int .i64 y)).run Tryz.prog w = .ok (x == y) w := fun x y => run_equalIn_int w 9998 3 .i64 .i64 x y Tryz.underlying3
  obtain ⟨f0, f1, hf, n0, t0, o0, n1, t1, o1⟩ := two_fields h3
  rw [run_neq_struct, run_equalIn_agg w _ _ _ _ h1 h2, hf]
  cases hx : (a == c) <;> cases hy : (b == d) <;>
    simp [Op.eqFields, n0, t0, o0, n1, t1, o1, p0, p1, hu, eqP, hx, hy] <;> simp_all

theorem eqlSpan2 (a b c d : Int) (w : World) : (binOp .eql 25 (.agg #[.int .i64 a, .int .i64 b]) (.agg #[.int .i64 c, .int .i64 d])).run Tryz.prog w = .ok (.bool (eqP a b c d)) w := by
  have h1 : Tryz.prog.underlying 25 = some (.struct (Tryz.prog.fieldsOf 25)) := by kernel_rfl
  have h2 : Tryz.prog.stoodInHeld 25 = false := by kernel_rfl
  have h3 : (Tryz.prog.fieldsOf 25).toList.map (fun f => (f.name == "_", f.type, f.offset)) = [(false, 3, 0), (false, 3, 1)] := by kernel_rfl
  have p0 : ∀ x y : Value, (part 3 #[x, y] 0).run Tryz.prog w = .ok x w := fun x y => by kernel_rfl
  have p1 : ∀ x y : Value, (part 3 #[x, y] 1).run Tryz.prog w = .ok y w := fun x y => by kernel_rfl
  have hu : ∀ x y : Int, (Op.equalIn (9998 + 1) 3 (.int .i64 x) (.int .i64 y)).run Tryz.prog w = .ok (x == y) w := fun x y => run_equalIn_int w 9998 3 .i64 .i64 x y Tryz.underlying3
  obtain ⟨f0, f1, hf, n0, t0, o0, n1, t1, o1⟩ := two_fields h3
  rw [run_eql_struct, run_equalIn_agg w _ _ _ _ h1 h2, hf]
  cases hx : (a == c) <;> cases hy : (b == d) <;>
    simp [Op.eqFields, n0, t0, o0, n1, t1, o1, p0, p1, hu, eqP, hx, hy] <;> simp_all

set_option maxHeartbeats 1000000 in
theorem equalSpans_any (l m : List (Int × Int)) (u v : Value) (w : World) (hu : Rd w 2 u l.length (pr l)) (hv : Rd w 2 v m.length (pr m)) :
    Calls Tryz.prog 28 #[u, v] w fun e w' => e = .returned (.bool (decide (l = m))) ∧ Below w.heap.size w w' := by
  have hm := hu.len
  unfold maxLen at hm
  obtain ⟨ao, cap, rfl, _, _, hr⟩ := hu.pairs
  obtain ⟨bo, cap', rfl, _, _, hs⟩ := hv.pairs
  have HR := Lib.hid hr
  have HS := Lib.hid hs
  clear hr hv hs hu
  go_enter Tryz.func28, Tryz.ntmps28
  by_cases hlm : l.length = m.length
  · have hlen : m.length ≤ l.length ∧ l.length ≤ m.length := by omega
    have hne : ((l.length : Int) != (m.length : Int)) = false := by simp [hlm]
    have HLM := Lib.hid hlm
    clear hlm
    go_wp2
    go_loopw [5] (fun i wr => ∃ k : Nat, k ≤ l.length ∧ i = .int .i64 k ∧ Below w.heap.size w wr ∧ Hid (∀ j, j < k → (pA l j, pB l j) = (pA m j, pB m j))) (fun i _ => l.length - (intOf i).toNat)
    case atStart => exact ⟨0, Nat.zero_le _, rfl, Below.refl _ _, fun j hj => absurd hj (Nat.not_lt_zero _)⟩
    case round =>
      obtain ⟨k, hk, rfl, hbl, hall⟩ := hrel
      by_cases hlt : k < l.length
      · have hlt2 : k < m.length := by omega
        obtain ⟨b, off, rfl, hb, hcell⟩ := HR.out (by omega)
        obtain ⟨b2, off2, rfl, hb2, hcell2⟩ := HS.out (by omega)
        have h0 := (hbl.cell (p := ⟨b, off + k*2, none⟩) hb).trans (hcell k hlt).1
        have h1 := (hbl.cell (p := ⟨b, off + k*2+1, none⟩) hb).trans (hcell k hlt).2
        have h2 := (hbl.cell (p := ⟨b2, off2 + k*2, none⟩) hb2).trans (hcell2 k hlt2).1
        have h3 := (hbl.cell (p := ⟨b2, off2 + k*2+1, none⟩) hb2).trans (hcell2 k hlt2).2
        clear hcell hcell2
        cases he : eqP (pA l k) (pB l k) (pA m k) (pB m k)
        · have fin : Hid (decide (l = m) = false) := by
            rw [Hid, decide_eq_false]; rintro rfl; simp [eqP] at he
          have hN := neqSpan2 (pA l k) (pB l k) (pA m k) (pB m k)
          rw [he] at hN
          clear he
          go_wp2
          go_quiet (fail)
          go_wp2
          go_ret
          exact ⟨by rw [fin.out]; rfl, below_drewN hbl _⟩
        · have fin : Hid ((pA l k, pB l k) = (pA m k, pB m k)) := by simpa [Hid, eqP] using he
          have hN := neqSpan2 (pA l k) (pB l k) (pA m k) (pB m k)
          rw [he] at hN
          clear he
          go_wp2
          go_quiet (fail)
          go_wp2
          go_roundw
          case rel => exact ⟨k+1, by omega, by go_num, below_drewN hbl _, all_snoc hall.out fin.out⟩
          case measure => simp [intOf]; omega
      · go_wp2
        go_ret
        have he : l = m := pair_ext HLM.out fun j hj => hall.out j (by omega)
        exact ⟨ret_b (by rw [he]; simp), hbl⟩
  · have hne : ((l.length : Int) != (m.length : Int)) = true := by simp; omega
    have HLM := Lib.hid hlm
    clear hlm
    go_wp2
    go_ret
    exact ⟨ret_b (by rw [decide_eq_false]; intro e; exact HLM.out (by rw [e])), Below.refl _ _⟩

set_option maxRecDepth 10000 in
set_option maxHeartbeats 2000000 in
theorem equalRule_any (r : Rl) (u v : Value) (w : World) (hu : Rd w 2 u r.counts.length (pr r.counts)) (hv : Rd w 2 v r.counts.length (pr r.counts)) :
    Calls Tryz.prog 7 #[ruV r u, ruV r v] w fun e w' => e = .returned (.bool true) ∧ Below w.heap.size w w' := by
  have HU := Lib.hid hu
  have HV := Lib.hid hv
  obtain ⟨ao, cap, rfl, _⟩ := hu.pairs
  obtain ⟨bo, cap2, rfl, _⟩ := hv.pairs
  clear hu hv
  have hp : ∀ x : Int, (x == x) = true := by intro x; simp
  obtain ⟨e0, e1, z2, b2⟩ := two_blocks w (.cells #[.int .i64 r.num, .int .i64 r.lvl, .int .i64 r.rank, .int .i64 r.group, .int .i64 r.kind, .int .i64 r.value, .int .i64 r.cap, .int .i64 r.lo, .int .i64 r.hi, .slice ao r.counts.length cap, .int .i64 r.coupon] 30) (.cells #[.int .i64 r.num, .int .i64 r.lvl, .int .i64 r.rank, .int .i64 r.group, .int .i64 r.kind, .int .i64 r.value, .int .i64 r.cap, .int .i64 r.lo, .int .i64 r.hi, .slice bo r.counts.length cap2, .int .i64 r.coupon] 30)
  have H0 := Lib.hid e0
  have H1 := Lib.hid e1
  have HB := Lib.hid b2
  clear e0 e1 b2
  have hq := eqlSpan2 r.lo r.hi r.lo r.hi
  rw [show eqP r.lo r.hi r.lo r.hi = true by simp [eqP]] at hq
  have n_num := hp r.num
  have n_lvl := hp r.lvl
  have n_rank := hp r.rank
  have n_group := hp r.group
  have n_kind := hp r.kind
  have n_value := hp r.value
  have n_cap := hp r.cap
  have n_coupon := hp r.coupon
  clear hp
  obtain ⟨⟨c0, c1, c2, c3, c4, c5, c6, c7, c8, c9, c10⟩, _⟩ := row11 H0.out
  obtain ⟨⟨d0, d1, d2, d3, d4, d5, d6, d7, d8, d9, d10⟩, _⟩ := row11 H1.out
  unfold ruV
  go_enter Tryz.func7, Tryz.ntmps7
  go_wp2_with fail
  refine (equalSpans_any r.counts r.counts _ _ _ (HU.out.below HB.out (Nat.le_refl _)) (HV.out.below HB.out (Nat.le_refl _))).mono ?_
  rintro e w1 ⟨rfl, hb1⟩
  rw [show decide (r.counts = r.counts) = true from decide_eq_true rfl]
  have k0 := (hb1.block w.heap.size (by omega)).trans H0.out
  have k1 := (hb1.block (w.heap.size + 1) (by omega)).trans H1.out
  clear c0 c1 c2 c3 c4 c5 c6 c7 c8 c9 c10 d0 d1 d2 d3 d4 d5 d6 d7 d8 d9 d10
  obtain ⟨⟨c0, c1, c2, c3, c4, c5, c6, c7, c8, c9, c10⟩, _⟩ := row11 k0
  obtain ⟨⟨d0, d1, d2, d3, d4, d5, d6, d7, d8, d9, d10⟩, _⟩ := row11 k1
  clear k0 k1
  go_wp2
  go_ret
  exact ⟨rfl, HB.out.trans (hb1.mono (by omega))⟩

end Go.Proofs.YtdofpealmngmiaaGreatDoor
