/- Walks: equal lists of lines. Conditions: none. -/
import Derived.Test.YtomapdedajdkkaaWA
import Derived.Laws.StructEq
namespace Go.Proofs.Ytomapdedajdkkaa
open Go.RowKit

theorem two_fields {fs : List Field} {T : TypeId} (h : fs.map (fun f => (f.name == "_", f.type, f.offset)) = [(false, T, 0), (false, T, 1)]) :
    ∃ f0 f1, fs = [f0, f1] ∧ f0.name ≠ "_" ∧ f0.type = T ∧ f0.offset = 0 ∧ f1.name ≠ "_" ∧ f1.type = T ∧ f1.offset = 1 := by
  match fs, h with
  | [], h => simp at h
  | [_], h => simp at h
  | _ :: _ :: _ :: _, h => simp at h
  | [f0, f1], h =>
    simp only [List.map_cons, List.map_nil, List.cons.injEq, Prod.mk.injEq, beq_eq_false_iff_ne, and_true] at h
    exact ⟨f0, f1, rfl, h.1.1, h.1.2.1, h.1.2.2, h.2.1, h.2.2.1, h.2.2.2⟩

theorem neqLine (a b c d : Int) (w : World) : (binOp .neq 57 (.agg #[.int .i64 a, .int .i64 b]) (.agg #[.int .i64 c, .int .i64 d])).run Try.prog w = .ok (.bool (!eqP a b c d)) w := by
  have h1 : Try.prog.underlying 57 = some (.struct (Try.prog.fieldsOf 57)) := by kernel_rfl
  have h2 : Try.prog.stoodInHeld 57 = false := by kernel_rfl
  have h3 : (Try.prog.fieldsOf 57).toList.map (fun f => (f.name == "_", f.type, f.offset)) = [(false, 3, 0), (false, 3, 1)] := by kernel_rfl
  have p0 : ∀ x y : Value, (part 3 #[x, y] 0).run Try.prog w = .ok x w := fun x y => by kernel_rfl
  have p1 : ∀ x y : Value, (part 3 #[x, y] 1).run Try.prog w = .ok y w := fun x y => by kernel_rfl
  have hu : ∀ x y : Int, (Op.equalIn (9998 + 1) 3 (.int .i64 x) (.int .i64 y)).run Try.prog w = .ok (x == y) w := fun x y => run_equalIn_int w 9998 3 .i64 .i64 x y Try.underlying3
  obtain ⟨f0, f1, hf, n0, t0, o0, n1, t1, o1⟩ := two_fields h3
  rw [run_neq_struct, run_equalIn_agg w _ _ _ _ h1 h2, hf]
  cases hx : (a == c) <;> cases hy : (b == d) <;>
    simp [Op.eqFields, n0, t0, o0, n1, t1, o1, p0, p1, hu, eqP, hx, hy] <;> simp_all

set_option maxHeartbeats 1000000 in
theorem equalLines_any (l m : List (Int × Int)) (u v : Value) (w : World) (hu : Rd w 2 u l.length (pr l)) (hv : Rd w 2 v m.length (pr m)) :
    Calls Try.prog 25 #[u, v] w fun e w' => e = .returned (.bool (decide (l = m))) ∧ Below w.heap.size w w' := by
  have hm := hu.len
  unfold maxLen at hm
  obtain ⟨ao, cap, rfl, _, _, hr⟩ := hu.pairs
  obtain ⟨bo, cap', rfl, _, _, hs⟩ := hv.pairs
  have HR := Lib.hid hr
  have HS := Lib.hid hs
  clear hr hv hs hu
  go_enter Try.func25, Try.ntmps25
  by_cases hlm : l.length = m.length
  · have hlen : m.length ≤ l.length ∧ l.length ≤ m.length := by omega
    have hne : ((l.length : Int) != (m.length : Int)) = false := by simp [hlm]
    have HLM := Lib.hid hlm
    clear hlm
    go_wp2
    go_loopw [5] (fun i wr => ∃ k : Nat, k ≤ l.length ∧ i = .int .i64 k ∧ Below w.heap.size w wr ∧ Hid (∀ j, j < k → (pA l j, pB l j) = (pA m j, pB m j))) (fun i _ => l.length - (intOf i).toNat)
    case atStart => exact ⟨0, Nat.zero_le _, rfl, Below.refl _ _, fun j hj => absurd hj (Nat.not_lt_zero _)⟩
    case round =>
      obtain ⟨k, hk, rfl, hbl, hall⟩ := hrel
      by_cases hlt : k < l.length
      · have hlt2 : k < m.length := by omega
        obtain ⟨b, off, rfl, hb, hcell⟩ := HR.out (by omega)
        obtain ⟨b2, off2, rfl, hb2, hcell2⟩ := HS.out (by omega)
        have h0 := (hbl.cell (p := ⟨b, off + k*2, none⟩) hb).trans (hcell k hlt).1
        have h1 := (hbl.cell (p := ⟨b, off + k*2+1, none⟩) hb).trans (hcell k hlt).2
        have h2 := (hbl.cell (p := ⟨b2, off2 + k*2, none⟩) hb2).trans (hcell2 k hlt2).1
        have h3 := (hbl.cell (p := ⟨b2, off2 + k*2+1, none⟩) hb2).trans (hcell2 k hlt2).2
        clear hcell hcell2
        cases he : eqP (pA l k) (pB l k) (pA m k) (pB m k)
        · have fin : Hid (decide (l = m) = false) := by
            rw [Hid, decide_eq_false]; rintro rfl; simp [eqP] at he
          have hN := neqLine (pA l k) (pB l k) (pA m k) (pB m k)
          rw [he] at hN
          clear he
          go_wp2
          go_quiet (fail)
          go_wp2
          go_ret
          exact ⟨by rw [fin.out]; rfl, below_drewN hbl _⟩
        · have fin : Hid ((pA l k, pB l k) = (pA m k, pB m k)) := by simpa [Hid, eqP] using he
          have hN := neqLine (pA l k) (pB l k) (pA m k) (pB m k)
          rw [he] at hN
          clear he
          go_wp2
          go_quiet (fail)
          go_wp2
          go_roundw
          case rel => exact ⟨k+1, by omega, by go_num, below_drewN hbl _, all_snoc hall.out fin.out⟩
          case measure => simp [intOf]; omega
      · go_wp2
        go_ret
        have he : l = m := pair_ext HLM.out fun j hj => hall.out j (by omega)
        exact ⟨ret_b (by rw [he]; simp), hbl⟩
  · have hne : ((l.length : Int) != (m.length : Int)) = true := by simp; omega
    have HLM := Lib.hid hlm
    clear hlm
    go_wp2
    go_ret
    exact ⟨ret_b (by rw [decide_eq_false]; intro e; exact HLM.out (by rw [e])), Below.refl _ _⟩

end Go.Proofs.Ytomapdedajdkkaa
