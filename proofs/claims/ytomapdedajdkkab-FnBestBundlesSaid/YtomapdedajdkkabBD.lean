/- Walks: the generators of bundles. Conditions: none. -/
import Derived.Test.YtomapdedajdkkabBN
import Derived.Test.YtomapdedajdkkabCR
namespace Go.Proofs.Ytomapdedajdkkab
open Go.RowKit

theorem Try.info46b : (Try.prog.info? 46).map (fun i => (i.zero, i.size, i.bytes)) = some (some (.agg #[.int .i64 0, .int .i64 0]), 2, 16) := by kernel_rfl
theorem Try.info33b : (Try.prog.info? 33).map (fun i => (i.zero, i.size, i.bytes)) = some (some (.agg #[.slice none 0 0, .int .i64 0]), 2, 32) := by kernel_rfl

/-- What drawn bundles are. -/
def BnPost (w : World) (R u : Nat) (e : Ending) (w' : World) : Prop :=
  ∃ (B : List Bn) (v : Value), e = .returned v ∧ w'.ownsRow w.heap.size 33 2 v B.length (bn B) ∧ PartsB w' w.heap.size 46 B v.ownBlock ∧ B.length ≤ 4 ∧ RdrStep w R (u + 120) w'

set_option maxHeartbeats 4000000 in
set_option maxRecDepth 100000 in
theorem someBundles_any (R u n : Nat) (so : Option Addr) (scap : Nat) (w : World) (h : Rdr w R u) (hu : u ≤ 1000000000500) (hn : n ≤ 10) :
    Calls Try.prog 56 #[.pointer (some ⟨R, 0, none⟩), .slice so n scap] w (BnPost w R u) := by
  have hR := h.lt
  obtain ⟨i0, hi, hz0, hz1, hz2⟩ := info_parts Try.info46b
  obtain ⟨i1, hj, hy0, hy1, hy2⟩ := info_parts Try.info33b
  have HI := Lib.hid hi
  have HZ0 := Lib.hid hz0
  have HZ1 := Lib.hid hz1
  have HZ2 := Lib.hid hz2
  have HJ := Lib.hid hj
  have HY0 := Lib.hid hy0
  have HY1 := Lib.hid hy1
  have HY2 := Lib.hid hy2
  clear hi hz0 hz1 hz2 hj hy0 hy1 hy2
  go_enter Try.func56, Try.ntmps56
  go_wp2_with fail
  have s0 := (RdrStep.refl h).alloc (.cells #[] 33)
  have O0 := Lib.hid (show (w.alloc (.cells #[] 33)).ownsRow w.heap.size 33 2 (.slice (some ⟨w.heap.size, 0, none⟩) 0 0) 0 (bn []) from World.ownsRow_made w #[] 0 (Nat.le_refl _) (by simp) (by simp))
  have c1 := one_lit R _ [1, 2, 3, 2, 0, 4] (w.alloc (.cells #[] 33)) 3 s0.1 (by omega) (by simp) (by simp)
  rw [World.size_alloc] at c1
  refine c1.mono ?_
  clear c1
  rintro e w2 ⟨n0, hn0, rfl, s2⟩
  have hn1 : 0 ≤ n0 ∧ n0 ≤ 4 := (by decide : ∀ x ∈ ([1, 2, 3, 2, 0, 4] : List Int), 0 ≤ x ∧ x ≤ 4) n0 hn0
  obtain ⟨m0, rfl⟩ := Int.eq_ofNat_of_zero_le hn1.1
  have hn2 : m0 ≤ 4 := by omega
  have O2 := Lib.hid (owns_step O0.out s2 hR)
  have s2' := s0.trans s2
  clear hn0 O0 s2 s0 hn1
  go_wp2
  go_loopw [5, 6] (fun v nn wr => ∃ (m : Nat) (B : List Bn), nn = .int .i64 m ∧ B.length + m = m0 ∧ Hid (wr.ownsRow w.heap.size 33 2 v B.length (bn B)) ∧ Hid (PartsB wr w.heap.size 46 B v.ownBlock) ∧ RdrStep w R (u + 110 - 25 * m) wr) (fun _ nn _ => (intOf nn).toNat)
  case atStart => exact ⟨m0, [], rfl, by simp, O2, Lib.hid PartsB.nil, s2'.mono (by omega)⟩
  case round =>
    clear O2 s2'
    obtain ⟨m, B, rfl, hlm, O, PB, S⟩ := hrel
    obtain ⟨oo, ocap, rfl, _⟩ := owns_shape O.out
    obtain ⟨wo, rfl⟩ : ∃ wo : World, wo = wr := ⟨_, rfl⟩
    by_cases hm : 0 < m
    · by_cases hn0 : 0 < n
      · have HO := Lib.hid (fun k hk => (O.out.lt k hk).2)
        have HP := Lib.hid (fun x hx k hk => ((PB.out x hx).1.lt k hk).2)
        have HP := Lib.hid (fun x hx k hk => ((PB.out x hx).1.lt k hk).2)
        have Zw := S.size
        have o1 := O.out.alloc (.cells #[] 46)
        have O1 := Lib.hid o1
        have P1 := Lib.hid (PB.out.alloc (.cells #[] 46))
        have s1 := S.alloc (.cells #[] 46)
        have Q0 := Lib.hid (show (wo.alloc (.cells #[] 46)).ownsRow wo.heap.size 46 2 (.slice (some ⟨wo.heap.size, 0, none⟩) 0 0) 0 (pr []) from World.ownsRow_made wo #[] 0 (Nat.le_refl _) (by simp) (by simp))
        clear o1
        go_wp2
        go_loopw [7, 8] (fun pv ii wr => ∃ (i : Nat) (l : List (Int × Int)), ii = .int .i64 i ∧ i ≤ n ∧ l.length ≤ 3 ∧ Hid (wr.ownsRow w.heap.size 33 2 (.slice oo B.length ocap) B.length (bn B)) ∧ Hid (PartsB wr w.heap.size 46 B (Value.slice oo B.length ocap).ownBlock) ∧ Hid (wr.ownsRow wo.heap.size 46 2 pv l.length (pr l)) ∧ RdrStep w R (u + 110 - 25 * m + 2 * i) wr ∧ wo.heap.size ≤ wr.heap.size) (fun _ ii _ => n - (intOf ii).toNat)
        case atStart => exact ⟨0, [], rfl, Nat.zero_le _, by simp, O1, P1, Q0, s1.mono (by omega), by simp⟩
        case round =>
          clear O1 P1 Q0 s1
          obtain ⟨i, l, rfl, hi, hl, O1, P1, Q, S1, Z1⟩ := hrel
          obtain ⟨ao, cap, rfl, _⟩ := owns_shape Q.out
          by_cases hlt : i < n
          · go_wp2_with fail
            refine (pick_any R _ _ _ S1.1 (by omega)).mono ?_
            rintro e w3 ⟨k0, rfl, _, _, st⟩
            have O2 := Lib.hid (owns_step O1.out st (by omega))
            have P2 := Lib.hid (P1.out.step st (by omega))
            have Q2 := Lib.hid (owns_step Q.out st (by omega))
            have S2 := S1.trans st
            have Z2 := st.size
            clear st O1 P1 Q S1
            cases hk : (k0 == 0)
            · go_wp2
              go_roundw
              case rel => exact ⟨i + 1, l, by go_num, by omega, hl, O2, P2, Q2, S2.mono (by omega), by omega⟩
              case measure => simp [intOf]; omega
            · by_cases hl3 : l.length < 3
              · go_wp2_with fail
                refine (pick_any R _ _ _ S2.1 (by omega)).mono ?_
                rintro e w4 ⟨k1, rfl, h1, h2, st⟩
                have h3 := h2 (by omega)
                have O3 := Lib.hid (owns_step O2.out st (by omega))
                have P3 := Lib.hid (P2.out.step st (by omega))
                have Q3 := Lib.hid (owns_step Q2.out st (by omega))
                have S3 := S2.trans st
                have Z3 := st.size
                clear st O2 P2 Q2 S2 h2
                have hw : IntKind.i64.wrap (1 + k1) = 1 + k1 := IntWalk.i64_in _ (by omega)
                go_wp2_with (at_builtin; refine app_pair rfl (.tmp 37) (.tmp 43) 31 rfl wo.heap.size 46 _ i0 _ Try.underlying31 HI.out HZ0.out HZ1.out HZ2.out rfl _ l i (1 + k1) rfl Q3.out rfl (by omega) (by omega) ?_; intro v' w7 ho7 hg7)
                have L3 := Lib.hid (fun k hk => (Q3.out.lt k hk).1)
                have S7 := (S3.alloc _).own hR hg7 (fun k hk => by have := L3.out k hk; omega)
                have O7 := Lib.hid (owns_apart (O3.out.alloc _) hg7 (fun k k' h1 h2 => by have := HO.out k h1; have := L3.out k' h2; omega))
                have P7 := Lib.hid ((P3.out.alloc _).grown hg7 (fun x hx k hk e => by have := HP.out x hx k hk; have := (Q3.out.lt k e).1; omega))
                have Q7 := Lib.hid ho7
                have Z7 := hg7.size
                clear ho7 hg7 O3 P3 Q3 S3
                go_wp2
                go_roundw
                case rel => exact ⟨i + 1, l ++ [((i : Int), 1 + k1)], by go_num, by omega, by simp; omega, O7, P7, Q7, S7.mono (by omega), by simp at Z7; omega⟩
                case measure => simp [intOf]; omega
              · go_wp2
                go_roundw
                case rel => exact ⟨i + 1, l, by go_num, by omega, hl, O2, P2, Q2, S2.mono (by omega), by omega⟩
                case measure => simp [intOf]; omega
          · by_cases hl0 : l.length = 0
            · have hl0b : ((l.length : Int) == 0) = true := by simp [hl0]
              have HL0 := Lib.hid hl0
              clear hl0
              go_wp2_with fail
              refine (pick_any R _ _ _ S1.1 (by omega)).mono ?_
              rintro e w3 ⟨k0, rfl, _, _, st⟩
              have O2 := Lib.hid (owns_step O1.out st (by omega))
              have P2 := Lib.hid (P1.out.step st (by omega))
              have Q2 := Lib.hid (owns_step Q.out st (by omega))
              have S2 := S1.trans st
              have Z2 := st.size
              clear st O1 P1 Q S1
              by_cases hk : 0 < k0
              · go_wp2_with fail
                refine (pick_any R _ _ _ S2.1 (by omega)).mono ?_
                rintro e w4 ⟨k1, rfl, _, _, st⟩
                have O3 := Lib.hid (owns_step O2.out st (by omega))
                have P3 := Lib.hid (P2.out.step st (by omega))
                have Q3 := Lib.hid (owns_step Q2.out st (by omega))
                have S3 := S2.trans st
                have Z3 := st.size
                clear st O2 P2 Q2 S2
                go_wp2_with (at_builtin; refine app_pair rfl (.tmp 53) (.tmp 59) 31 rfl wo.heap.size 46 _ i0 _ Try.underlying31 HI.out HZ0.out HZ1.out HZ2.out rfl _ l k1 2 rfl Q3.out rfl (by omega) (by omega) ?_; intro v' w7 ho7 hg7)
                have L3 := Lib.hid (fun k hk => (Q3.out.lt k hk).1)
                have S7 := (S3.alloc _).own hR hg7 (fun k hk => by have := L3.out k hk; omega)
                have O7 := Lib.hid (owns_apart (O3.out.alloc _) hg7 (fun k k' h1 h2 => by have := HO.out k h1; have := L3.out k' h2; omega))
                have P7 := Lib.hid ((P3.out.alloc _).grown hg7 (fun x hx k hk e => by have := HP.out x hx k hk; have := L3.out k e; omega))
                have Q7 := Lib.hid ho7
                have Z7 := hg7.size
                have hl7 : (l ++ [(k1, (2 : Int))]).length ≤ 10 := by simp; omega
                clear ho7 hg7 O3 P3 Q3 S3
                revert Q7
                generalize l ++ [(k1, (2 : Int))] = l2 at hl7
                intro Q7
                obtain ⟨ao2, cap2, rfl, _⟩ := owns_shape Q7.out
                go_wp2_with fail
                refine (one_lit R _ [100, 500, 300, 0, 20000, 750] _ _ S7.1 (by omega) (by simp) (by simp)).mono ?_
                rintro e w8 ⟨q, _, rfl, st⟩
                have O8 := Lib.hid (owns_step O7.out st (by omega))
                have P8 := Lib.hid (P7.out.step st (by omega))
                have Q8 := Lib.hid (owns_step Q7.out st (by omega))
                have S8 := S7.trans st
                have Z8 := st.size
                clear st O7 P7 Q7 S7
                go_wp2_with (at_builtin; refine app_bn rfl (.tmp 61) (.tmp 67) 39 rfl w.heap.size 33 _ i1 _ Try.underlying39 HJ.out HY0.out HY1.out HY2.out rfl _ B (l2) _ _ _ q rfl O8.out rfl (by omega) S8.size ?_; intro v' w9 ho9 hg9 hn9)
                have S9 := (S8.alloc _).own hR hg9 (fun k hk => (O8.out.lt k hk).1)
                have P9 := Lib.hid ((P8.out.alloc _).snoc (x := ⟨l2, _, q⟩) (owns_base (Q8.out.alloc _) Zw) (show l2.length ≤ 1048576 by omega) (fun k hk e => by have h1 := (Q8.out.lt k hk).1; have h2 := HO.out k e; omega) hg9 hn9)
                have O9 := Lib.hid ho9
                clear ho9 hg9 O8 P8 Q8 S8 hn9
                go_wp2
                go_roundw
                case rel => exact ⟨m - 1, B ++ [⟨l2, _, q⟩], by go_num, by simp; omega, O9, P9, S9.mono (by omega)⟩
                case measure => simp [intOf]; omega
              · have hkb : decide (0 < k0) = false := by simpa using hk
                go_wp2_with fail
                refine (one_lit R _ [100, 500, 300, 0, 20000, 750] _ _ S2.1 (by omega) (by simp) (by simp)).mono ?_
                rintro e w8 ⟨q, _, rfl, st⟩
                have O8 := Lib.hid (owns_step O2.out st (by omega))
                have P8 := Lib.hid (P2.out.step st (by omega))
                have Q8 := Lib.hid (owns_step Q2.out st (by omega))
                have S8 := S2.trans st
                have Z8 := st.size
                clear st O2 P2 Q2 S2
                go_wp2_with (at_builtin; refine app_bn rfl (.tmp 61) (.tmp 67) 39 rfl w.heap.size 33 _ i1 _ Try.underlying39 HJ.out HY0.out HY1.out HY2.out rfl _ B (l) _ _ _ q rfl O8.out rfl (by omega) S8.size ?_; intro v' w9 ho9 hg9 hn9)
                have S9 := (S8.alloc _).own hR hg9 (fun k hk => (O8.out.lt k hk).1)
                have P9 := Lib.hid ((P8.out.alloc _).snoc (x := ⟨l, _, q⟩) (owns_base (Q8.out.alloc _) Zw) (show l.length ≤ 1048576 by omega) (fun k hk e => by have h1 := (Q8.out.lt k hk).1; have h2 := HO.out k e; omega) hg9 hn9)
                have O9 := Lib.hid ho9
                clear ho9 hg9 O8 P8 Q8 S8 hn9
                go_wp2
                go_roundw
                case rel => exact ⟨m - 1, B ++ [⟨l, _, q⟩], by go_num, by simp; omega, O9, P9, S9.mono (by omega)⟩
                case measure => simp [intOf]; omega
            · have hl0b : ((l.length : Int) == 0) = false := by rw [beq_eq_false_iff_ne]; omega
              clear hl0
              go_wp2_with fail
              refine (one_lit R _ [100, 500, 300, 0, 20000, 750] _ _ S1.1 (by omega) (by simp) (by simp)).mono ?_
              rintro e w8 ⟨q, _, rfl, st⟩
              have O8 := Lib.hid (owns_step O1.out st (by omega))
              have P8 := Lib.hid (P1.out.step st (by omega))
              have Q8 := Lib.hid (owns_step Q.out st (by omega))
              have S8 := S1.trans st
              have Z8 := st.size
              clear st O1 P1 Q S1
              go_wp2_with (at_builtin; refine app_bn rfl (.tmp 61) (.tmp 67) 39 rfl w.heap.size 33 _ i1 _ Try.underlying39 HJ.out HY0.out HY1.out HY2.out rfl _ B (l) _ _ _ q rfl O8.out rfl (by omega) S8.size ?_; intro v' w9 ho9 hg9 hn9)
              have S9 := (S8.alloc _).own hR hg9 (fun k hk => (O8.out.lt k hk).1)
              have P9 := Lib.hid ((P8.out.alloc _).snoc (x := ⟨l, _, q⟩) (owns_base (Q8.out.alloc _) Zw) (show l.length ≤ 1048576 by omega) (fun k hk e => by have h1 := (Q8.out.lt k hk).1; have h2 := HO.out k e; omega) hg9 hn9)
              have O9 := Lib.hid ho9
              clear ho9 hg9 O8 P8 Q8 S8 hn9
              go_wp2
              go_roundw
              case rel => exact ⟨m - 1, B ++ [⟨l, _, q⟩], by go_num, by simp; omega, O9, P9, S9.mono (by omega)⟩
              case measure => simp [intOf]; omega
      · go_wp2
        go_ret
        exact ⟨B, _, rfl, O.out, PB.out, by omega, S.mono (by omega)⟩
    · go_wp2
      go_ret
      exact ⟨B, _, rfl, O.out, PB.out, by omega, S.mono (by omega)⟩

end Go.Proofs.Ytomapdedajdkkab
