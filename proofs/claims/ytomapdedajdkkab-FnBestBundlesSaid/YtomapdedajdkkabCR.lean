/- Walks: the generators of shops and carts. Conditions: none. -/
import Derived.Test.YtomapdedajdkkabWR
import Derived.Test.YtomapdedajdkkabCartFns
import Derived.Test.YtomapdedajdkkabRow
import Derived.Test.YtomapdedajdkkabCQ
namespace Go.Proofs.Ytomapdedajdkkab
open Go.RowKit

theorem Try.info75g : (Try.prog.info? 75).map (fun i => (i.zero, i.size, i.bytes)) = some (some (.agg #[.int .i64 0, .int .i64 0, .int .i64 0, .int .i64 0]), 4, 32) := by kernel_rfl
theorem Try.info46g : (Try.prog.info? 46).map (fun i => (i.zero, i.size, i.bytes)) = some (some (.agg #[.int .i64 0, .int .i64 0]), 2, 16) := by kernel_rfl

theorem cell_four_new (w : World) (a b c d : Value) (t : TypeId) : ∀ j u, [a, b, c, d][j]? = some u → (w.alloc (.cells #[a, b, c, d] t)).cell? ((⟨w.heap.size, 0, none⟩ : Addr).add j) = some u := by
  intro j u hj
  match j, hj with
  | 0, hj => simp at hj; subst hj; simp [Addr.add]
  | 1, hj => simp at hj; subst hj; simp [Addr.add]
  | 2, hj => simp at hj; subst hj; simp [Addr.add]
  | 3, hj => simp at hj; subst hj; simp [Addr.add]
  | j + 4, hj => simp at hj

theorem ar_append (l m : List Art) : ar (l ++ m) = ar l ++ ar m := by simp [ar, List.flatMap_append]

/-- append of one article to a row of the call's own. -/
theorem app_art {P : Program} {w : World} {ops : Array Oper} {rest : List Oper} {o : Oper} {a : Act} {Q : Exit → Act → World → Prop} (hgd : o.guard = none) (s x : Operand) (t : TypeId)
    (ho : o.op = .call { callee := .builtin .append, args := #[s, x], argTypes := #[t, t] }) (base : Nat) (e t2 : TypeId) (i : TypeInfo) (z : Value) (ht : P.underlying t = some (.slice e)) (hi : P.info? e = some i) (hz : i.zero = some z)
    (hs : i.size = 4) (hby : i.bytes = 32) (hzs : z.cells.size = 4) (v : Value) (l : List Art) (p q r k : Int) (hv : a.eval s = v) (hown : w.ownsRow base e 4 v l.length (ar l))
    (hx : a.eval x = .slice (some ⟨w.heap.size, 0, none⟩) 1 1) (hlen : l.length ≤ 1099511627) (hbase : base ≤ w.heap.size)
    (h : ∀ v' w1, w1.ownsRow base e 4 v' (l ++ [(⟨p, q, r, k⟩ : Art)]).length (ar (l ++ [(⟨p, q, r, k⟩ : Art)])) → (w.alloc (.cells #[.int .i64 p, .int .i64 q, .int .i64 r, .int .i64 k] t2)).grownBy w1 v.ownBlock → wpList P ops Q rest (a.put o.dst v') w1) :
    wpList P ops Q (o :: rest) a (w.alloc (.cells #[.int .i64 p, .int .i64 q, .int .i64 r, .int .i64 k] t2)) := by
  refine wpList_append_own _ hgd s x t ho base e i z 4 32 ht hi hz hs hby hzs (by decide) v l.length (ar l) hv (hown.alloc _) ⟨w.heap.size, 0, none⟩ 1 1 [.int .i64 p, .int .i64 q, .int .i64 r, .int .i64 k] hx rfl (cell_four_new w _ _ _ _ t2) (by
    intro u hu
    simp only [List.mem_cons, List.not_mem_nil, or_false] at hu
    rcases hu with rfl | rfl | rfl | rfl <;> rfl) (by unfold maxLen; omega) (by omega) (by simp; omega) ?_
  intro v' w1 h1 h2 _
  refine h v' w1 ?_ h2
  rw [List.length_append, ar_append]
  exact h1

theorem set_sameV {α : Type} (xs : List α) (k : Nat) (a : α) (h : xs[k]? = some a) : xs.set k a = xs := by
  apply List.ext_getElem?
  intro j
  rw [List.getElem?_set]
  split
  · rename_i e
    subst e
    have := (List.getElem?_eq_some_iff.1 h).1
    rw [if_pos this, h]
  · rfl

/-- What a drawn shop is. -/
def ShopPost (w : World) (R u : Nat) (e : Ending) (w' : World) : Prop :=
  ∃ (l : List Art) (v : Value), e = .returned v ∧ w'.ownsRow w.heap.size 75 4 v l.length (ar l) ∧ l.length ≤ 10 ∧ RdrStep w R (u + 60) w'
/-- What a drawn cart is. -/
def CartPost (w : World) (R u : Nat) (e : Ending) (w' : World) : Prop :=
  ∃ (l : List (Int × Int)) (v : Value), e = .returned v ∧ w'.ownsRow w.heap.size 46 2 v l.length (pr l) ∧ l.length ≤ 9 ∧ RdrStep w R (u + 60) w'

set_option maxHeartbeats 2000000 in
set_option maxRecDepth 100000 in
theorem someShop_any (R u : Nat) (w : World) (h : Rdr w R u) (hu : u ≤ 1000000000000) :
    Calls Try.prog 90 #[.pointer (some ⟨R, 0, none⟩)] w fun e w' => ∃ (l : List Art) (v : Value), e = .returned v ∧ w'.ownsRow w.heap.size 75 4 v l.length (ar l) ∧ 0 < l.length ∧ l.length ≤ 10 ∧ RdrStep w R (u + 50) w' := by
  have hR := h.lt
  obtain ⟨i0, hi, hz0, hz1, hz2⟩ := info_parts Try.info75g
  have HI := Lib.hid hi
  have HZ0 := Lib.hid hz0
  have HZ1 := Lib.hid hz1
  have HZ2 := Lib.hid hz2
  clear hi hz0 hz1 hz2
  go_enter Try.func90, Try.ntmps90
  go_wp2_with fail
  have s0 := (RdrStep.refl h).alloc (.cells #[] 75)
  have o0 : (w.alloc (.cells #[] 75)).ownsRow w.heap.size 75 4 (.slice (some ⟨w.heap.size, 0, none⟩) 0 0) 0 (ar []) := World.ownsRow_made w #[] 0 (Nat.le_refl _) (by simp) (by simp)
  have O0 := Lib.hid o0
  clear o0
  have c1 := one_lit R _ [4, 6, 3, 8, 1, 10] (w.alloc (.cells #[] 75)) 3 s0.1 (by omega) (by simp) (by simp)
  rw [World.size_alloc] at c1
  refine c1.mono ?_
  clear c1
  rintro e w2 ⟨n0, hn0, rfl, s2⟩
  have hn1 : 1 ≤ n0 ∧ n0 ≤ 10 := (by decide : ∀ x ∈ ([4, 6, 3, 8, 1, 10] : List Int), 1 ≤ x ∧ x ≤ 10) n0 hn0
  obtain ⟨n, rfl⟩ := Int.eq_ofNat_of_zero_le (show 0 ≤ n0 by omega)
  have hn2 : n ≤ 10 := by omega
  have hn3 : 1 ≤ n := by omega
  have O2 := Lib.hid (owns_step O0.out s2 hR)
  have s2' := s0.trans s2
  clear hn0 O0 s2 s0 hn1
  go_wp2
  go_loopw [3, 4] (fun v nn wr => ∃ (m : Nat) (l : List Art), nn = .int .i64 m ∧ l.length + m = n ∧ Hid (wr.ownsRow w.heap.size 75 4 v l.length (ar l)) ∧ RdrStep w R (u + 50 - 4 * m) wr) (fun _ nn _ => (intOf nn).toNat)
  case atStart => exact ⟨n, [], rfl, by simp, O2, s2'.mono (by omega)⟩
  case round =>
    clear O2 s2'
    obtain ⟨m, l, rfl, hlm, O, S⟩ := hrel
    by_cases hm : 0 < m
    · go_wp2_with fail
      refine (one_lit R _ [100, 250, 333, 1000, 1, 5000, 799] _ _ S.1 (by omega) (by simp) (by simp)).mono ?_
      rintro e w3 ⟨p, _, rfl, st⟩
      have O3 := Lib.hid (owns_step O.out st (by omega))
      have S3 := S.trans st
      clear st O S
      go_wp2_with fail
      refine (pick_any R _ _ _ S3.1 (by omega)).mono ?_
      rintro e w4 ⟨g, rfl, _, _, st⟩
      have O4 := Lib.hid (owns_step O3.out st (by omega))
      have S4 := S3.trans st
      clear st O3 S3
      go_wp2_with fail
      refine (one_lit R _ [190, 70, 0, 300, 190] _ _ S4.1 (by omega) (by simp) (by simp)).mono ?_
      rintro e w5 ⟨r, _, rfl, st⟩
      have O5 := Lib.hid (owns_step O4.out st (by omega))
      have S5 := S4.trans st
      clear st O4 S4
      go_wp2_with fail
      refine (one_lit R _ [100, 500, 0, 2000, 5000] _ _ S5.1 (by omega) (by simp) (by simp)).mono ?_
      rintro e w6 ⟨k, _, rfl, st⟩
      have O6 := Lib.hid (owns_step O5.out st (by omega))
      have S6 := S5.trans st
      clear st O5 S5
      go_wp2_with (at_builtin; refine app_art rfl (.tmp 13) (.tmp 26) 29 rfl w.heap.size 75 _ i0 _ Try.underlying29 HI.out HZ0.out HZ1.out HZ2.out rfl _ l p g r k rfl O6.out rfl (by omega) S6.size ?_; intro v' w7 ho7 hg7)
      have S7 := (S6.alloc _).own hR hg7 (fun k hk => (O6.out.lt k hk).1)
      have O7 := Lib.hid ho7
      clear ho7 hg7 O6 S6
      go_wp2
      go_roundw
      case rel => exact ⟨m - 1, l ++ [⟨p, g, r, k⟩], by go_num, by simp; omega, O7, S7.mono (by omega)⟩
      case measure => simp [intOf]; omega
    · go_wp2
      go_ret
      exact ⟨l, _, rfl, O.out, by omega, by omega, S.mono (by omega)⟩

set_option maxHeartbeats 2000000 in
set_option maxRecDepth 100000 in
theorem anyShop_any (R u : Nat) (w : World) (h : Rdr w R u) (hu : u ≤ 1000000000000) :
    Calls Try.prog 80 #[.pointer (some ⟨R, 0, none⟩)] w (ShopPost w R u) := by
  have hR := h.lt
  have H := Lib.hid h
  clear h
  go_enter Try.func80, Try.ntmps80
  go_wp2_with fail
  refine (someShop_any R _ _ H.out hu).mono ?_
  rintro e w1 ⟨l, v, rfl, ho, hl0, hl, S1⟩
  obtain ⟨ao, cap, rfl, hsh⟩ := owns_shape ho
  obtain ⟨g, rfl, hg⟩ := hsh hl0
  have O1 := Lib.hid ho
  clear ho hsh
  go_wp2_with fail
  refine (pick_any R _ _ _ S1.1 (by omega)).mono ?_
  rintro e w2 ⟨k0, rfl, _, _, st⟩
  have O2 := Lib.hid (owns_step O1.out st (by omega))
  have S2 := S1.trans st
  clear st O1 S1
  cases hz0 : (k0 == 0)
  · cases hz1 : (k0 == 1)
    · go_wp2
      go_ret
      exact ⟨l, _, rfl, O2.out, hl, S2.mono (by omega)⟩
    · go_wp2
      go_ret
      exact ⟨[], _, rfl, ⟨rfl, .inl ⟨rfl, rfl⟩⟩, by simp, S2.mono (by omega)⟩
  · go_wp2_with fail
    refine (one_lit R _ [0, 5001, 1] _ _ S2.1 (by omega) (by simp) (by simp)).mono ?_
    rintro e w3 ⟨p, _, rfl, st⟩
    have O3 := Lib.hid (owns_step O2.out st (by omega))
    have S3 := S2.trans st
    clear st O2 S2
    go_wp2_with fail
    refine (one_lit R _ [0, 3, -1] _ _ S3.1 (by omega) (by simp) (by simp)).mono ?_
    rintro e w4 ⟨q, _, rfl, st⟩
    have O4 := Lib.hid (owns_step O3.out st (by omega))
    have S4 := S3.trans st
    clear st O3 S3
    go_wp2_with fail
    refine (one_lit R _ [0, 301] _ _ S4.1 (by omega) (by simp) (by simp)).mono ?_
    rintro e w5 ⟨r, _, rfl, st⟩
    have O5 := Lib.hid (owns_step O4.out st (by omega))
    have S5 := S4.trans st
    clear st O4 S4
    go_wp2_with fail
    refine (one_lit R _ [0, 5001] _ _ S5.1 (by omega) (by simp) (by simp)).mono ?_
    rintro e w6 ⟨k, _, rfl, st⟩
    have O6 := Lib.hid (owns_step O5.out st (by omega))
    have S6 := S5.trans st
    clear st O5 S5
    obtain ⟨⟨c0, c1, c2, c3⟩, f0, f1, f2, f3⟩ := owns_at4 O6.out 0 hl0
    simp only [Nat.zero_mul, Nat.zero_add] at c0 c1 c2 c3 f0 f1 f2 f3
    have hgw : g < w6.heap.size := (O6.out.lt g rfl).2
    go_wp2
    go_ret
    have hge : ∀ k, some g = some k → w.heap.size ≤ k := fun k hk => by simp only [Option.some.injEq] at hk; omega
    have e1 := O6.out.stored 0 (.int .i64 p)
    have e2 := e1.1.stored 1 (.int .i64 q)
    have e3 := e2.1.stored 2 (.int .i64 r)
    have e4 := e3.1.stored 3 (.int .i64 k)
    refine ⟨l.set 0 ⟨p, q, r, k⟩, _, rfl, ?_, by simp; omega, ((((S6.own hR e1.2 hge).own hR e2.2 hge).own hR e3.2 hge).own hR e4.2 hge).mono (by omega)⟩
    rw [List.length_set]
    exact owns_set4 O6.out 0 ⟨p, q, r, k⟩

set_option maxHeartbeats 2000000 in
set_option maxRecDepth 100000 in
theorem someCart_any (R u n : Nat) (so : Option Addr) (scap : Nat) (w : World) (h : Rdr w R u) (hu : u ≤ 1000000000100) (hn : n ≤ 1000) :
    Calls Try.prog 81 #[.pointer (some ⟨R, 0, none⟩), .slice so n scap] w fun e w' => ∃ (l : List (Int × Int)) (v : Value), e = .returned v ∧ w'.ownsRow w.heap.size 46 2 v l.length (pr l) ∧ l.length ≤ 8 ∧ RdrStep w R (u + 2 * n) w' := by
  have hR := h.lt
  obtain ⟨i0, hi, hz0, hz1, hz2⟩ := info_parts Try.info46g
  have HI := Lib.hid hi
  have HZ0 := Lib.hid hz0
  have HZ1 := Lib.hid hz1
  have HZ2 := Lib.hid hz2
  clear hi hz0 hz1 hz2
  go_enter Try.func81, Try.ntmps81
  go_wp2
  have s0 := (RdrStep.refl h).alloc (.cells #[] 46)
  have o0 : (w.alloc (.cells #[] 46)).ownsRow w.heap.size 46 2 (.slice (some ⟨w.heap.size, 0, none⟩) 0 0) 0 (pr []) := World.ownsRow_made w #[] 0 (Nat.le_refl _) (by simp) (by simp)
  have O0 := Lib.hid o0
  clear o0
  go_loopw [5, 6] (fun v ii wr => ∃ (i : Nat) (l : List (Int × Int)), ii = .int .i64 i ∧ i ≤ n ∧ l.length ≤ 8 ∧ Hid (wr.ownsRow w.heap.size 46 2 v l.length (pr l)) ∧ RdrStep w R (u + 2 * i) wr) (fun _ ii _ => n - (intOf ii).toNat)
  case atStart => exact ⟨0, [], rfl, Nat.zero_le _, by simp, O0, s0.mono (by omega)⟩
  case round =>
    clear O0 s0
    obtain ⟨i, l, rfl, hi, hl, O, S⟩ := hrel
    obtain ⟨ao, cap, rfl, _⟩ := owns_shape O.out
    by_cases hlt : i < n
    · by_cases hl8 : l.length < 8
      · go_wp2_with fail
        refine (pick_any R _ _ _ S.1 (by omega)).mono ?_
        rintro e w2 ⟨k0, rfl, _, _, st⟩
        have O2 := Lib.hid (owns_step O.out st (by omega))
        have S2 := S.trans st
        clear st O S
        by_cases hk : 0 < k0
        · go_wp2_with fail
          refine (one_lit R _ [1, 2, 3, 5, 20, 4] _ _ S2.1 (by omega) (by simp) (by simp)).mono ?_
          rintro e w3 ⟨p, _, rfl, st⟩
          have O3 := Lib.hid (owns_step O2.out st (by omega))
          have S3 := S2.trans st
          clear st O2 S2
          go_wp2_with (at_builtin; refine app_pair rfl (.tmp 22) (.tmp 28) 31 rfl w.heap.size 46 _ i0 _ Try.underlying31 HI.out HZ0.out HZ1.out HZ2.out rfl _ l i p rfl O3.out rfl (by omega) S3.size ?_; intro v' w7 ho7 hg7)
          have S7 := (S3.alloc _).own hR hg7 (fun k hk => (O3.out.lt k hk).1)
          have O7 := Lib.hid ho7
          clear ho7 hg7 O3 S3
          go_wp2
          go_roundw
          case rel => exact ⟨i + 1, l ++ [((i : Int), p)], by go_num, by omega, by simp; omega, O7, S7.mono (by omega)⟩
          case measure => simp [intOf]; omega
        · have hkb : decide (0 < k0) = false := by simpa using hk
          go_wp2
          go_roundw
          case rel => exact ⟨i + 1, l, by go_num, by omega, hl, O2, S2.mono (by omega)⟩
          case measure => simp [intOf]; omega
      · go_wp2
        go_ret
        exact ⟨l, _, rfl, O.out, hl, S.mono (by omega)⟩
    · go_wp2
      go_ret
      exact ⟨l, _, rfl, O.out, hl, S.mono (by omega)⟩

/-- What a drawn basket is: a shop and a cart. -/
def BasketPost (w : World) (R u : Nat) (e : Ending) (w' : World) : Prop :=
  ∃ (s : List Art) (sv : Value) (c : List (Int × Int)) (cv : Value), e = .returned (.tuple #[sv, cv]) ∧ w'.ownsRow w.heap.size 75 4 sv s.length (ar s) ∧ s.length ≤ 10 ∧ w'.ownsRow w.heap.size 46 2 cv c.length (pr c) ∧ c.length ≤ 9 ∧ (∀ k k', sv.ownBlock = some k → cv.ownBlock = some k' → k ≠ k') ∧ RdrStep w R (u + 100) w'

set_option maxHeartbeats 2000000 in
set_option maxRecDepth 100000 in
theorem anyBasket_any (R u : Nat) (w : World) (h : Rdr w R u) (hu : u ≤ 1000000000000) :
    Calls Try.prog 55 #[.pointer (some ⟨R, 0, none⟩)] w (BasketPost w R u) := by
  have hR := h.lt
  have H := Lib.hid h
  clear h
  obtain ⟨i0, hi, hz0, hz1, hz2⟩ := info_parts Try.info46g
  have HI := Lib.hid hi
  have HZ0 := Lib.hid hz0
  have HZ1 := Lib.hid hz1
  have HZ2 := Lib.hid hz2
  clear hi hz0 hz1 hz2
  go_enter Try.func55, Try.ntmps55
  go_wp2_with fail
  refine (anyShop_any R _ _ H.out hu).mono ?_
  rintro e w1 ⟨s, sv, rfl, hos, hs10, S1⟩
  have LS := Lib.hid (fun k hk => hos.lt k hk)
  have A1 := Lib.hid hos
  obtain ⟨so, scap, rfl, _⟩ := owns_shape hos
  have Z1 := S1.size
  clear hos
  go_wp2_with fail
  refine (someCart_any R _ _ _ _ _ S1.1 (by omega) (by omega)).mono ?_
  rintro e w2 ⟨c, cv, rfl, hoc, hc8, st⟩
  have A2 := Lib.hid (owns_step A1.out st (by omega))
  have S2 := S1.trans st
  have Z12 := st.size
  have C2 := Lib.hid hoc
  clear hoc st S1 A1
  obtain ⟨co, ccap, rfl, hcs⟩ := owns_shape C2.out
  have HCS := Lib.hid hcs
  clear hcs
  go_wp2_with fail
  refine (pick_any R _ _ _ S2.1 (by omega)).mono ?_
  rintro e w3 ⟨k0, rfl, _, _, st⟩
  have Z23 := st.size
  have A3 := Lib.hid (owns_step A2.out st (by omega))
  have C3 := Lib.hid (owns_step C2.out st (by omega))
  have S3 := S2.trans st
  clear st A2 C2 S2
  have fin : Hid (∀ {w' : World} {c' : List (Int × Int)} {v' : Value} {n : Nat}, w'.ownsRow w1.heap.size 46 2 v' c'.length (pr c') → c'.length ≤ 9 → w'.ownsRow w.heap.size 75 4 (.slice so s.length scap) s.length (ar s) → RdrStep w R n w' → n ≤ u + 100 → BasketPost w R u (.returned (.tuple #[.slice so s.length scap, v'])) w') := by
    intro w' c' v' n h1 h2 h3 h4 h5
    refine ⟨s, _, c', v', rfl, h3, hs10, owns_base h1 Z1, h2, fun k k' e1 e2 => ?_, h4.mono h5⟩
    have := LS.out k e1
    have := h1.lt k' e2
    omega
  cases hz0 : (k0 == 0)
  · cases hz1 : (k0 == 1)
    · go_wp2
      go_ret2
      exact fin.out C3.out (by omega) A3.out S3 (by omega)
    · by_cases hc0 : 0 < c.length
      · obtain ⟨g, rfl, hg⟩ := HCS.out hc0
        go_wp2_with fail
        refine (one_lit R _ [0, 21, 20] _ _ S3.1 (by omega) (by simp) (by simp)).mono ?_
        rintro e w4 ⟨p, _, rfl, st⟩
        have A4 := Lib.hid (owns_step A3.out st (by omega))
        have C4 := Lib.hid (owns_step C3.out st (by omega))
        have S4 := S3.trans st
        clear st A3 C3 S3
        obtain ⟨c0, c1, f0, f1⟩ := owns_at2 C4.out 0 hc0
        simp only [Nat.zero_mul, Nat.zero_add] at c0 c1 f0 f1
        have hgw : g < w4.heap.size := (C4.out.lt g rfl).2
        go_wp2
        go_ret2
        have e1 := C4.out.stored 1 (.int .i64 p)
        have hge : ∀ k, some g = some k → w.heap.size ≤ k := fun k hk => by simp only [Option.some.injEq] at hk; omega
        have hset : (pr c).set 1 (.int .i64 p) = pr (c.set 0 (pA c 0, p)) := by
          rw [← pr_set, set_sameV (pr c) (0 * 2) _ (pr_get c 0 hc0).1]
        rw [hset] at e1
        refine fin.out (c' := c.set 0 (pA c 0, p)) ?_ (by simp; omega) (owns_apart (v2 := .slice (some ⟨g, 0, none⟩) c.length ccap) A4.out e1.2 (fun k k' h1 h2 => ?_)) (S4.own hR e1.2 hge) (by omega)
        · rw [List.length_set]; exact e1.1
        · have := LS.out k h1
          simp only [Value.ownBlock, Option.some.injEq] at h2
          omega
      · have h0b : decide (0 < c.length) = false := by simpa using hc0
        go_wp2
        go_ret2
        exact fin.out C3.out (by omega) A3.out S3 (by omega)
  · go_wp2_with fail
    refine (one_lit R _ [0, 10, -1] _ _ S3.1 (by omega) (by simp) (by simp)).mono ?_
    rintro e w4 ⟨p, _, rfl, st⟩
    have Z34 := st.size
    have A4 := Lib.hid (owns_step A3.out st (by omega))
    have C4 := Lib.hid (owns_step C3.out st (by omega))
    have S4 := S3.trans st
    clear st A3 C3 S3
    have LC := Lib.hid (fun k hk => (C4.out.lt k hk).1)
    go_wp2_with (at_builtin; refine app_pair rfl (.tmp 15) (.tmp 20) 31 rfl w1.heap.size 46 _ i0 _ Try.underlying31 HI.out HZ0.out HZ1.out HZ2.out rfl _ c p 1 rfl C4.out rfl (by omega) (by omega) ?_; intro v' w7 ho7 hg7)
    have S7 := (S4.alloc _).own hR hg7 (fun k hk => by have := LC.out k hk; omega)
    have A7 := Lib.hid (owns_apart (A4.out.alloc _) hg7 (fun k k' h1 h2 => by have := LS.out k h1; have := LC.out k' h2; omega))
    have O7 := Lib.hid ho7
    clear ho7 hg7
    go_ret2
    exact fin.out O7.out (by simp; omega) A7.out S7 (by omega)

end Go.Proofs.Ytomapdedajdkkab
