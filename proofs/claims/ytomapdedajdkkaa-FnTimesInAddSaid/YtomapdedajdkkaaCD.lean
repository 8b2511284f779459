/- Walks: adding pieces in the program. Conditions: none. -/
import Derived.Test.YtomapdedajdkkaaCA
import Derived.Test.YtomapdedajdkkaaAddFns
import Derived.Test.YtomapdedajdkkaaRow
namespace Go.Proofs.Ytomapdedajdkkaa
open Go.RowKit

theorem Try.info57a : (Try.prog.info? 57).map (fun i => (i.zero, i.size, i.bytes)) = some (some (.agg #[.int .i64 0, .int .i64 0]), 2, 16) := by kernel_rfl

/-- What adding pieces hands back. -/
def AddPost (s : List Art) (c : List (Int × Int)) (a n : Int) (w : World) (e : Ending) (w' : World) : Prop :=
  ∃ v : Value, e = .returned (.tuple #[v, .bool (addOk s c a n)]) ∧ w'.ownsRow w.heap.size 57 2 v (addR s c a n).length (pr (addR s c a n)) ∧ Below w.heap.size w w'

theorem addR_no {s : List Art} {c : List (Int × Int)} {a n : Int} (h : addOk s c a n = false) : addR s c a n = [] := by unfold addR; rw [h]; rfl
theorem addR_yes {s : List Art} {c : List (Int × Int)} {a n : Int} (h : addOk s c a n = true) : addR s c a n = addL c a n := by unfold addR; rw [h]; rfl
theorem addOk_c {s : List Art} {c : List (Int × Int)} {a n : Int} (h : vCart s c = false) : addOk s c a n = false := by simp [addOk, h]
theorem addOk_a {s : List Art} {c : List (Int × Int)} {a n : Int} (h : wi a 0 (s.length - 1) = false) : addOk s c a n = false := by simp [addOk, h]
theorem addOk_n {s : List Art} {c : List (Int × Int)} {a n : Int} (h : wi n 1 20 = false) : addOk s c a n = false := by simp [addOk, h]
theorem addOk_in {s : List Art} {c : List (Int × Int)} {a n : Int} (h : vCart s c = true) (h2 : wi a 0 (s.length - 1) = true) (h3 : wi n 1 20 = true) : addOk s c a n = vCart s (addL c a n) := by
  unfold addOk; rw [h, h2, h3, vCart, (vCart_pr h).1]; rfl

theorem addPost_no {s : List Art} {c : List (Int × Int)} {a n : Int} {w w1 : World} (h : addOk s c a n = false) (hb : Below w.heap.size w w1) :
    AddPost s c a n w (.returned (.tuple #[.slice (some ⟨w1.heap.size, 0, none⟩) 0 0, .bool false])) (w1.alloc (.cells #[] 57)) := by
  refine ⟨_, by rw [h], ?_, hb.alloc hb.size _⟩
  rw [addR_no h]
  exact World.ownsRow_made w1 #[] 0 hb.size (by simp) (by simp)
theorem addPost_nil {s : List Art} {c : List (Int × Int)} {a n : Int} {w w1 : World} (h : addOk s c a n = false) (hb : Below w.heap.size w w1) :
    AddPost s c a n w (.returned (.tuple #[.slice none 0 0, .bool false])) w1 := by
  refine ⟨_, by rw [h], ?_, hb⟩
  rw [addR_no h]
  exact ⟨rfl, .inl ⟨rfl, rfl⟩⟩
theorem addPost_yes {s : List Art} {c : List (Int × Int)} {a n : Int} {w w1 : World} {v : Value} (h : addOk s c a n = true) (hb : Below w.heap.size w w1) (hown : w1.ownsRow w.heap.size 57 2 v (addL c a n).length (pr (addL c a n))) :
    AddPost s c a n w (.returned (.tuple #[v, .bool true])) w1 := by
  refine ⟨v, by rw [h], ?_, hb⟩
  rw [addR_yes h]; exact hown

/-- append of one pair, a box having been made just before. -/
theorem app_pair2 {P : Program} {w : World} {X : Obj} {ops : Array Oper} {rest : List Oper} {o : Oper} {a : Act} {Q : Exit → Act → World → Prop} (hgd : o.guard = none) (s x : Operand) (t : TypeId)
    (ho : o.op = .call { callee := .builtin .append, args := #[s, x], argTypes := #[t, t] }) (base : Nat) (e t2 : TypeId) (i : TypeInfo) (z : Value) (ht : P.underlying t = some (.slice e)) (hi : P.info? e = some i) (hz : i.zero = some z)
    (hs : i.size = 2) (hby : i.bytes = 16) (hzs : z.cells.size = 2) (v : Value) (l : List (Int × Int)) (p q : Int) (hv : a.eval s = v) (hown : w.ownsRow base e 2 v l.length (pr l))
    (hx : a.eval x = .slice (some ⟨w.heap.size + 1, 0, none⟩) 1 1) (hlen : l.length ≤ 1099511627776) (hbase : base ≤ w.heap.size)
    (h : ∀ v' w1, w1.ownsRow base e 2 v' (l ++ [(p, q)]).length (pr (l ++ [(p, q)])) → ((w.alloc X).alloc (.cells #[.int .i64 p, .int .i64 q] t2)).grownBy w1 v.ownBlock → wpList P ops Q rest (a.put o.dst v') w1) :
    wpList P ops Q (o :: rest) a ((w.alloc X).alloc (.cells #[.int .i64 p, .int .i64 q] t2)) :=
  app_pair hgd s x t ho base e t2 i z ht hi hz hs hby hzs v l p q hv (hown.alloc X) (by rw [World.size_alloc]; exact hx) hlen (by rw [World.size_alloc]; omega) h

/-- A box that lies before an append stays. -/
theorem box_after {w w' : World} {base e sz n : Nat} {v x y : Value} {xs : List Value} {T : TypeId} {o : Obj} (h : w.ownsRow base e sz v n xs) (hg : ((w.alloc (.cells #[x, y] T)).alloc o).grownBy w' v.ownBlock) :
    w'.cell? ⟨w.heap.size, 0, none⟩ = some x ∧ w'.cell? ⟨w.heap.size, 1, none⟩ = some y ∧ w'.frozen? ⟨w.heap.size, 0, none⟩ = false ∧ w'.frozen? ⟨w.heap.size, 1, none⟩ = false ∧ w.heap.size < w'.heap.size := by
  have hb : w'.heap[w.heap.size]? = some (.cells #[x, y] T (0, 0)) := by
    rw [hg.block w.heap.size (by simp; omega) (fun e => by have := (h.lt w.heap.size e.symm).2; omega)]
    rw [Below.heap_alloc _ _ _ (by simp)]
    exact heap_alloc_new _ _
  refine ⟨?_, ?_, frozen_of_row w' w.heap.size 0 _ _ hb, frozen_of_row w' w.heap.size 1 _ _ hb, (Array.getElem?_eq_some_iff.1 hb).1⟩
  · rw [cell_of_row w' w.heap.size 0 _ _ _ hb]; rfl
  · rw [cell_of_row w' w.heap.size 1 _ _ _ hb]; rfl

theorem addL_len (c : List (Int × Int)) (a n : Int) : (addL c a n).length ≤ 2 * c.length + 1 := by
  have h1 : (ltL c a).length ≤ c.length := List.length_filter_le _ _
  have h2 : (gtL c a).length ≤ c.length := List.length_filter_le _ _
  unfold addL
  simp only [List.length_append, List.length_cons, List.length_nil]
  omega
theorem addI_len (c : List (Int × Int)) (a n : Int) (k : Nat) (d : Bool) : (addI c a n k d).length ≤ 2 * k + 1 := by
  have h : (c.take k).length ≤ k := by rw [List.length_take]; omega
  unfold addI
  split
  · have := addL_len (c.take k) a n; omega
  · omega

set_option maxHeartbeats 4000000 in
set_option maxRecDepth 100000 in
theorem implAdd_c (s : List Art) (u : Value) (c : List (Int × Int)) (v : Value) (a n : Int) (w : World) (hs : Rd w 4 u s.length (ar s)) (hv : Rd w 2 v c.length (pr c)) (hp : vCart s c = false) :
    Calls Try.prog 23 #[u, v, .int .i64 a, .int .i64 n] w (AddPost s c a n w) := by
  have HV := Lib.hid hv
  have HS := Lib.hid hs
  have hm := hs.len
  have hm2 := hv.len
  unfold maxLen at hm hm2
  obtain ⟨so, scap, rfl, _⟩ := hs.arts
  obtain ⟨co, ccap, rfl, _, _, hrc⟩ := hv.pairs
  have HRC := Lib.hid hrc
  clear hv hs hrc
  have fin := Lib.hid (addOk_c (a := a) (n := n) hp)
  go_enter Try.func23, Try.ntmps23
  go_wp2_with (go_at_call 45; (with_reducible refine (implCart_any s _ c _ _ HS.out HV.out).mono ?_); rintro e w1 ⟨rfl, hb1⟩)
  go_ret2
  exact addPost_no fin.out hb1

set_option maxHeartbeats 4000000 in
set_option maxRecDepth 100000 in
theorem implAdd_a (s : List Art) (u : Value) (c : List (Int × Int)) (v : Value) (a n : Int) (w : World) (hs : Rd w 4 u s.length (ar s)) (hv : Rd w 2 v c.length (pr c)) (hp : vCart s c = true) (hq : wi a 0 (s.length - 1) = false) :
    Calls Try.prog 23 #[u, v, .int .i64 a, .int .i64 n] w (AddPost s c a n w) := by
  have HV := Lib.hid hv
  have HS := Lib.hid hs
  have hm := hs.len
  have hm2 := hv.len
  unfold maxLen at hm hm2
  obtain ⟨so, scap, rfl, _⟩ := hs.arts
  obtain ⟨co, ccap, rfl, _, _, hrc⟩ := hv.pairs
  have HRC := Lib.hid hrc
  clear hv hs hrc
  have hw0 : IntKind.i64.wrap ((s.length : Int) - 1) = (s.length : Int) - 1 := IntWalk.i64_in _ (by omega)
  have fin := Lib.hid (addOk_a (c := c) (n := n) hq)
  go_enter Try.func23, Try.ntmps23
  go_wp2_with (first | (go_at_call 45; (with_reducible refine (implCart_any s _ c _ _ HS.out HV.out).mono ?_); rintro e w1 ⟨rfl, hb1⟩) | (go_at_call 54; refine (within_any _ _ _ _).mono ?_; rintro e w2 ⟨rfl, hw2⟩; subst hw2))
  go_ret2
  exact addPost_no fin.out hb1

set_option maxHeartbeats 4000000 in
set_option maxRecDepth 100000 in
theorem implAdd_n (s : List Art) (u : Value) (c : List (Int × Int)) (v : Value) (a n : Int) (w : World) (hs : Rd w 4 u s.length (ar s)) (hv : Rd w 2 v c.length (pr c)) (hp : vCart s c = true) (hq : wi a 0 (s.length - 1) = true) (hd : wi n 1 20 = false) :
    Calls Try.prog 23 #[u, v, .int .i64 a, .int .i64 n] w (AddPost s c a n w) := by
  have HV := Lib.hid hv
  have HS := Lib.hid hs
  have hm := hs.len
  have hm2 := hv.len
  unfold maxLen at hm hm2
  obtain ⟨so, scap, rfl, _⟩ := hs.arts
  obtain ⟨co, ccap, rfl, _, _, hrc⟩ := hv.pairs
  have HRC := Lib.hid hrc
  clear hv hs hrc
  have hw0 : IntKind.i64.wrap ((s.length : Int) - 1) = (s.length : Int) - 1 := IntWalk.i64_in _ (by omega)
  have fin := Lib.hid (addOk_n (s := s) (c := c) (a := a) hd)
  go_enter Try.func23, Try.ntmps23
  go_wp2_with (first | (go_at_call 45; (with_reducible refine (implCart_any s _ c _ _ HS.out HV.out).mono ?_); rintro e w1 ⟨rfl, hb1⟩) | (go_at_call 54; refine (within_any _ _ _ _).mono ?_; rintro e w2 ⟨rfl, hw2⟩; subst hw2))
  go_ret2
  exact addPost_no fin.out hb1

set_option maxHeartbeats 4000000 in
set_option maxRecDepth 100000 in
theorem implAdd_y (s : List Art) (u : Value) (c : List (Int × Int)) (v : Value) (a n : Int) (w : World) (hs : Rd w 4 u s.length (ar s)) (hv : Rd w 2 v c.length (pr c)) (hp : vCart s c = true) (hq : wi a 0 (s.length - 1) = true) (hd : wi n 1 20 = true) :
    Calls Try.prog 23 #[u, v, .int .i64 a, .int .i64 n] w (AddPost s c a n w) := by
  have HV := Lib.hid hv
  have HS := Lib.hid hs
  have hm := hs.len
  have hm2 := hv.len
  unfold maxLen at hm hm2
  obtain ⟨so, scap, rfl, _⟩ := hs.arts
  obtain ⟨co, ccap, rfl, _, _, hrc⟩ := hv.pairs
  have HRC := Lib.hid hrc
  clear hv hs hrc
  obtain ⟨i0, hi, hz0, hz1, hz2⟩ := info_parts Try.info57a
  have HI := Lib.hid hi
  have HZ0 := Lib.hid hz0
  have HZ1 := Lib.hid hz1
  have HZ2 := Lib.hid hz2
  clear hi hz0 hz1 hz2
  have hw0 : IntKind.i64.wrap ((s.length : Int) - 1) = (s.length : Int) - 1 := IntWalk.i64_in _ (by omega)
  have hin := Lib.hid (addOk_in hp hq hd)
  have HOK := Lib.hid hp
  have hnn := wi_true.1 hd
  obtain ⟨hn1, hn2⟩ := hnn
  go_enter Try.func23, Try.ntmps23
  go_wp2_with (first | (go_at_call 45; (with_reducible refine (implCart_any s _ c _ _ HS.out HV.out).mono ?_); rintro e w1 ⟨rfl, hb1⟩) | (go_at_call 54; refine (within_any _ _ _ _).mono ?_; rintro e w2 ⟨rfl, hw2⟩; subst hw2))
  have o0 : (w2.alloc (.cells #[] 57)).ownsRow w.heap.size 57 2 (.slice (some ⟨w2.heap.size, 0, none⟩) 0 0) 0 (pr []) := World.ownsRow_made w2 #[] 0 hb1.size (by simp) (by simp)
  have O0 := Lib.hid o0
  have B0 := hb1.alloc hb1.size (.cells #[] 57)
  clear o0 hp hq hd hb1
  go_loopw [10, 11, 35] (fun o_ d_ i_ wr => ∃ (k : Nat) (d : Bool), k ≤ c.length ∧ i_ = .int .i64 k ∧ d_ = .bool d ∧ Hid (d = true → ∃ j, j < k ∧ a ≤ pA c j) ∧ Hid (d = false → ∀ j, j < k → pA c j < a) ∧ Hid (wr.ownsRow w.heap.size 57 2 o_ (addI c a n k d).length (pr (addI c a n k d))) ∧ Below w.heap.size w wr) (fun _ _ i_ _ => c.length - (intOf i_).toNat)
  case atStart => exact ⟨0, false, Nat.zero_le _, rfl, rfl, (fun h => by cases h), fun _ j hj => absurd hj (Nat.not_lt_zero _), O0, B0⟩
  case round =>
    clear O0 B0
    obtain ⟨k, d, hk, rfl, rfl, hT, hF, O, hbl⟩ := hrel
    have hc8 := (vLines_all (vCart_pr HOK.out).2).2
    have hlen := addI_len c a n k d
    by_cases hlt : k < c.length
    · obtain ⟨h4, h5, h6, h7, h8, h9⟩ := art_in HOK.out hlt
      obtain ⟨b, off, rfl, hb, hcell⟩ := HRC.out (by omega)
      have g0 := (hbl.cell (p := ⟨b, off + k*2, none⟩) hb).trans (hcell k hlt).1
      have g1 := (hbl.cell (p := ⟨b, off + k*2+1, none⟩) hb).trans (hcell k hlt).2
      have hbw : b < wr.heap.size := Nat.lt_of_lt_of_le hb hbl.size
      clear hcell h4 h5 h6 h9
      have hpP : Hid (pP c k = (pA c k, pB c k)) := rfl
      have hbl1 : Below w.heap.size w (wr.alloc (.cells #[.int .i64 (pA c k), .int .i64 (pB c k)] 57)) := hbl.alloc hbl.size _
      have O1 := Lib.hid (O.out.alloc (.cells #[.int .i64 (pA c k), .int .i64 (pB c k)] 57))
      cases d
      · have hall := Lib.hid (hF.out rfl)
        by_cases hgt : a < pA c k
        · have hnew := Lib.hid (addI_gt (m := n) hlt hall.out hgt)
          have hneq : (pA c k == a) = false := by rw [beq_eq_false_iff_ne]; omega
          go_wp2_with (first | (at_builtin; refine app_pair2 rfl (.tmp 47) (.tmp 51) 24 rfl w.heap.size 57 _ i0 _ Try.underlying24 HI.out HZ0.out HZ1.out HZ2.out rfl _ (addI c a n k false) a n rfl O.out rfl (by omega) hbl.size ?_; intro vA wA hoA hgA; have OA := Lib.hid hoA; have BOA := below_row ((hbl.alloc hbl.size _).alloc (hbl.alloc hbl.size _).size _) hgA (fun k hk => (O.out.lt k hk).1); obtain ⟨x0, x1, y0, y1, xz⟩ := box_after O.out hgA; clear hoA hgA) | (at_builtin; refine app_pair rfl (.tmp 62) (.tmp 64) 24 rfl w.heap.size 57 _ i0 _ Try.underlying24 HI.out HZ0.out HZ1.out HZ2.out rfl _ (addI c a n k false ++ [(a, n)]) (pA c k) (pB c k) rfl OA.out rfl (by simp only [List.length_append, List.length_singleton]; omega) BOA.size ?_; intro vA wA hoA hgA; have OB := Lib.hid hoA; have BOB := below_row (BOA.alloc BOA.size _) hgA (fun k hk => (OA.out.lt k hk).1); clear hoA hgA))
          go_roundw
          case rel => exact ⟨k + 1, true, by omega, by go_num, rfl, fun _ => ⟨k, by omega, by omega⟩, (fun h => by cases h), by rw [Hid, hnew.out, hpP.out]; exact OB.out, BOB⟩
          case measure => simp [intOf]; omega
        · by_cases heq : pA c k = a
          · have hnew := Lib.hid (addI_eq (m := n) hlt hall.out heq)
            have hneq : (pA c k == a) = true := by rw [beq_iff_eq]; exact heq
            have hgtb : decide (a < pA c k) = false := by simpa using hgt
            have HE := Lib.hid heq
            clear heq
            go_wp2_with (at_builtin; refine app_pair2 rfl (.tmp 62) (.tmp 64) 24 rfl w.heap.size 57 _ i0 _ Try.underlying24 HI.out HZ0.out HZ1.out HZ2.out rfl _ (addI c a n k false) (pA c k) (pB c k + n) rfl O.out rfl (by omega) hbl.size ?_; intro vA wA hoA hgA; have OB := Lib.hid hoA; have BOB := below_row ((hbl.alloc hbl.size _).alloc (hbl.alloc hbl.size _).size _) hgA (fun k hk => (O.out.lt k hk).1); clear hoA hgA)
            go_roundw
            case rel => exact ⟨k + 1, true, by omega, by go_num, rfl, fun _ => ⟨k, by omega, by rw [HE.out]; exact Int.le_refl _⟩, (fun h => by cases h), by rw [Hid, hnew.out]; have := OB.out; rw [HE.out] at this; exact this, BOB⟩
            case measure => simp [intOf]; omega
          · have hnew := Lib.hid (addI_lt (a := a) (m := n) hlt)
            have hneq : (pA c k == a) = false := by rw [beq_eq_false_iff_ne]; exact heq
            have hgtb : decide (a < pA c k) = false := by simpa using hgt
            go_wp2_with (at_builtin; refine app_pair2 rfl (.tmp 62) (.tmp 64) 24 rfl w.heap.size 57 _ i0 _ Try.underlying24 HI.out HZ0.out HZ1.out HZ2.out rfl _ (addI c a n k false) (pA c k) (pB c k) rfl O.out rfl (by omega) hbl.size ?_; intro vA wA hoA hgA; have OB := Lib.hid hoA; have BOB := below_row ((hbl.alloc hbl.size _).alloc (hbl.alloc hbl.size _).size _) hgA (fun k hk => (O.out.lt k hk).1); clear hoA hgA)
            go_roundw
            case rel => exact ⟨k + 1, false, by omega, by go_num, rfl, (fun h => by cases h), fun _ => all_snoc hall.out (by omega), by rw [Hid, hnew.out, hpP.out]; exact OB.out, BOB⟩
            case measure => simp [intOf]; omega
      · have hex := Lib.hid (hT.out rfl)
        obtain ⟨hgt, hnew0⟩ := addI_done (m := n) (vCart_pr HOK.out).2 hlt hex.out
        have hnew := Lib.hid hnew0
        have hneq : (pA c k == a) = false := by rw [beq_eq_false_iff_ne]; omega
        clear hnew0
        go_wp2_with (at_builtin; refine app_pair2 rfl (.tmp 62) (.tmp 64) 24 rfl w.heap.size 57 _ i0 _ Try.underlying24 HI.out HZ0.out HZ1.out HZ2.out rfl _ (addI c a n k true) (pA c k) (pB c k) rfl O.out rfl (by omega) hbl.size ?_; intro vA wA hoA hgA; have OB := Lib.hid hoA; have BOB := below_row ((hbl.alloc hbl.size _).alloc (hbl.alloc hbl.size _).size _) hgA (fun k hk => (O.out.lt k hk).1); clear hoA hgA)
        go_roundw
        case rel => exact ⟨k + 1, true, by omega, by go_num, rfl, fun _ => ⟨k, by omega, by omega⟩, (fun h => by cases h), by rw [Hid, hnew.out, hpP.out]; exact OB.out, BOB⟩
        case measure => simp [intOf]; omega
    · obtain rfl : k = c.length := by omega
      cases d
      · have hfin := Lib.hid (addI_end_no (m := n) (hF.out rfl))
        go_wp2_with (at_builtin; refine app_pair rfl (.tmp 69) (.tmp 73) 24 rfl w.heap.size 57 _ i0 _ Try.underlying24 HI.out HZ0.out HZ1.out HZ2.out rfl _ (addI c a n c.length false) a n rfl O.out rfl (by omega) hbl.size ?_; intro vA wA hoA hgA; have OB := Lib.hid hoA; have BOB := below_row (hbl.alloc hbl.size _) hgA (fun k hk => (O.out.lt k hk).1); clear hoA hgA)
        rw [hfin.out] at OB
        cases hv2 : vCart s (addL c a n)
        · go_wp2_with (go_at_call 45; refine (implCart_any s _ (addL c a n) _ _ (HS.out.below BOB (Nat.le_refl _)) (Rd.of_owns OB.out)).mono ?_; rintro e w9 ⟨rfl, hb9⟩)
          go_ret2
          exact addPost_no (by rw [hin.out, hv2]) (BOB.trans (hb9.mono BOB.size))
        · go_wp2_with (go_at_call 45; refine (implCart_any s _ (addL c a n) _ _ (HS.out.below BOB (Nat.le_refl _)) (Rd.of_owns OB.out)).mono ?_; rintro e w9 ⟨rfl, hb9⟩)
          go_ret2
          exact addPost_yes (by rw [hin.out, hv2]) (BOB.trans (hb9.mono BOB.size)) (ownsRow_below OB.out hb9 (Nat.le_refl _))
      · have hfin := Lib.hid (addI_end (l := c) (a := a) (m := n))
        rw [hfin.out] at O
        cases hv2 : vCart s (addL c a n)
        · go_wp2_with (go_at_call 45; refine (implCart_any s _ (addL c a n) _ _ (HS.out.below hbl (Nat.le_refl _)) (Rd.of_owns O.out)).mono ?_; rintro e w9 ⟨rfl, hb9⟩)
          go_ret2
          exact addPost_no (by rw [hin.out, hv2]) (hbl.trans (hb9.mono hbl.size))
        · go_wp2_with (go_at_call 45; refine (implCart_any s _ (addL c a n) _ _ (HS.out.below hbl (Nat.le_refl _)) (Rd.of_owns O.out)).mono ?_; rintro e w9 ⟨rfl, hb9⟩)
          go_ret2
          exact addPost_yes (by rw [hin.out, hv2]) (hbl.trans (hb9.mono hbl.size)) (ownsRow_below O.out hb9 (Nat.le_refl _))

theorem implAdd_any (s : List Art) (u : Value) (c : List (Int × Int)) (v : Value) (a n : Int) (w : World) (hs : Rd w 4 u s.length (ar s)) (hv : Rd w 2 v c.length (pr c)) :
    Calls Try.prog 23 #[u, v, .int .i64 a, .int .i64 n] w (AddPost s c a n w) := by
  cases hp : vCart s c
  · exact implAdd_c s u c v a n w hs hv hp
  cases hq : wi a 0 (s.length - 1)
  · exact implAdd_a s u c v a n w hs hv hp hq
  cases hd : wi n 1 20
  · exact implAdd_n s u c v a n w hs hv hp hq hd
  · exact implAdd_y s u c v a n w hs hv hp hq hd

end Go.Proofs.Ytomapdedajdkkaa
