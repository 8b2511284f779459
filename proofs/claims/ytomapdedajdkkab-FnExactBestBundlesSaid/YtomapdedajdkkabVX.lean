/- Walks: bundles copied, compared and measured by the exact laws. Conditions: none. -/
import Derived.Test.YtomapdedajdkkabVN
import Derived.Test.YtomapdedajdkkabCX
namespace Go.Proofs.Ytomapdedajdkkab
open Go.RowKit

theorem Try.info33x : (Try.prog.info? 33).map (fun i => (i.zero, i.size, i.bytes)) = some (some (.agg #[.slice none 0 0, .int .i64 0]), 2, 32) := by kernel_rfl

/-- Two lists of bundles say the same, wherever their parts lie. -/
def SameB (B C : List Bn) : Prop := C.length = B.length ∧ ∀ k, k < B.length → (bT C k).l = (bT B k).l ∧ (bT C k).p = (bT B k).p
theorem SameB.refl (B : List Bn) : SameB B B := ⟨rfl, fun _ _ => ⟨rfl, rfl⟩⟩
theorem SameB.symm {B C : List Bn} (h : SameB B C) : SameB C B := ⟨h.1.symm, fun k hk => ⟨(h.2 k (by rw [← h.1]; exact hk)).1.symm, (h.2 k (by rw [← h.1]; exact hk)).2.symm⟩⟩
theorem SameB.trans {B C D : List Bn} (h : SameB B C) (h2 : SameB C D) : SameB B D :=
  ⟨h2.1.trans h.1, fun k hk => ⟨(h2.2 k (by rw [h.1]; exact hk)).1.trans (h.2 k hk).1, (h2.2 k (by rw [h.1]; exact hk)).2.trans (h.2 k hk).2⟩⟩
theorem bT_at {B : List Bn} {k : Nat} (h : k < B.length) : B[k] = bT B k := by simp [bT, List.getD, h]
theorem SameB.vBn {B C : List Bn} (s : List Art) (h : SameB B C) : vBn s C = vBn s B := by
  have e : ∀ k, k < B.length → bOkT s C k = bOkT s B k := fun k hk => by unfold bOkT; rw [(h.2 k hk).1, (h.2 k hk).2]
  have a : C.all (fun x => bOk s x.l x.p) = B.all (fun x => bOk s x.l x.p) := by
    cases hb : B.all (fun x => bOk s x.l x.p)
    · rw [List.all_eq_false] at hb ⊢
      obtain ⟨x, hx, hn⟩ := hb
      obtain ⟨k, hk, rfl⟩ := List.getElem_of_mem hx
      have hkC : k < C.length := by rw [h.1]; exact hk
      refine ⟨C[k], List.getElem_mem hkC, ?_⟩
      rw [bT_at hk] at hn
      rw [bT_at hkC]
      have := e k hk
      unfold bOkT at this
      rw [this]; exact hn
    · exact bOkT_all fun j hj => by rw [e j (by rw [← h.1]; exact hj)]; exact all_bOkT hb (by rw [← h.1]; exact hj)
  unfold Go.Proofs.Ytomapdedajdkkab.vBn
  rw [a, h.1]

theorem bT_left {B C : List Bn} {k : Nat} (h : k < B.length) : bT (B ++ C) k = bT B k := by
  unfold bT; rw [List.getD_eq_getElem?_getD, List.getElem?_append_left h, List.getD_eq_getElem?_getD]
theorem bT_last (B : List Bn) (x : Bn) : bT (B ++ [x]) B.length = x := by
  unfold bT; rw [List.getD_eq_getElem?_getD, List.getElem?_append_right (Nat.le_refl _), Nat.sub_self]; rfl
theorem set_mid (D : List Bn) (n : Nat) (x : Bn) (h : D.length < n) : (D ++ List.replicate (n - D.length) bZ).set D.length x = (D ++ [x]) ++ List.replicate (n - (D ++ [x]).length) bZ := by
  rw [List.set_append_right _ _ (Nat.le_refl _), Nat.sub_self, show n - D.length = (n - (D ++ [x]).length) + 1 by simp; omega, List.replicate_succ, List.set_cons_zero, List.append_assoc]
  rfl
theorem set_mid2 (D : List Bn) (n k : Nat) (x : Bn) (hk : k = D.length) (h : k < n) : (D ++ List.replicate (n - D.length) bZ).set k x = (D ++ [x]) ++ List.replicate (n - (D ++ [x]).length) bZ := by
  subst hk; exact set_mid D n x h
theorem made_bn (n : Nat) : (madeCells #[Value.slice none 0 0, Value.int .i64 0] (n * 2)).toList = bn (List.replicate n bZ) := by
  apply List.ext_getElem?
  intro j
  by_cases hj : j < n * 2
  · have hk : j / 2 < (List.replicate n bZ).length := by rw [List.length_replicate]; omega
    have hg := bn_get (List.replicate n bZ) (j / 2) hk
    have hA : bT (List.replicate n bZ) (j / 2) = bZ := by rw [List.length_replicate] at hk; simp [bT, List.getD, hk]
    rw [hA] at hg
    rcases Nat.mod_two_eq_zero_or_one j with h | h
    · rw [show j / 2 * 2 = j by omega] at hg
      rw [hg.1]; simp [madeCells, hj, h, bZ]
    · rw [show j / 2 * 2 + 1 = j by omega] at hg
      rw [hg.2]; simp [madeCells, hj, h, bZ]
  · rw [List.getElem?_eq_none (by simp [madeCells]; omega), List.getElem?_eq_none (by rw [bn_len, List.length_replicate]; omega)]

/-- Two stores into a row of bundles. -/
theorem owns_setB {w : World} {base e g n cap : Nat} {m : List Bn} (h : w.ownsRow base e 2 (.slice (some ⟨g, 0, none⟩) n cap) n (bn m)) (k : Nat) (x : Bn) :
    ((w.setCell ⟨g, k * 2, none⟩ x.v).setCell ⟨g, k * 2 + 1, none⟩ (.int .i64 x.p)).ownsRow base e 2 (.slice (some ⟨g, 0, none⟩) n cap) n (bn (m.set k x)) := by
  rw [← bn_set]
  exact ((h.stored _ _).1.stored _ _).1
theorem owns_atB {w : World} {base e g n cap : Nat} {m : List Bn} (h : w.ownsRow base e 2 (.slice (some ⟨g, 0, none⟩) n cap) n (bn m)) (k : Nat) (hk : k < n) :
    w.cell? ⟨g, k * 2, none⟩ = some (bT m k).v ∧ w.cell? ⟨g, k * 2 + 1, none⟩ = some (.int .i64 (bT m k).p) ∧ w.frozen? ⟨g, k * 2, none⟩ = false ∧ w.frozen? ⟨g, k * 2 + 1, none⟩ = false := by
  have hl : m.length = n := by have := h.1; rw [bn_len] at this; omega
  have hg := bn_get m k (by omega)
  exact ⟨(h.cellAt (k * 2) (by omega)).trans hg.1, (h.cellAt (k * 2 + 1) (by omega)).trans hg.2, h.frozenAt _, h.frozenAt _⟩

set_option maxHeartbeats 2000000 in
theorem szBundleS_any (B : List Bn) (v : Value) (left : Int) (w : World) (hv : RdB w v B) (h0 : 0 ≤ left) (h1 : left ≤ 1048576) :
    Calls Try.prog 28 #[v, .int .i64 left] w fun e w' => ∃ z : Int, e = .returned (.int .i64 z) ∧ z ≤ 1048576 ∧ (0 ≤ z → B.length ≤ 1048576 ∧ ∀ x ∈ B, x.l.length ≤ 1048576) ∧ Below w.heap.size w w' := by
  have HV := Lib.hid hv
  have hm := hv.len
  obtain ⟨co, ccap, rfl, _, _, hrc⟩ := hv.open
  have HRC := Lib.hid hrc
  clear hv hrc
  have hw : IntKind.i64.wrap (left - (B.length : Int)) = left - (B.length : Int) := IntWalk.i64_in _ (by omega)
  by_cases hneg : left - (B.length : Int) < 0
  · go_enter Try.func28, Try.ntmps28
    go_wp2
    go_ret
    exact ⟨-1, rfl, by omega, fun h => by omega, Below.refl _ _⟩
  · go_enter Try.func28, Try.ntmps28
    go_wp2
    go_loopw [1, 5] (fun l_ i_ wr => ∃ (k : Nat) (l : Int), k ≤ B.length ∧ i_ = .int .i64 k ∧ l_ = .int .i64 l ∧ 0 ≤ l ∧ l ≤ 1048576 ∧ Below w.heap.size w wr ∧ Hid (∀ j, j < k → (bT B j).l.length ≤ 1048576)) (fun _ i_ _ => B.length - (intOf i_).toNat)
    case atStart => exact ⟨0, left - B.length, Nat.zero_le _, rfl, rfl, by omega, by omega, Below.refl _ _, fun j hj => absurd hj (Nat.not_lt_zero _)⟩
    case round =>
      obtain ⟨k, l, hk, rfl, rfl, hl0, hl1, hbl, hall⟩ := hrel
      by_cases hlt : k < B.length
      · obtain ⟨b, off, rfl, hb, hcell⟩ := HRC.out (by omega)
        have g0 := (hbl.cell (p := ⟨b, off + k*2, none⟩) hb).trans (hcell k hlt).1
        have g1 := (hbl.cell (p := ⟨b, off + k*2+1, none⟩) hb).trans (hcell k hlt).2
        have hpx := HV.out.2 _ (bT_mem hlt)
        have hpl := hpx.len
        unfold maxLen at hpl
        obtain ⟨po, pcap, hpe, _⟩ := hpx.pairs
        rw [hpe] at g0
        clear hcell hpx hpe
        by_cases hn2 : l - ((bT B k).l.length : Int) < 0
        · have hsz : Hid (szL l (bT B k).l.length = -1) := by rw [Hid, szL, if_pos (by omega)]
          go_wp2_with (go_at_call 13; refine (szBundle_any _ _ _ _ _ _ (by omega) hl0 hl1).mono ?_; rintro e w1 ⟨rfl, hb1⟩; rw [hsz.out])
          go_ret
          exact ⟨-1, rfl, by omega, fun h => by omega, hbl.trans (hb1.mono hbl.size)⟩
        · have hsz : Hid (szL l (bT B k).l.length = l - (bT B k).l.length) := by rw [Hid, szL, if_neg (by omega)]
          have hge : 0 ≤ l - ((bT B k).l.length : Int) := by omega
          have hge2 : decide (l - ((bT B k).l.length : Int) < 0) = false := by simp; omega
          go_wp2_with (go_at_call 13; refine (szBundle_any _ _ _ _ _ _ (by omega) hl0 hl1).mono ?_; rintro e w1 ⟨rfl, hb1⟩; rw [hsz.out])
          go_roundw
          case rel => exact ⟨k + 1, l - (bT B k).l.length, by omega, by go_num, rfl, by omega, by omega, hbl.trans (hb1.mono hbl.size), all_snoc hall.out (by omega)⟩
          case measure => simp [intOf]; omega
      · go_wp2
        go_ret
        refine ⟨l, rfl, by omega, fun _ => ⟨by omega, fun x hx => ?_⟩, hbl⟩
        obtain ⟨i, hi, rfl⟩ := List.getElem_of_mem hx
        rw [bT_at hi]
        exact hall.out i (by omega)

/-- The parts of different bundles lie in different blocks. -/
def DisB (C : List Bn) : Prop := ∀ i j, i < j → j < C.length → ∀ k, (bT C i).v.ownBlock = some k → (bT C j).v.ownBlock ≠ some k
theorem DisB.nil : DisB [] := fun _ _ _ h => absurd h (Nat.not_lt_zero _)
theorem DisB.snoc {w : World} {base : Nat} {e : TypeId} {C : List Bn} {o : Option Nat} {x : Bn} (h : DisB C) (hp : PartsB w base e C o) (hx : ∀ k, x.v.ownBlock = some k → w.heap.size ≤ k) : DisB (C ++ [x]) := by
  intro i j hij hj k h1 h2
  rw [List.length_append, List.length_singleton] at hj
  by_cases e : j = C.length
  · subst e
    rw [bT_last] at h2
    rw [bT_left hij] at h1
    have := (hp _ (bT_mem hij)).1.lt k h1
    have := hx k h2
    omega
  · have hj' : j < C.length := by omega
    rw [bT_left hj'] at h2
    rw [bT_left (by omega)] at h1
    exact h i j hij hj' k h1 h2

/-- Copied bundles. -/
def ToB (w : World) (B : List Bn) (e : Ending) (w' : World) : Prop :=
  ∃ (C : List Bn) (g : Nat), e = .returned (.slice (some ⟨g, 0, none⟩) B.length B.length) ∧ SameB B C ∧ w'.ownsRow w.heap.size 33 2 (.slice (some ⟨g, 0, none⟩) B.length B.length) C.length (bn C) ∧ PartsB w' w.heap.size 46 C (some g) ∧ Below w.heap.size w w' ∧ DisB C
theorem ToB.rdB {w' : World} {C : List Bn} {v : Value} {b e e2 : Nat} {o : Option Nat} (h : w'.ownsRow b e 2 v C.length (bn C)) (hp : PartsB w' b e2 C o) : RdB w' v C := ⟨Rd.of_owns h, fun x hx => Rd.of_owns (hp x hx).1⟩

set_option maxHeartbeats 2000000 in
theorem toBundleS_any (B : List Bn) (v : Value) (w : World) (hv : RdB w v B) (hl : B.length ≤ 1048576) (hl2 : ∀ x ∈ B, x.l.length ≤ 1048576) :
    Calls Try.prog 30 #[v] w (ToB w B) := by
  have HV := Lib.hid hv
  obtain ⟨co, ccap, rfl, _, _, hrc⟩ := hv.open
  have HRC := Lib.hid hrc
  have HL2 := Lib.hid hl2
  clear hv hrc hl2
  obtain ⟨i0, hi, hz0, hz1, hz2⟩ := info_parts Try.info33x
  have HI := Lib.hid hi
  have HZ0 := Lib.hid hz0
  have HZ1 := Lib.hid hz1
  have HZ2 := Lib.hid hz2
  clear hi hz0 hz1 hz2
  go_enter Try.func30, Try.ntmps30
  go_wp2_with (refine wpList_make_full _ rfl _ _ 39 rfl w.heap.size 33 i0 _ 2 Try.underlying39 HI.out HZ0.out HZ1.out _ _ _ _ B.length rfl rfl rfl rfl (by rw [HZ2.out]; omega) (by unfold maxLen; omega) (Nat.le_refl _) ?_; intro w1 hown hgr)
  have hown0 : Hid (w1.ownsRow w.heap.size 33 2 (.slice (some ⟨w.heap.size, 0, none⟩) B.length B.length) B.length (bn ([] ++ List.replicate (B.length - ([] : List Bn).length) bZ))) := by
    rw [List.nil_append, List.length_nil, Nat.sub_zero, ← made_bn]; exact hown
  have hb0 : Below w.heap.size w w1 := below_of_grownBy hgr
  have hz1 : w.heap.size + 1 ≤ w1.heap.size := (World.ownsRow.lt hown0.out w.heap.size rfl).2
  clear hown hgr
  go_loopw [4] (fun i_ wr => ∃ D : List Bn, D.length ≤ B.length ∧ i_ = .int .i64 D.length ∧ Below w.heap.size w wr ∧ w.heap.size + 1 ≤ wr.heap.size ∧ Hid (∀ j, j < D.length → (bT D j).l = (bT B j).l ∧ (bT D j).p = (bT B j).p) ∧ Hid (wr.ownsRow w.heap.size 33 2 (.slice (some ⟨w.heap.size, 0, none⟩) B.length B.length) B.length (bn (D ++ List.replicate (B.length - D.length) bZ))) ∧ Hid (PartsB wr (w.heap.size + 1) 46 D (some w.heap.size)) ∧ Hid (DisB D)) (fun i_ _ => B.length - (intOf i_).toNat)
  case atStart => exact ⟨[], Nat.zero_le _, rfl, hb0, hz1, fun j hj => absurd hj (Nat.not_lt_zero _), hown0, PartsB.nil, DisB.nil⟩
  case round =>
    clear hown0 hb0 hz1
    obtain ⟨D, hk, rfl, hbl, hz, hsame, hown, hparts, hdis⟩ := hrel
    obtain ⟨k, hkD⟩ : ∃ k, k = D.length := ⟨_, rfl⟩
    rw [← hkD] at hk ⊢
    have HKD := Lib.hid hkD
    clear hkD
    by_cases hlt : k < B.length
    · obtain ⟨b, off, rfl, hb, hcell⟩ := HRC.out (by omega)
      have g0 := (hbl.cell (p := ⟨b, off + k*2, none⟩) hb).trans (hcell k hlt).1
      have g1 := (hbl.cell (p := ⟨b, off + k*2+1, none⟩) hb).trans (hcell k hlt).2
      have hpx := HV.out.2 _ (bT_mem hlt)
      have hpl := HL2.out _ (bT_mem hlt)
      obtain ⟨po, pcap, hpe, _⟩ := hpx.pairs
      rw [hpe] at g0 hpx
      have HPX := Lib.hid hpx
      clear hcell hpx hpe
      go_wp2_with (go_at_call 16; (with_reducible refine (toBundle_any (bT B k).l _ (bT B k).p _ (HPX.out.below hbl (Nat.le_refl _)) hpl).mono ?_); rintro e w2 ⟨o, rfl, ho, hb2⟩; obtain ⟨oo, ocap, rfl, _⟩ := owns_shape ho; obtain ⟨c0, c1, f0, f1⟩ := owns_atB (ownsRow_below hown.out hb2 (Nat.le_refl _)) k hlt)
      go_roundw
      case rel =>
        have hs2 := owns_setB (ownsRow_below hown.out hb2 (Nat.le_refl _)) k ⟨(bT B k).l, .slice oo (bT B k).l.length ocap, (bT B k).p⟩
        rw [set_mid2 D B.length k _ HKD.out hlt] at hs2
        have hp2 := (hparts.out.below hb2 (Nat.le_refl _))
        have hz2 := hb2.size
        refine ⟨D ++ [(⟨(bT B k).l, .slice oo (bT B k).l.length ocap, (bT B k).p⟩ : Bn)], by simp; rw [← HKD.out]; omega, by rw [List.length_append, ← HKD.out]; go_num, ((hbl.trans (hb2.mono hbl.size)).setCell (Nat.le_refl _) _).setCell (Nat.le_refl _) _, by simp; omega, fun j hj => ?_, hs2, fun x hx => ?_, hdis.out.snoc hparts.out (fun k' hk' => (ho.lt k' hk').1)⟩
        · rw [List.length_append, ← HKD.out, List.length_singleton] at hj
          by_cases e : j = k
          · subst e
            have := bT_last D ⟨(bT B j).l, .slice oo (bT B j).l.length ocap, (bT B j).p⟩
            rw [← HKD.out] at this
            rw [this]; exact ⟨rfl, rfl⟩
          · rw [bT_left (by rw [← HKD.out]; omega)]
            exact hsame.out j (by rw [← HKD.out]; omega)
        · have key : ∀ {y : Value} {l : List (Int × Int)}, w2.ownsRow (w.heap.size + 1) 46 2 y l.length (pr l) → ((w2.setCell ⟨w.heap.size, k * 2, none⟩ (.slice oo (bT B k).l.length ocap)).setCell ⟨w.heap.size, k * 2 + 1, none⟩ (.int .i64 (bT B k).p)).ownsRow (w.heap.size + 1) 46 2 y l.length (pr l) :=
            fun h => ownsRow_setCell_below (ownsRow_setCell_below h (Nat.lt_succ_self _) _) (Nat.lt_succ_self _) _
          rcases List.mem_append.1 hx with hx | hx
          · exact ⟨key (hp2 x hx).1, (hp2 x hx).2⟩
          · rw [List.mem_singleton.1 hx]
            refine ⟨key (owns_base ho (by omega)), hpl, fun k' hk' e => ?_⟩
            have := (ho.lt k' hk').1
            simp only [Option.some.injEq] at e
            omega
      case measure => simp [intOf]; omega
    · go_wp2
      go_ret
      have hkl : k = B.length := by omega
      have hDl : D.length = B.length := by rw [← HKD.out]; exact hkl
      have ho := hown.out
      rw [hDl, Nat.sub_self, List.replicate_zero, List.append_nil] at ho
      refine ⟨D, _, rfl, ⟨hDl, fun j hj => hsame.out j (by rw [hDl]; exact hj)⟩, by rw [hDl]; exact ho, fun x hx => ⟨owns_base (hparts.out x hx).1 (Nat.le_succ _), (hparts.out x hx).2⟩, hbl, hdis.out⟩

set_option maxHeartbeats 2000000 in
set_option maxRecDepth 100000 in
theorem eqBundleS_any (B C : List Bn) (u v : Value) (w : World) (hu : RdB w u B) (hv : RdB w v C) (hs : SameB B C) :
    Calls Try.prog 33 #[u, v] w fun e w' => e = .returned (.bool true) ∧ Below w.heap.size w w' := by
  have hm := hu.len
  have HU := Lib.hid hu
  have HV := Lib.hid hv
  obtain ⟨ao, cap, rfl, _, _, hr⟩ := hu.open
  obtain ⟨bo, cap', rfl, _, _, hr2⟩ := hv.open
  have HR := Lib.hid hr
  have HR2 := Lib.hid hr2
  have HS := Lib.hid hs
  have hlen : C.length ≤ B.length ∧ B.length ≤ C.length := by have := hs.1; omega
  have hne : ((B.length : Int) != (C.length : Int)) = false := by simp [hs.1]
  clear hr hr2 hu hv hs
  go_enter Try.func33, Try.ntmps33
  go_wp2
  go_loopw [5] (fun i wr => ∃ k : Nat, k ≤ B.length ∧ i = .int .i64 k ∧ Below w.heap.size w wr) (fun i _ => B.length - (intOf i).toNat)
  case atStart => exact ⟨0, Nat.zero_le _, rfl, Below.refl _ _⟩
  case round =>
    obtain ⟨k, hk, rfl, hbl⟩ := hrel
    by_cases hlt : k < B.length
    · have hlt2 : k < C.length := by omega
      obtain ⟨b, off, rfl, hb, hcell⟩ := HR.out (by omega)
      obtain ⟨b2, off2, rfl, hb2, hcell2⟩ := HR2.out (by omega)
      have h0 := (hbl.cell (p := ⟨b, off + k*2, none⟩) hb).trans (hcell k hlt).1
      have h1 := (hbl.cell (p := ⟨b, off + k*2+1, none⟩) hb).trans (hcell k hlt).2
      have h2 := (hbl.cell (p := ⟨b2, off2 + k*2, none⟩) hb2).trans (hcell2 k hlt2).1
      have h3 := (hbl.cell (p := ⟨b2, off2 + k*2+1, none⟩) hb2).trans (hcell2 k hlt2).2
      have hp1 := HU.out.2 _ (bT_mem hlt)
      have hp2 := HV.out.2 _ (bT_mem hlt2)
      obtain ⟨e1, e2⟩ := HS.out.2 k hlt
      rw [e1] at hp2
      rw [e2] at h3
      obtain ⟨po, pcap, hpe, _⟩ := hp1.pairs
      obtain ⟨po2, pcap2, hpe2, _⟩ := hp2.pairs
      rw [hpe] at h0 hp1
      rw [hpe2] at h2 hp2
      have HP1 := Lib.hid hp1
      have HP2 := Lib.hid hp2
      clear hcell hcell2 hp1 hp2 hpe hpe2 e1 e2
      go_wp2
      go_still_tail 8, (by kernel_rfl)
      change wpList _ _ _ _ _ wr.drew
      go_wp2_with (go_at_call 19; refine (eqBundle_any (bT B k).l _ _ (bT B k).p _ (HP1.out.below hbl.drew (Nat.le_refl _)) (HP2.out.below hbl.drew (Nat.le_refl _))).mono ?_; rintro e w2 ⟨rfl, hbn⟩)
      go_roundw
      case rel => exact ⟨k+1, by omega, by go_num, (hbl.drew).trans (hbn.mono hbl.size)⟩
      case measure => simp [intOf]; omega
    · go_wp2
      go_ret
      exact ⟨rfl, hbl⟩

end Go.Proofs.Ytomapdedajdkkab
