/- Walks: the marks of the exact laws on articles, lines and bundles; what they leave as it was. Conditions: none. -/
import Derived.Test.YtomapdedajdkkabVX
import Derived.Test.YtomapdedajdkkabCQ
namespace Go.Proofs.Ytomapdedajdkkab
open Go.RowKit

/-- Only blocks from lo up to hi have turned. -/
structure Kept (lo hi : Nat) (w w' : World) : Prop where
  os : w'.os = w.os
  tape : w'.tape = w.tape
  output : w'.output = w.output
  size : w.heap.size ≤ w'.heap.size
  block : ∀ i, i < w.heap.size → (i < lo ∨ hi ≤ i) → w'.heap[i]? = w.heap[i]?

theorem Kept.refl (lo hi : Nat) (w : World) : Kept lo hi w w := ⟨rfl, rfl, rfl, Nat.le_refl _, fun _ _ _ => rfl⟩
theorem Kept.trans {lo hi : Nat} {a b c : World} (h : Kept lo hi a b) (k : Kept lo hi b c) : Kept lo hi a c :=
  ⟨k.os.trans h.os, k.tape.trans h.tape, k.output.trans h.output, Nat.le_trans h.size k.size, fun i hi ho => (k.block i (Nat.lt_of_lt_of_le hi h.size) ho).trans (h.block i hi ho)⟩
theorem Kept.of_grown {lo hi : Nat} {w w' : World} {row : Option Nat} (h : w.grownBy w' row) (hr : ∀ b, row = some b → lo ≤ b ∧ b < hi) : Kept lo hi w w' :=
  ⟨h.os, h.tape, h.output, h.size, fun i hi ho => h.block i hi (fun e => by have := hr i e.symm; omega)⟩
theorem Kept.below {lo hi b : Nat} {a w w' : World} (h : Kept lo hi w w') (hb : Below b a w) (hlo : b ≤ lo) (ha : b ≤ w.heap.size) : Below b a w' :=
  ⟨h.os.trans hb.os, h.tape.trans hb.tape, h.output.trans hb.output, Nat.le_trans hb.size h.size, fun i hi => (h.block i (Nat.lt_of_lt_of_le hi ha) (.inl (Nat.lt_of_lt_of_le hi hlo))).trans (hb.block i hi)⟩
theorem Kept.owns {lo hi base e sz n : Nat} {w w' : World} {v : Value} {xs : List Value} (h : Kept lo hi w w') (ho : w.ownsRow base e sz v n xs) (hk : ∀ k, v.ownBlock = some k → k < lo ∨ hi ≤ k) : w'.ownsRow base e sz v n xs := by
  obtain ⟨h1, h2⟩ := ho
  refine ⟨h1, ?_⟩
  rcases h2 with h2 | ⟨g, cap, cur, rfl, hg, hh, r⟩
  · exact .inl h2
  · exact .inr ⟨g, cap, cur, rfl, hg, (h.block g (Array.getElem?_eq_some_iff.1 hh).1 (hk g rfl)).trans hh, r⟩
theorem owns_blk {base e sz n : Nat} {w w' : World} {v : Value} {xs : List Value} (ho : w.ownsRow base e sz v n xs) (h : ∀ b, v.ownBlock = some b → b < w.heap.size → w'.heap[b]? = w.heap[b]?) : w'.ownsRow base e sz v n xs := by
  obtain ⟨h1, h2⟩ := ho
  refine ⟨h1, ?_⟩
  rcases h2 with h2 | ⟨g, cap, cur, rfl, hg, hh, r⟩
  · exact .inl h2
  · exact .inr ⟨g, cap, cur, rfl, hg, (h g rfl (Array.getElem?_eq_some_iff.1 hh).1).trans hh, r⟩

theorem bn_setQ (B : List Bn) (k : Nat) (q : Int) (h : k < B.length) : (bn B).set (k * 2 + 1) (.int .i64 q) = bn (B.set k ⟨(bT B k).l, (bT B k).v, q⟩) := by
  rw [← bn_set]
  have : (bn B).set (k * 2) (bT B k).v = bn B := by
    apply List.ext_getElem?
    intro j
    rw [List.getElem?_set]
    split
    · rename_i e
      subst e
      have hg := (bn_get B k h).1
      rw [if_pos (List.getElem?_eq_some_iff.1 hg).1, hg]
    · rfl
  rw [this]
theorem bT_set (B : List Bn) (k j : Nat) (x : Bn) (h : k ≠ j) : bT (B.set k x) j = bT B j := by
  unfold bT; rw [List.getD_eq_getElem?_getD, List.getElem?_set_ne h, List.getD_eq_getElem?_getD]

set_option maxHeartbeats 2000000 in
set_option maxRecDepth 100000 in
theorem markArtK_any (base lo hi : Nat) (l : List Art) (v : Value) (k : Int) (w : World) (hv : w.ownsRow base 75 4 v l.length (ar l)) (hl : l.length ≤ 2000000) (hk : 0 ≤ k) (hk2 : k ≤ 1000000000000000) (hlo : ∀ b, v.ownBlock = some b → lo ≤ b ∧ b < hi) :
    Calls Try.prog 34 #[v, .int .i64 k] w fun e w' => e = .returned (.int .i64 (k + 4 * l.length)) ∧ Kept lo hi w w' ∧ (∀ b, some b ≠ v.ownBlock → b < w.heap.size → w'.heap[b]? = w.heap[b]?) := by
  obtain ⟨ao, cap, rfl, hg⟩ := owns_shape hv
  have HG := Lib.hid hg
  have HV := Lib.hid hv
  have HLO := Lib.hid hlo
  clear hg hv hlo
  go_enter Try.func34, Try.ntmps34
  go_wp2
  go_loopw [1, 5] (fun c_ i_ wr => ∃ (j : Nat) (l' : List Art), j ≤ l.length ∧ i_ = .int .i64 j ∧ c_ = .int .i64 (k + 4 * j) ∧ Hid (wr.ownsRow base 75 4 (.slice ao l.length cap) l.length (ar l')) ∧ Hid (w.grownBy wr (Value.slice ao l.length cap).ownBlock)) (fun _ i_ _ => l.length - (intOf i_).toNat)
  case atStart => exact ⟨0, l, Nat.zero_le _, rfl, by simp, HV, World.grownBy.refl _ _⟩
  case round =>
    clear HV
    obtain ⟨j, l', hj, rfl, rfl, ho, hgr⟩ := hrel
    by_cases hlt : j < l.length
    · obtain ⟨g, rfl, hgb⟩ := HG.out (by omega)
      obtain ⟨⟨c0, c1, c2, c3⟩, f0, f1, f2, f3⟩ := owns_at4 ho.out j hlt
      have w1 : IntKind.i64.wrap (k + 4 * j + 1) = k + 4 * j + 1 := IntWalk.i64_in _ (by omega)
      have w2 : IntKind.i64.wrap (k + 4 * j + 2) = k + 4 * j + 2 := IntWalk.i64_in _ (by omega)
      have w3 : IntKind.i64.wrap (k + 4 * j + 3) = k + 4 * j + 3 := IntWalk.i64_in _ (by omega)
      have w4 : IntKind.i64.wrap (k + 4 * j + 4) = k + 4 * j + 4 := IntWalk.i64_in _ (by omega)
      have v1 : k + 4 * (j : Int) + 1 + 1 = k + 4 * j + 2 := by omega
      have v2 : k + 4 * (j : Int) + 2 + 1 = k + 4 * j + 3 := by omega
      have v3 : k + 4 * (j : Int) + 3 + 1 = k + 4 * j + 4 := by omega
      go_wp2
      go_roundw
      case rel =>
        refine ⟨j + 1, l'.set j ⟨k + 4 * j, k + 4 * j + 1, k + 4 * j + 2, k + 4 * j + 3⟩, by omega, by go_num, by go_num, ?_, ?_⟩
        · exact owns_set4 ho.out j ⟨k + 4 * j, k + 4 * j + 1, k + 4 * j + 2, k + 4 * j + 3⟩
        · have e1 := ho.out.stored (j * 4) (.int .i64 (k + 4 * j))
          have e2 := e1.1.stored (j * 4 + 1) (.int .i64 (k + 4 * j + 1))
          have e3 := e2.1.stored (j * 4 + 2) (.int .i64 (k + 4 * j + 2))
          have e4 := e3.1.stored (j * 4 + 3) (.int .i64 (k + 4 * j + 3))
          exact grownBy_trans (grownBy_trans (grownBy_trans (grownBy_trans hgr.out e1.2) e2.2) e3.2) e4.2
      case measure => simp [intOf]; omega
    · obtain rfl : j = l.length := by omega
      go_wp2
      go_ret
      exact ⟨rfl, Kept.of_grown hgr.out HLO.out, fun b hb hs => hgr.out.block b hs hb⟩

set_option maxHeartbeats 2000000 in
set_option maxRecDepth 100000 in
theorem markLinK_any (base lo hi : Nat) (l : List (Int × Int)) (v : Value) (k : Int) (w : World) (hv : w.ownsRow base 46 2 v l.length (pr l)) (hl : l.length ≤ 2000000) (hk : 0 ≤ k) (hk2 : k ≤ 1000000000000000) (hlo : ∀ b, v.ownBlock = some b → lo ≤ b ∧ b < hi) :
    Calls Try.prog 35 #[v, .int .i64 k] w fun e w' => e = .returned (.int .i64 (k + 2 * l.length)) ∧ Kept lo hi w w' ∧ (∀ b, some b ≠ v.ownBlock → b < w.heap.size → w'.heap[b]? = w.heap[b]?) := by
  obtain ⟨ao, cap, rfl, hg⟩ := owns_shape hv
  have HG := Lib.hid hg
  have HV := Lib.hid hv
  have HLO := Lib.hid hlo
  clear hg hv hlo
  go_enter Try.func35, Try.ntmps35
  go_wp2
  go_loopw [1, 5] (fun c_ i_ wr => ∃ (j : Nat) (l' : List (Int × Int)), j ≤ l.length ∧ i_ = .int .i64 j ∧ c_ = .int .i64 (k + 2 * j) ∧ Hid (wr.ownsRow base 46 2 (.slice ao l.length cap) l.length (pr l')) ∧ Hid (w.grownBy wr (Value.slice ao l.length cap).ownBlock)) (fun _ i_ _ => l.length - (intOf i_).toNat)
  case atStart => exact ⟨0, l, Nat.zero_le _, rfl, by simp, HV, World.grownBy.refl _ _⟩
  case round =>
    clear HV
    obtain ⟨j, l', hj, rfl, rfl, ho, hgr⟩ := hrel
    by_cases hlt : j < l.length
    · obtain ⟨g, rfl, hgb⟩ := HG.out (by omega)
      obtain ⟨c0, c1, f0, f1⟩ := owns_at2 ho.out j hlt
      go_wp2
      go_roundw
      case rel =>
        refine ⟨j + 1, l'.set j (k + 2 * j, k + 2 * j + 1), by omega, by go_num, by go_num, ?_, ?_⟩
        · exact owns_set2 ho.out j (k + 2 * j) (k + 2 * j + 1)
        · have e1 := ho.out.stored (j * 2) (.int .i64 (k + 2 * j))
          have e2 := e1.1.stored (j * 2 + 1) (.int .i64 (k + 2 * j + 1))
          exact grownBy_trans (grownBy_trans hgr.out e1.2) e2.2
      case measure => simp [intOf]; omega
    · obtain rfl : j = l.length := by omega
      go_wp2
      go_ret
      exact ⟨rfl, Kept.of_grown hgr.out HLO.out, fun b hb hs => hgr.out.block b hs hb⟩

set_option maxHeartbeats 2000000 in
set_option maxRecDepth 100000 in
theorem markBunK_any (base lo hi g : Nat) (C : List Bn) (n cap : Nat) (k : Int) (w : World) (hv : w.ownsRow base 33 2 (.slice (some ⟨g, 0, none⟩) n cap) n (bn C)) (hp : PartsB w base 46 C (some g)) (hd : DisB C) (hl : n ≤ 2000000) (hk : 0 ≤ k) (hk2 : k ≤ 10000000) (hlo : ∀ b, (b = g ∨ ∃ x, x ∈ C ∧ x.v.ownBlock = some b) → lo ≤ b ∧ b < hi) :
    Calls Try.prog 36 #[.slice (some ⟨g, 0, none⟩) n cap, .int .i64 k] w fun e w' => ∃ z : Int, e = .returned (.int .i64 z) ∧ 0 ≤ z ∧ Kept lo hi w w' := by
  have HV := Lib.hid hv
  have HP := Lib.hid hp
  have HD := Lib.hid hd
  have hCn : C.length = n := by have := hv.1; rw [bn_len] at this; omega
  have HCN := Lib.hid hCn
  have hgl : lo ≤ g ∧ g < hi := hlo g (.inl rfl)
  have HLO := Lib.hid hlo
  clear hv hp hd hCn hlo
  go_enter Try.func36, Try.ntmps36
  go_wp2
  go_loopw [1, 5] (fun c_ i_ wr => ∃ (j : Nat) (C' : List Bn) (z : Int), j ≤ n ∧ i_ = .int .i64 j ∧ c_ = .int .i64 z ∧ 0 ≤ z ∧ z ≤ k + 4000000 * j ∧ Hid (C'.length = n ∧ ∀ i, j ≤ i → bT C' i = bT C i) ∧ Hid (wr.ownsRow base 33 2 (.slice (some ⟨g, 0, none⟩) n cap) n (bn C')) ∧ Hid (∀ i, j ≤ i → i < n → wr.ownsRow base 46 2 (bT C i).v (bT C i).l.length (pr (bT C i).l)) ∧ Kept lo hi w wr) (fun _ i_ _ => n - (intOf i_).toNat)
  case atStart => exact ⟨0, C, k, Nat.zero_le _, rfl, rfl, hk, by omega, ⟨HCN.out, fun _ _ => rfl⟩, HV, fun i _ hi => (HP.out _ (bT_mem (by rw [HCN.out]; exact hi))).1, Kept.refl _ _ _⟩
  case round =>
    clear HV
    obtain ⟨j, C', z, hj, rfl, rfl, hz0, hz1, HC, O, PR, K⟩ := hrel
    by_cases hlt : j < n
    · have hjC : j < C'.length := by rw [HC.out.1]; exact hlt
      obtain ⟨c0, c1, f0, f1⟩ := owns_atB O.out j hlt
      have hcj := HC.out.2 j (Nat.le_refl _)
      rw [hcj] at c0
      have hpj := PR.out j (Nat.le_refl _) hlt
      have hpp := HP.out _ (bT_mem (show j < C.length by rw [HCN.out]; exact hlt))
      obtain ⟨po, pcap, hpe, _⟩ := owns_shape hpj
      rw [hpe] at c0
      have hgw := (O.out.lt g rfl).2
      have HPE := Lib.hid hpe
      have HPJ := Lib.hid hpj
      have HPP := Lib.hid hpp
      have hplen := hpp.2.1
      have hplo : ∀ b, (Value.slice po (bT C j).l.length pcap).ownBlock = some b → lo ≤ b ∧ b < hi := fun b hb => by
        rw [← hpe] at hb
        exact HLO.out b (.inr ⟨_, bT_mem (show j < C.length by rw [HCN.out]; exact hlt), hb⟩)
      have HPLO := Lib.hid hplo
      clear hpj hpp hpe hplo
      go_wp2_with fail
      refine (markLinK_any base lo hi (bT C j).l _ z _ (by rw [← HPE.out]; exact HPJ.out) (by omega) hz0 (by omega) HPLO.out).mono ?_
      rintro e w2 ⟨rfl, K2, hblk⟩
      have hne : some g ≠ (Value.slice po (bT C j).l.length pcap).ownBlock := fun e => by
        rw [← HPE.out] at e; exact HPP.out.2.2 g e.symm rfl
      have O2 := Lib.hid (owns_blk O.out (fun b hb hs => hblk b (by rw [← hb]; exact hne) hs))
      have PR2 : Hid (∀ i, j + 1 ≤ i → i < n → w2.ownsRow base 46 2 (bT C i).v (bT C i).l.length (pr (bT C i).l)) := fun i h1 h2 =>
        owns_blk (PR.out i (by omega) h2) (fun b hb hs => hblk b (fun e => by
          rw [← HPE.out] at e
          exact HD.out j i (by omega) (by rw [HCN.out]; exact h2) b e.symm hb) hs)
      obtain ⟨d0, d1, p0, p1⟩ := owns_atB O2.out j hlt
      have hgw2 := (O2.out.lt g rfl).2
      have KK := K.trans K2
      have hz2 : IntKind.i64.wrap (z + 2 * ((bT C j).l.length : Int) + 1) = z + 2 * ((bT C j).l.length : Int) + 1 := IntWalk.i64_in _ (by omega)
      have hz3 : 0 ≤ z + 2 * ((bT C j).l.length : Int) + 1 := by omega
      have hz4 : z + 2 * ((bT C j).l.length : Int) + 1 ≤ k + 4000000 * ((j + 1 : Nat) : Int) := by omega
      have HZ4 := Lib.hid hz4
      clear K K2 hblk O PR hz4 hne
      go_wp2
      go_roundw
      case rel =>
        have e1 := O2.out.stored (j * 2 + 1) (.int .i64 (z + 2 * ((bT C j).l.length : Int)))
        rw [bn_setQ C' j _ hjC] at e1
        refine ⟨j + 1, _, z + 2 * ((bT C j).l.length : Int) + 1, by omega, by go_num, rfl, hz3, HZ4.out, ⟨by rw [List.length_set]; exact HC.out.1, fun i hi => ?_⟩, e1.1, fun i h1 h2 => ?_, KK.trans (Kept.of_grown e1.2 (fun b hb => by simp only [Option.some.injEq] at hb; omega))⟩
        · rw [bT_set _ _ _ _ (by omega)]; exact HC.out.2 i (by omega)
        · exact ownsRow_setCell_other (PR2.out i h1 h2) (fun e => (HP.out _ (bT_mem (show i < C.length by rw [HCN.out]; exact h2))).2.2 _ e rfl) _
      case measure => simp [intOf]; omega
    · go_wp2
      go_ret
      exact ⟨z, rfl, hz0, K⟩

end Go.Proofs.Ytomapdedajdkkab
