/- Walks: the copies, sizes and comparisons of the exact laws on articles. Conditions: none. -/
import Derived.Test.YtomapdedajdkkabCA
import Derived.StillTailTactics
namespace Go.Proofs.Ytomapdedajdkkab
open Go.RowKit

theorem ar_cons (a : Art) (m : List Art) : ar (a :: m) = Value.int .i64 a.p :: Value.int .i64 a.g :: Value.int .i64 a.r :: Value.int .i64 a.w :: ar m := by simp [ar]

theorem ar_set (m : List Art) (k : Nat) (a : Art) : ((((ar m).set (k * 4) (.int .i64 a.p)).set (k * 4 + 1) (.int .i64 a.g)).set (k * 4 + 2) (.int .i64 a.r)).set (k * 4 + 3) (.int .i64 a.w) = ar (m.set k a) := by
  induction m generalizing k with
  | nil => simp [ar]
  | cons p m ih =>
    match k with
    | 0 => simp [ar_cons]
    | k + 1 =>
      rw [ar_cons, show (k + 1) * 4 = k * 4 + 1 + 1 + 1 + 1 by omega]
      simp only [List.set_cons_succ]
      rw [ar_cons, ih k]

def fillA (l : List Art) (k : Nat) : List Art := l.take k ++ List.replicate (l.length - k) ⟨0, 0, 0, 0⟩
theorem fillA_zero (l : List Art) : fillA l 0 = List.replicate l.length ⟨0, 0, 0, 0⟩ := by simp [fillA]
theorem fillA_succ (l : List Art) (k : Nat) (hk : k < l.length) : (fillA l k).set k (aT l k) = fillA l (k + 1) := fill_succ l ⟨0, 0, 0, 0⟩ k hk
theorem fillA_end (l : List Art) : fillA l l.length = l := by simp [fillA]

theorem made_ar (n : Nat) : (madeCells #[Value.int .i64 0, Value.int .i64 0, Value.int .i64 0, Value.int .i64 0] (n * 4)).toList = ar (List.replicate n ⟨0, 0, 0, 0⟩) := by
  apply List.ext_getElem?
  intro j
  by_cases hj : j < n * 4
  · have hk : j / 4 < (List.replicate n (⟨0, 0, 0, 0⟩ : Art)).length := by rw [List.length_replicate]; omega
    have hg := ar_get (List.replicate n ⟨0, 0, 0, 0⟩) (j / 4) hk
    have hA : aT (List.replicate n ⟨0, 0, 0, 0⟩) (j / 4) = ⟨0, 0, 0, 0⟩ := by rw [List.length_replicate] at hk; simp [aT, List.getD, hk]
    rw [hA] at hg
    rcases (by omega : j % 4 = 0 ∨ j % 4 = 1 ∨ j % 4 = 2 ∨ j % 4 = 3) with h | h | h | h
    · rw [show j / 4 * 4 = j by omega] at hg
      rw [hg.1]; simp [madeCells, hj, h]
    · rw [show j / 4 * 4 + 1 = j by omega] at hg
      rw [hg.2.1]; simp [madeCells, hj, h]
    · rw [show j / 4 * 4 + 2 = j by omega] at hg
      rw [hg.2.2.1]; simp [madeCells, hj, h]
    · rw [show j / 4 * 4 + 3 = j by omega] at hg
      rw [hg.2.2.2]; simp [madeCells, hj, h]
  · rw [List.getElem?_eq_none (by simp [madeCells]; omega), List.getElem?_eq_none (by rw [ar_len, List.length_replicate]; omega)]

theorem owns_set4 {w : World} {base e g n cap : Nat} {m : List Art} (h : w.ownsRow base e 4 (.slice (some ⟨g, 0, none⟩) n cap) n (ar m)) (k : Nat) (a : Art) :
    ((((w.setCell ⟨g, k * 4, none⟩ (.int .i64 a.p)).setCell ⟨g, k * 4 + 1, none⟩ (.int .i64 a.g)).setCell ⟨g, k * 4 + 2, none⟩ (.int .i64 a.r)).setCell ⟨g, k * 4 + 3, none⟩ (.int .i64 a.w)).ownsRow base e 4 (.slice (some ⟨g, 0, none⟩) n cap) n (ar (m.set k a)) := by
  rw [← ar_set]
  exact ((((h.stored _ _).1.stored _ _).1.stored _ _).1.stored _ _).1

theorem owns_at4 {w : World} {base e g n cap : Nat} {m : List Art} (h : w.ownsRow base e 4 (.slice (some ⟨g, 0, none⟩) n cap) n (ar m)) (k : Nat) (hk : k < n) :
    (w.cell? ⟨g, k * 4, none⟩ = some (.int .i64 (aT m k).p) ∧ w.cell? ⟨g, k * 4 + 1, none⟩ = some (.int .i64 (aT m k).g) ∧ w.cell? ⟨g, k * 4 + 2, none⟩ = some (.int .i64 (aT m k).r) ∧ w.cell? ⟨g, k * 4 + 3, none⟩ = some (.int .i64 (aT m k).w)) ∧
    w.frozen? ⟨g, k * 4, none⟩ = false ∧ w.frozen? ⟨g, k * 4 + 1, none⟩ = false ∧ w.frozen? ⟨g, k * 4 + 2, none⟩ = false ∧ w.frozen? ⟨g, k * 4 + 3, none⟩ = false := by
  have hl : m.length = n := by have := h.1; rw [ar_len] at this; omega
  have hg := ar_get m k (by omega)
  exact ⟨⟨(h.cellAt _ (by omega)).trans hg.1, (h.cellAt _ (by omega)).trans hg.2.1, (h.cellAt _ (by omega)).trans hg.2.2.1, (h.cellAt _ (by omega)).trans hg.2.2.2⟩, h.frozenAt _, h.frozenAt _, h.frozenAt _, h.frozenAt _⟩

theorem art_ext {l m : List Art} (h : l.length = m.length) (hj : ∀ j, j < l.length → aT l j = aT m j) : l = m := by
  apply List.ext_getElem h
  intro i h1 h2
  have := hj i h1
  simp only [aT, List.getD_eq_getElem?_getD, List.getElem?_eq_getElem h1, List.getElem?_eq_getElem h2, Option.getD_some] at this
  exact this

def eqA (a b : Art) : Bool := decide (a.p = b.p) && decide (a.g = b.g) && decide (a.r = b.r) && decide (a.w = b.w)
theorem eqA_refl (a : Art) : eqA a a = true := by simp [eqA]
theorem eqA_eq {a b : Art} (h : eqA a b = true) : a = b := by
  simp only [eqA, Bool.and_eq_true, decide_eq_true_eq] at h
  cases a; cases b
  simp only at h
  obtain ⟨⟨⟨rfl, rfl⟩, rfl⟩, rfl⟩ := h
  rfl

set_option maxHeartbeats 400000 in
theorem toArticle_any (a b c d : Int) (w : World) :
    Calls Try.prog 51 #[.agg #[.int .i64 a, .int .i64 b, .int .i64 c, .int .i64 d]] w fun e w' => e = .returned (.agg #[.int .i64 a, .int .i64 b, .int .i64 c, .int .i64 d]) ∧ Below w.heap.size w w' := by
  go_enter Try.func51, Try.ntmps51
  go_wp2
  go_returns
  refine ⟨rfl, ?_⟩
  go_grown

set_option maxHeartbeats 1000000 in
theorem eqArticle_any (a b : Art) (w : World) :
    Calls Try.prog 53 #[.agg #[.int .i64 a.p, .int .i64 a.g, .int .i64 a.r, .int .i64 a.w], .agg #[.int .i64 b.p, .int .i64 b.g, .int .i64 b.r, .int .i64 b.w]] w fun e w' => e = .returned (.bool (eqA a b)) ∧ Below w.heap.size w w' := by
  cases h1 : (a.p != b.p)
  · have k1 := Lib.hid (bne_f h1)
    cases h2 : (a.g != b.g)
    · have k2 := Lib.hid (bne_f h2)
      cases h3 : (a.r != b.r)
      · have k3 := Lib.hid (bne_f h3)
        cases h4 : (a.w != b.w)
        · have k4 := Lib.hid (bne_f h4)
          go_enter Try.func53, Try.ntmps53
          go_wp2
          go_ret
          exact ⟨ret_b (by simp [eqA, k1.out, k2.out, k3.out, k4.out]), by go_grown⟩
        · have k4 := Lib.hid (bne_t h4)
          go_enter Try.func53, Try.ntmps53
          go_wp2
          go_ret
          exact ⟨ret_b (by simp [eqA, k4.out]), by go_grown⟩
      · have k3 := Lib.hid (bne_t h3)
        go_enter Try.func53, Try.ntmps53
        go_wp2
        go_ret
        exact ⟨ret_b (by simp [eqA, k3.out]), by go_grown⟩
    · have k2 := Lib.hid (bne_t h2)
      go_enter Try.func53, Try.ntmps53
      go_wp2
      go_ret
      exact ⟨ret_b (by simp [eqA, k2.out]), by go_grown⟩
  · have k1 := Lib.hid (bne_t h1)
    go_enter Try.func53, Try.ntmps53
    go_wp2
    go_ret
    exact ⟨ret_b (by simp [eqA, k1.out]), by go_grown⟩

set_option maxHeartbeats 400000 in
theorem szArticleS_any (ao : Option Addr) (n cap : Nat) (left : Int) (w : World) (hn : n ≤ 9223372036854775807) (h0 : 0 ≤ left) (h1 : left ≤ 1048576) :
    Calls Try.prog 12 #[.slice ao n cap, .int .i64 left] w fun e w' => e = .returned (.int .i64 (szL left n)) ∧ w = w' := by
  go_enter Try.func12, Try.ntmps12
  go_wp2
  all_goals go_ret
  · have h : left - (n : Int) < 0 := by assumption
    exact ⟨ret_i (by rw [szL, if_pos (by omega)]), rfl⟩
  · have h : 0 ≤ left - (n : Int) := by assumption
    exact ⟨ret_i (by rw [szL, if_neg (by omega)]), rfl⟩

theorem Try.info75 : (Try.prog.info? 75).map (fun i => (i.zero, i.size, i.bytes)) = some (some (.agg #[.int .i64 0, .int .i64 0, .int .i64 0, .int .i64 0]), 4, 32) := by kernel_rfl

set_option maxHeartbeats 1000000 in
theorem toArticleS_any (l : List Art) (v : Value) (w : World) (hv : Rd w 4 v l.length (ar l)) (hl : l.length ≤ 1048576) :
    Calls Try.prog 15 #[v] w fun e w' => ∃ u, e = .returned u ∧ w'.ownsRow w.heap.size 75 4 u l.length (ar l) ∧ Below w.heap.size w w' := by
  obtain ⟨ao, cap, rfl, _, _, hr⟩ := hv.arts
  have HR := Lib.hid hr
  clear hr hv
  obtain ⟨i0, hi, hz0, hz1, hz2⟩ := info_parts Try.info75
  have HI := Lib.hid hi
  have HZ0 := Lib.hid hz0
  have HZ1 := Lib.hid hz1
  have HZ2 := Lib.hid hz2
  clear hi hz0 hz1 hz2
  go_enter Try.func15, Try.ntmps15
  go_wp2_with (refine wpList_make_full _ rfl _ _ 29 rfl w.heap.size 75 i0 _ 4 Try.underlying29 HI.out HZ0.out HZ1.out _ _ _ _ l.length rfl rfl rfl rfl (by rw [HZ2.out]; omega) (by unfold maxLen; omega) (Nat.le_refl _) ?_; intro w1 hown hgr)
  have hown0 : Hid (w1.ownsRow w.heap.size 75 4 (.slice (some ⟨w.heap.size, 0, none⟩) l.length l.length) l.length (ar (fillA l 0))) := by
    rw [fillA_zero, ← made_ar]; exact hown
  have hb0 : Below w.heap.size w w1 := below_of_grownBy hgr
  clear hown hgr
  go_loopw [4] (fun i wr => ∃ k : Nat, k ≤ l.length ∧ i = .int .i64 k ∧ Below w.heap.size w wr ∧ Hid (wr.ownsRow w.heap.size 75 4 (.slice (some ⟨w.heap.size, 0, none⟩) l.length l.length) l.length (ar (fillA l k)))) (fun i _ => l.length - (intOf i).toNat)
  case atStart => exact ⟨0, Nat.zero_le _, rfl, hb0, hown0⟩
  case round =>
    clear hown0 hb0
    obtain ⟨k, hk, rfl, hbl, hown⟩ := hrel
    by_cases hlt : k < l.length
    · obtain ⟨b, off, rfl, hb, hcell⟩ := HR.out (by omega)
      have h0 := (hbl.cell (p := ⟨b, off + k*4, none⟩) hb).trans (hcell k hlt).1
      have h1 := (hbl.cell (p := ⟨b, off + k*4+1, none⟩) hb).trans (hcell k hlt).2.1
      have h2 := (hbl.cell (p := ⟨b, off + k*4+2, none⟩) hb).trans (hcell k hlt).2.2.1
      have h3 := (hbl.cell (p := ⟨b, off + k*4+3, none⟩) hb).trans (hcell k hlt).2.2.2
      clear hcell
      go_wp2_with (go_at_call 51; refine (toArticle_any _ _ _ _ _).mono ?_; rintro e w2 ⟨rfl, hb2⟩; obtain ⟨⟨c0, c1, c2, c3⟩, f0, f1, f2, f3⟩ := owns_at4 (ownsRow_below hown.out hb2 (Nat.le_refl _)) k hlt)
      go_roundw
      case rel =>
        refine ⟨k + 1, by omega, by go_num, ((((hbl.trans (hb2.mono hbl.size)).setCell (Nat.le_refl _) _).setCell (Nat.le_refl _) _).setCell (Nat.le_refl _) _).setCell (Nat.le_refl _) _, ?_⟩
        have := owns_set4 (ownsRow_below hown.out hb2 (Nat.le_refl _)) k (aT l k)
        rwa [fillA_succ l k hlt] at this
      case measure => simp [intOf]; omega
    · go_wp2
      go_ret
      obtain rfl : k = l.length := by omega
      exact ⟨_, rfl, by have := hown.out; rwa [fillA_end] at this, hbl⟩

set_option maxHeartbeats 1000000 in
set_option maxRecDepth 100000 in
theorem eqArticleS_any (l m : List Art) (u v : Value) (w : World) (hu : Rd w 4 u l.length (ar l)) (hv : Rd w 4 v m.length (ar m)) :
    Calls Try.prog 18 #[u, v] w fun e w' => e = .returned (.bool (decide (l = m))) ∧ Below w.heap.size w w' := by
  have hm := hu.len
  unfold maxLen at hm
  obtain ⟨ao, cap, rfl, _, _, hr⟩ := hu.arts
  obtain ⟨bo, cap', rfl, _, _, hs⟩ := hv.arts
  have HR := Lib.hid hr
  have HS := Lib.hid hs
  clear hr hv hs hu
  go_enter Try.func18, Try.ntmps18
  by_cases hlm : l.length = m.length
  · have hlen : m.length ≤ l.length ∧ l.length ≤ m.length := by omega
    have hne : ((l.length : Int) != (m.length : Int)) = false := by simp [hlm]
    have HLM := Lib.hid hlm
    clear hlm
    go_wp2
    go_loopw [5] (fun i wr => ∃ k : Nat, k ≤ l.length ∧ i = .int .i64 k ∧ Below w.heap.size w wr ∧ Hid (∀ j, j < k → aT l j = aT m j)) (fun i _ => l.length - (intOf i).toNat)
    case atStart => exact ⟨0, Nat.zero_le _, rfl, Below.refl _ _, fun j hj => absurd hj (Nat.not_lt_zero _)⟩
    case round =>
      obtain ⟨k, hk, rfl, hbl, hall⟩ := hrel
      by_cases hlt : k < l.length
      · have hlt2 : k < m.length := by omega
        obtain ⟨b, off, rfl, hb, hcell⟩ := HR.out (by omega)
        obtain ⟨b2, off2, rfl, hb2, hcell2⟩ := HS.out (by omega)
        have h0 := (hbl.cell (p := ⟨b, off + k*4, none⟩) hb).trans (hcell k hlt).1
        have h1 := (hbl.cell (p := ⟨b, off + k*4+1, none⟩) hb).trans (hcell k hlt).2.1
        have h2 := (hbl.cell (p := ⟨b, off + k*4+2, none⟩) hb).trans (hcell k hlt).2.2.1
        have h3 := (hbl.cell (p := ⟨b, off + k*4+3, none⟩) hb).trans (hcell k hlt).2.2.2
        have g0 := (hbl.cell (p := ⟨b2, off2 + k*4, none⟩) hb2).trans (hcell2 k hlt2).1
        have g1 := (hbl.cell (p := ⟨b2, off2 + k*4+1, none⟩) hb2).trans (hcell2 k hlt2).2.1
        have g2 := (hbl.cell (p := ⟨b2, off2 + k*4+2, none⟩) hb2).trans (hcell2 k hlt2).2.2.1
        have g3 := (hbl.cell (p := ⟨b2, off2 + k*4+3, none⟩) hb2).trans (hcell2 k hlt2).2.2.2
        clear hcell hcell2
        cases he : eqA (aT l k) (aT m k)
        · have fin : Hid (decide (l = m) = false) := by
            rw [Hid, decide_eq_false]; rintro rfl; rw [eqA_refl] at he; cases he
          go_wp2
          go_still_tail 8, (by kernel_rfl)
          change wpList _ _ _ _ _ wr.drew
          go_wp2_with (go_at_call 53; refine (eqArticle_any (aT l k) (aT m k) _).mono ?_; rintro e w2 ⟨rfl, hb2⟩)
          go_ret
          exact ⟨by rw [fin.out]; rfl, (hbl.drew).trans (hb2.mono hbl.size)⟩
        · have fin := Lib.hid (eqA_eq he)
          go_wp2
          go_still_tail 8, (by kernel_rfl)
          change wpList _ _ _ _ _ wr.drew
          go_wp2_with (go_at_call 53; refine (eqArticle_any (aT l k) (aT m k) _).mono ?_; rintro e w2 ⟨rfl, hb2⟩)
          go_roundw
          case rel => exact ⟨k+1, by omega, by go_num, (hbl.drew).trans (hb2.mono hbl.size), all_snoc hall.out fin.out⟩
          case measure => simp [intOf]; omega
      · go_wp2
        go_ret
        have he : l = m := art_ext HLM.out fun j hj => hall.out j (by omega)
        exact ⟨ret_b (by rw [he]; simp), hbl⟩
  · have hne : ((l.length : Int) != (m.length : Int)) = true := by simp; omega
    have HLM := Lib.hid hlm
    clear hlm
    go_wp2
    go_ret
    exact ⟨ret_b (by rw [decide_eq_false]; intro e; exact HLM.out (by rw [e])), Below.refl _ _⟩

end Go.Proofs.Ytomapdedajdkkab
