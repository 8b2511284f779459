/- Walks: valid bundles, in the program and in the reference. Conditions: none. -/
import Derived.Test.YtomapdedajdkkabBN
import Derived.Test.YtomapdedajdkkabCU
import Derived.Test.YtomapdedajdkkabCV
namespace Go.Proofs.Ytomapdedajdkkab
open Go.RowKit

/-- A slice of bundles reads as B, and the parts of each read as they are said. -/
def RdB (w : World) (v : Value) (B : List Bn) : Prop := Rd w 2 v B.length (bn B) ∧ ∀ x ∈ B, Rd w 2 x.v x.l.length (pr x.l)

theorem RdB.below {w w' : World} {b : Nat} {v : Value} {B : List Bn} (h : RdB w v B) (hb : Below b w w') (hB : w.heap.size ≤ b) : RdB w' v B :=
  ⟨h.1.below hb hB, fun x hx => (h.2 x hx).below hb hB⟩
theorem RdB.len {w : World} {v : Value} {B : List Bn} (h : RdB w v B) : B.length ≤ 9223372036854775807 := by
  have := h.1.len; unfold maxLen at this; omega
theorem RdB.nil (w : World) : RdB w (.slice none 0 0) [] := ⟨Rd.of_owns (World.ownsRow_nil w 0 0 2), fun x hx => by cases hx⟩

/-- A slice of bundles, opened. -/
theorem RdB.open {w : World} {v : Value} {B : List Bn} (h : RdB w v B) :
    ∃ ao cap, v = .slice ao B.length cap ∧ B.length ≤ cap ∧ cap ≤ maxLen ∧ (0 < B.length → ∃ b off, ao = some ⟨b, off, none⟩ ∧ b < w.heap.size ∧
      ∀ k, k < B.length → w.cell? ⟨b, off + k * 2, none⟩ = some (bT B k).v ∧ w.cell? ⟨b, off + k * 2 + 1, none⟩ = some (.int .i64 (bT B k).p)) := by
  obtain ⟨_, ao, cap, h2, h3, h4, h5⟩ := h.1
  refine ⟨ao, cap, h2, h3, h4, fun hn => ?_⟩
  obtain ⟨b, off, h6, h7, h8⟩ := h5 hn
  refine ⟨b, off, h6, h7, fun k hk => ?_⟩
  have hg := bn_get B k hk
  exact ⟨h8 _ _ hg.1, h8 _ _ hg.2⟩

/-- valid bundles of a shop -/
def vBn (s : List Art) (B : List Bn) : Bool := vShop s && (B.all (fun x => bOk s x.l x.p) && decide (B.length ≤ 3))
def bOkT (s : List Art) (B : List Bn) (k : Nat) : Bool := bOk s (bT B k).l (bT B k).p
theorem bOkT_all {s : List Art} {B : List Bn} (h : ∀ j, j < B.length → bOkT s B j = true) : B.all (fun x => bOk s x.l x.p) = true := by
  rw [List.all_eq_true]
  intro x hx
  obtain ⟨k, hk, rfl⟩ := List.getElem_of_mem hx
  have := h k hk
  simpa [bOkT, bT, List.getD, hk] using this
theorem all_bOkT {s : List Art} {B : List Bn} (h : B.all (fun x => bOk s x.l x.p) = true) {k : Nat} (hk : k < B.length) : bOkT s B k = true := by
  rw [List.all_eq_true] at h
  exact h _ (bT_mem hk)
theorem vBn_bad {s : List Art} {B : List Bn} {k : Nat} (hk : k < B.length) (h : bOkT s B k = false) : vBn s B = false ∧ (B.all (fun x => bOk s x.l x.p) && decide (B.length ≤ 3)) = false := by
  have : B.all (fun x => bOk s x.l x.p) = false := by
    cases e : B.all (fun x => bOk s x.l x.p)
    · rfl
    · rw [all_bOkT e hk] at h; cases h
  unfold vBn
  rw [this]
  cases vShop s <;> exact ⟨rfl, rfl⟩
theorem vBn_s {s : List Art} {B : List Bn} (h : vShop s = false) : vBn s B = false := by simp [vBn, h]
theorem vBn_end {s : List Art} {B : List Bn} (h : ∀ j, j < B.length → bOkT s B j = true) (hs : vShop s = true) : vBn s B = decide ((B.length : Int) ≤ 3) := by
  unfold vBn
  rw [bOkT_all h, hs, Bool.true_and, Bool.true_and]
  exact decide_eq_decide.2 (by omega)
theorem vBn_end2 {s : List Art} {B : List Bn} (h : ∀ j, j < B.length → bOkT s B j = true) : (B.all (fun x => bOk s x.l x.p) && decide (B.length ≤ 3)) = decide ((B.length : Int) ≤ 3) := by
  rw [bOkT_all h, Bool.true_and]
  exact decide_eq_decide.2 (by omega)
theorem vBn_pr {s : List Art} {B : List Bn} (h : vBn s B = true) : vShop s = true ∧ (∀ k, k < B.length → bOkT s B k = true) ∧ B.length ≤ 3 := by
  unfold vBn at h
  rw [Bool.and_eq_true, Bool.and_eq_true, decide_eq_true_eq] at h
  exact ⟨h.1, fun k hk => all_bOkT h.2.1 hk, h.2.2⟩
theorem vBn_mk {s : List Art} {B : List Bn} (h1 : vShop s = true) (h2 : ∀ k, k < B.length → bOkT s B k = true) (h3 : B.length ≤ 3) : vBn s B = true := by
  unfold vBn
  rw [h1, bOkT_all h2, decide_eq_true h3]; rfl

set_option maxHeartbeats 2000000 in
theorem implBundles_any (s : List Art) (u : Value) (B : List Bn) (v : Value) (w : World) (hs : Rd w 4 u s.length (ar s)) (hv : RdB w v B) :
    Calls Try.prog 58 #[u, v] w fun e w' => e = .returned (.bool (vBn s B)) ∧ Below w.heap.size w w' := by
  have HS := Lib.hid hs
  have HV := Lib.hid hv
  have hm := hs.len
  have hm2 := hv.len
  unfold maxLen at hm
  obtain ⟨so, scap, rfl, _⟩ := hs.arts
  obtain ⟨co, ccap, rfl, _, _, hrc⟩ := hv.open
  have HRC := Lib.hid hrc
  clear hv hs hrc
  go_enter Try.func58, Try.ntmps58
  go_wp2
  go_loopw [9] (fun i_ wr => ∃ k : Nat, k ≤ B.length ∧ i_ = .int .i64 k ∧ Below w.heap.size w wr ∧ Hid (∀ j, j < k → bOkT s B j = true)) (fun i_ _ => B.length - (intOf i_).toNat)
  case atStart => exact ⟨0, Nat.zero_le _, rfl, Below.refl _ _, fun j hj => absurd hj (Nat.not_lt_zero _)⟩
  case round =>
    obtain ⟨k, hk, rfl, hbl, hall⟩ := hrel
    by_cases hlt : k < B.length
    · obtain ⟨b, off, rfl, hb, hcell⟩ := HRC.out (by omega)
      have g0 := (hbl.cell (p := ⟨b, off + k*2, none⟩) hb).trans (hcell k hlt).1
      have g1 := (hbl.cell (p := ⟨b, off + k*2+1, none⟩) hb).trans (hcell k hlt).2
      have hbw : b < wr.heap.size := Nat.lt_of_lt_of_le hb hbl.size
      have hpx := HV.out.2 _ (bT_mem hlt)
      obtain ⟨po, pcap, hpe, _⟩ := hpx.pairs
      rw [hpe] at g0 hpx
      have HPX := Lib.hid hpx
      clear hcell hpx hpe
      have hb2 : Below w.heap.size w (wr.alloc (.cells #[.slice po (bT B k).l.length pcap, .int .i64 (bT B k).p] 33)) := hbl.alloc hbl.size _
      cases hok : bOkT s B k
      · have fin := Lib.hid (vBn_bad hlt hok).1
        have HOK := Lib.hid hok
        go_wp2_with (go_at_call 52; refine (implBundle_any s _ (bT B k).l _ (bT B k).p _ (HS.out.below hb2 (Nat.le_refl _)) (HPX.out.below hb2 (Nat.le_refl _))).mono ?_; rintro e w1 ⟨rfl, hb1⟩; rw [show bOk s (bT B k).l (bT B k).p = false from HOK.out])
        go_ret
        exact ⟨by rw [fin.out] <;> rfl, hb2.trans (hb1.mono hb2.size)⟩
      · have HOK := Lib.hid hok
        go_wp2_with (go_at_call 52; refine (implBundle_any s _ (bT B k).l _ (bT B k).p _ (HS.out.below hb2 (Nat.le_refl _)) (HPX.out.below hb2 (Nat.le_refl _))).mono ?_; rintro e w1 ⟨rfl, hb1⟩; rw [show bOk s (bT B k).l (bT B k).p = true from HOK.out])
        go_roundw
        case rel => exact ⟨k + 1, by omega, by go_num, hb2.trans (hb1.mono hb2.size), all_snoc hall.out HOK.out⟩
        case measure => simp [intOf]; omega
    · obtain rfl : k = B.length := by omega
      cases hsh : vShop s
      · have fin := Lib.hid (vBn_s (B := B) hsh)
        go_wp2_with (go_at_call 84; refine (implShop_any s _ _ (HS.out.below hbl (Nat.le_refl _))).mono ?_; rintro e w1 ⟨rfl, hb1⟩)
        go_ret
        exact ⟨by rw [fin.out] <;> rfl, hbl.trans (hb1.mono hbl.size)⟩
      · have fin := Lib.hid (vBn_end hall.out hsh)
        go_wp2_with (go_at_call 84; refine (implShop_any s _ _ (HS.out.below hbl (Nat.le_refl _))).mono ?_; rintro e w1 ⟨rfl, hb1⟩)
        go_ret
        exact ⟨by rw [fin.out] <;> rfl, hbl.trans (hb1.mono hbl.size)⟩

set_option maxHeartbeats 2000000 in
theorem specBundles_in (s : List Art) (u : Value) (B : List Bn) (v : Value) (w : World) (hs : Rd w 4 u s.length (ar s)) (hv : RdB w v B) (hsh : vShop s = true) :
    Calls Try.prog 63 #[u, v] w fun e w' => e = .returned (.bool (B.all (fun x => bOk s x.l x.p) && decide (B.length ≤ 3))) ∧ Below w.heap.size w w' := by
  have HS := Lib.hid hs
  have HV := Lib.hid hv
  have hm := hs.len
  have hm2 := hv.len
  unfold maxLen at hm
  obtain ⟨so, scap, rfl, _⟩ := hs.arts
  obtain ⟨co, ccap, rfl, _, _, hrc⟩ := hv.open
  have HRC := Lib.hid hrc
  clear hv hs hrc
  have HSH := Lib.hid hsh
  clear hsh
  go_enter Try.func63, Try.ntmps63
  go_wp2
  go_loopw [5] (fun i_ wr => ∃ k : Nat, k ≤ B.length ∧ i_ = .int .i64 k ∧ Below w.heap.size w wr ∧ Hid (∀ j, j < k → bOkT s B j = true)) (fun i_ _ => B.length - (intOf i_).toNat)
  case atStart => exact ⟨0, Nat.zero_le _, rfl, Below.refl _ _, fun j hj => absurd hj (Nat.not_lt_zero _)⟩
  case round =>
    obtain ⟨k, hk, rfl, hbl, hall⟩ := hrel
    by_cases hlt : k < B.length
    · obtain ⟨b, off, rfl, hb, hcell⟩ := HRC.out (by omega)
      have g0 := (hbl.cell (p := ⟨b, off + k*2, none⟩) hb).trans (hcell k hlt).1
      have g1 := (hbl.cell (p := ⟨b, off + k*2+1, none⟩) hb).trans (hcell k hlt).2
      have hbw : b < wr.heap.size := Nat.lt_of_lt_of_le hb hbl.size
      have hpx := HV.out.2 _ (bT_mem hlt)
      obtain ⟨po, pcap, hpe, _⟩ := hpx.pairs
      rw [hpe] at g0 hpx
      have HPX := Lib.hid hpx
      clear hcell hpx hpe
      cases hok : bOkT s B k
      · have fin := Lib.hid (vBn_bad hlt hok).2
        have HOK := Lib.hid hok
        go_wp2_with (go_at_call 49; refine (specBundle_in s _ (bT B k).l _ (bT B k).p _ (HS.out.below hbl (Nat.le_refl _)) (HPX.out.below hbl (Nat.le_refl _)) HSH.out).mono ?_; rintro e w1 ⟨rfl, hb1⟩; rw [show bOk s (bT B k).l (bT B k).p = false from HOK.out])
        go_ret
        exact ⟨by rw [fin.out] <;> rfl, hbl.trans (hb1.mono hbl.size)⟩
      · have HOK := Lib.hid hok
        go_wp2_with (go_at_call 49; refine (specBundle_in s _ (bT B k).l _ (bT B k).p _ (HS.out.below hbl (Nat.le_refl _)) (HPX.out.below hbl (Nat.le_refl _)) HSH.out).mono ?_; rintro e w1 ⟨rfl, hb1⟩; rw [show bOk s (bT B k).l (bT B k).p = true from HOK.out])
        go_roundw
        case rel => exact ⟨k + 1, by omega, by go_num, hbl.trans (hb1.mono hbl.size), all_snoc hall.out HOK.out⟩
        case measure => simp [intOf]; omega
    · obtain rfl : k = B.length := by omega
      have fin := Lib.hid (vBn_end2 hall.out)
      go_wp2
      go_ret
      exact ⟨by rw [fin.out] <;> rfl, hbl⟩

end Go.Proofs.Ytomapdedajdkkab
