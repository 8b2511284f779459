/- Walks: comparing, adding, copying and marking lists of numbers. Conditions: none. -/
import Derived.Test.YtomapdedajdkkabRows
import Derived.Test.YtomapdedajdkkabRow
import Derived.Deep.QuietTactic
import Derived.BigQuiet
import Derived.Handy
namespace Go.Proofs.Ytomapdedajdkkab
open Go.RowKit

theorem Try.info3n : (Try.prog.info? 3).map (fun i => (i.zero, i.size, i.bytes)) = some (some (.int .i64 0), 1, 8) := by kernel_rfl

theorem int_ext {l m : List Int} (h : l.length = m.length) (hj : ∀ j, j < l.length → iG l j = iG m j) : l = m := by
  apply List.ext_getElem h
  intro i h1 h2
  have := hj i h1
  simp only [iG, List.getD_eq_getElem?_getD, List.getElem?_eq_getElem h1, List.getElem?_eq_getElem h2, Option.getD_some] at this
  exact this

theorem all_snocI {p : Nat → Prop} {k : Nat} (h : ∀ j, j < k → p j) (hk : p k) : ∀ j, j < k + 1 → p j := by
  intro j hj
  by_cases e : j = k
  · exact e ▸ hk
  · exact h j (by omega)

set_option maxHeartbeats 1000000 in
theorem equalInts_any (l m : List Int) (u v : Value) (w : World) (hu : Rd w 1 u l.length (it l)) (hv : Rd w 1 v m.length (it m)) :
    Calls Try.prog 22 #[u, v] w fun e w' => e = .returned (.bool (decide (l = m))) ∧ Below w.heap.size w w' := by
  have hm := hu.len
  unfold maxLen at hm
  obtain ⟨ao, cap, rfl, _, _, hr⟩ := hu.ints
  obtain ⟨bo, cap', rfl, _, _, hs⟩ := hv.ints
  have HR := Lib.hid hr
  have HS := Lib.hid hs
  clear hr hv hs hu
  go_enter Try.func22, Try.ntmps22
  by_cases hlm : l.length = m.length
  · have hlen : m.length ≤ l.length ∧ l.length ≤ m.length := by omega
    have hne : ((l.length : Int) != (m.length : Int)) = false := by simp [hlm]
    have HLM := Lib.hid hlm
    clear hlm
    go_wp2
    go_loopw [5] (fun i wr => ∃ k : Nat, k ≤ l.length ∧ i = .int .i64 k ∧ Below w.heap.size w wr ∧ Hid (∀ j, j < k → iG l j = iG m j)) (fun i _ => l.length - (intOf i).toNat)
    case atStart => exact ⟨0, Nat.zero_le _, rfl, Below.refl _ _, fun j hj => absurd hj (Nat.not_lt_zero _)⟩
    case round =>
      obtain ⟨k, hk, rfl, hbl, hall⟩ := hrel
      by_cases hlt : k < l.length
      · have hlt2 : k < m.length := by omega
        obtain ⟨b, off, rfl, hb, hcell⟩ := HR.out (by omega)
        obtain ⟨b2, off2, rfl, hb2, hcell2⟩ := HS.out (by omega)
        have h0 := (hbl.cell (p := ⟨b, off + k, none⟩) hb).trans (hcell k hlt)
        have h2 := (hbl.cell (p := ⟨b2, off2 + k, none⟩) hb2).trans (hcell2 k hlt2)
        clear hcell hcell2
        cases he : (iG l k != iG m k)
        · have fin : Hid (iG l k = iG m k) := bne_f he
          go_wp2
          go_quiet (fail)
          go_wp2
          go_roundw
          case rel => exact ⟨k+1, by omega, by go_num, below_drewN hbl _, all_snocI hall.out fin.out⟩
          case measure => simp [intOf]; omega
        · have fin : Hid (decide (l = m) = false) := by
            rw [Hid, decide_eq_false]; rintro rfl; simp at he
          go_wp2
          go_quiet (fail)
          go_wp2
          go_ret
          exact ⟨by rw [fin.out]; rfl, below_drewN hbl _⟩
      · go_wp2
        go_ret
        have he : l = m := int_ext HLM.out fun j hj => hall.out j (by omega)
        exact ⟨ret_b (by rw [he]; simp), hbl⟩
  · have hne : ((l.length : Int) != (m.length : Int)) = true := by simp; omega
    have HLM := Lib.hid hlm
    clear hlm
    go_wp2
    go_ret
    exact ⟨ret_b (by rw [decide_eq_false]; intro e; exact HLM.out (by rw [e])), Below.refl _ _⟩

set_option maxHeartbeats 1000000 in
theorem eqIntS_any (l m : List Int) (u v : Value) (w : World) (hu : Rd w 1 u l.length (it l)) (hv : Rd w 1 v m.length (it m)) :
    Calls Try.prog 31 #[u, v] w fun e w' => e = .returned (.bool (decide (l = m))) ∧ Below w.heap.size w w' := by
  have hm := hu.len
  unfold maxLen at hm
  obtain ⟨ao, cap, rfl, _, _, hr⟩ := hu.ints
  obtain ⟨bo, cap', rfl, _, _, hs⟩ := hv.ints
  have HR := Lib.hid hr
  have HS := Lib.hid hs
  clear hr hv hs hu
  go_enter Try.func31, Try.ntmps31
  by_cases hlm : l.length = m.length
  · have hlen : m.length ≤ l.length ∧ l.length ≤ m.length := by omega
    have hne : ((l.length : Int) != (m.length : Int)) = false := by simp [hlm]
    have HLM := Lib.hid hlm
    clear hlm
    go_wp2
    go_loopw [5] (fun i wr => ∃ k : Nat, k ≤ l.length ∧ i = .int .i64 k ∧ Below w.heap.size w wr ∧ Hid (∀ j, j < k → iG l j = iG m j)) (fun i _ => l.length - (intOf i).toNat)
    case atStart => exact ⟨0, Nat.zero_le _, rfl, Below.refl _ _, fun j hj => absurd hj (Nat.not_lt_zero _)⟩
    case round =>
      obtain ⟨k, hk, rfl, hbl, hall⟩ := hrel
      by_cases hlt : k < l.length
      · have hlt2 : k < m.length := by omega
        obtain ⟨b, off, rfl, hb, hcell⟩ := HR.out (by omega)
        obtain ⟨b2, off2, rfl, hb2, hcell2⟩ := HS.out (by omega)
        have h0 := (hbl.cell (p := ⟨b, off + k, none⟩) hb).trans (hcell k hlt)
        have h2 := (hbl.cell (p := ⟨b2, off2 + k, none⟩) hb2).trans (hcell2 k hlt2)
        clear hcell hcell2
        cases he : (iG l k != iG m k)
        · have fin : Hid (iG l k = iG m k) := bne_f he
          go_wp2
          go_quiet (fail)
          go_wp2
          go_roundw
          case rel => exact ⟨k+1, by omega, by go_num, below_drewN hbl _, all_snocI hall.out fin.out⟩
          case measure => simp [intOf]; omega
        · have fin : Hid (decide (l = m) = false) := by
            rw [Hid, decide_eq_false]; rintro rfl; simp at he
          go_wp2
          go_quiet (fail)
          go_wp2
          go_ret
          exact ⟨by rw [fin.out]; rfl, below_drewN hbl _⟩
      · go_wp2
        go_ret
        have he : l = m := int_ext HLM.out fun j hj => hall.out j (by omega)
        exact ⟨ret_b (by rw [he]; simp), hbl⟩
  · have hne : ((l.length : Int) != (m.length : Int)) = true := by simp; omega
    have HLM := Lib.hid hlm
    clear hlm
    go_wp2
    go_ret
    exact ⟨ret_b (by rw [decide_eq_false]; intro e; exact HLM.out (by rw [e])), Below.refl _ _⟩

/-- the sum of the first k numbers -/
def sumK (l : List Int) : Nat → Int
  | 0 => 0
  | k + 1 => sumK l k + iG l k
theorem sumK_bd {l : List Int} (h : ∀ j, j < l.length → 0 ≤ iG l j ∧ iG l j ≤ 1000000) : ∀ k, k ≤ l.length → 0 ≤ sumK l k ∧ sumK l k ≤ 1000000 * k
  | 0, _ => by simp [sumK]
  | k + 1, hk => by
    have := sumK_bd h k (by omega)
    have := h k (by omega)
    unfold sumK
    omega
theorem sumK_succ (l : List Int) (k : Nat) : sumK l (k + 1) = sumK l k + iG l k := rfl

set_option maxHeartbeats 1000000 in
theorem sum_any (l : List Int) (v : Value) (w : World) (hv : Rd w 1 v l.length (it l)) (hl : l.length ≤ 1000000) (hb : ∀ j, j < l.length → 0 ≤ iG l j ∧ iG l j ≤ 1000000) :
    Calls Try.prog 26 #[v] w fun e w' => e = .returned (.int .i64 (sumK l l.length)) ∧ w' = w := by
  obtain ⟨ao, cap, rfl, _, _, hr⟩ := hv.ints
  have HR := Lib.hid hr
  have HB := Lib.hid hb
  clear hr hv hb
  go_enter Try.func26, Try.ntmps26
  go_wp2
  go_loop [3, 4] (fun s i => ∃ k : Nat, k ≤ l.length ∧ i = .int .i64 k ∧ s = .int .i64 (sumK l k)) (fun _ i => l.length - (intOf i).toNat)
  case atStart => exact ⟨0, Nat.zero_le _, rfl, rfl⟩
  case round =>
    obtain ⟨k, hk, rfl, rfl⟩ := hrel
    by_cases hlt : k < l.length
    · obtain ⟨b, off, rfl, hb, hcell⟩ := HR.out (by omega)
      have h0 := hcell k hlt
      have h1 := HB.out k hlt
      obtain ⟨h11, h12⟩ := h1
      have h2 := sumK_bd HB.out k hk
      obtain ⟨h21, h22⟩ := h2
      have fin := Lib.hid (sumK_succ l k)
      clear hcell
      generalize iG l k = x at *
      go_wp2
      go_round
      case rel => exact ⟨k+1, by omega, by go_num, by rw [fin.out]⟩
      case measure => simp [intOf]; omega
    · obtain rfl : k = l.length := by omega
      go_wp2
      go_ret
      exact ⟨rfl, rfl⟩

theorem made_it (n : Nat) : (madeCells #[Value.int .i64 0] (n * 1)).toList = it (List.replicate n 0) := by
  apply List.ext_getElem?
  intro j
  by_cases hj : j < n
  · simp [madeCells, it, hj, Nat.mod_one]
  · rw [List.getElem?_eq_none (by simp [madeCells]; omega), List.getElem?_eq_none (by simp [it]; omega)]

/-- n marks from k on -/
def markL (k : Int) : Nat → List Int
  | 0 => []
  | n + 1 => markL k n ++ [k + n]
theorem markL_len (k : Int) : ∀ n, (markL k n).length = n
  | 0 => rfl
  | n + 1 => by simp [markL, markL_len k n]
theorem markL_get (k : Int) : ∀ n j, j < n → iG (markL k n) j = k + j
  | 0, j, h => absurd h (Nat.not_lt_zero _)
  | n + 1, j, h => by
    unfold markL
    by_cases e : j = n
    · subst e
      have := iG_last (markL k j) (k + j)
      rwa [markL_len] at this
    · rw [iG_left _ _ (by rw [markL_len]; omega)]
      exact markL_get k n j (by omega)
/-- the first j numbers are marks, the others as in l -/
def markI (l : List Int) (k : Int) (j : Nat) : List Int := markL k j ++ l.drop j
theorem markI_succ (l : List Int) (k : Int) (j : Nat) (h : j < l.length) : (markI l k j).set j (k + j) = markI l k (j + 1) := by
  unfold markI
  rw [List.set_append_right _ _ (by rw [markL_len]; exact Nat.le_refl _), markL_len, Nat.sub_self, List.drop_eq_getElem_cons h, List.set_cons_zero, markL, List.append_assoc]
  rfl
theorem markI_end (l : List Int) (k : Int) : markI l k l.length = markL k l.length := by simp [markI]

set_option maxHeartbeats 1000000 in
theorem markIntS_any (base : Nat) (l : List Int) (v : Value) (k : Int) (w : World) (hv : w.ownsRow base 3 1 v l.length (it l)) (hl : l.length ≤ 2000000) (hk : 0 ≤ k) (hk2 : k ≤ 10000000) :
    Calls Try.prog 37 #[v, .int .i64 k] w fun e w' => e = .returned (.int .i64 (k + l.length)) ∧ w'.ownsRow base 3 1 v l.length (it (markL k l.length)) ∧ w.grownBy w' v.ownBlock := by
  obtain ⟨ao, cap, rfl, hg⟩ := owns_shape hv
  have HG := Lib.hid hg
  have HV : Hid (w.ownsRow base 3 1 (.slice ao l.length cap) l.length (it (markI l k 0))) := by rw [Hid]; simpa [markI, markL] using hv
  clear hg hv
  go_enter Try.func37, Try.ntmps37
  go_wp2
  go_loopw [1, 5] (fun c i wr => ∃ j : Nat, j ≤ l.length ∧ i = .int .i64 j ∧ c = .int .i64 (k + j) ∧ Hid (wr.ownsRow base 3 1 (.slice ao l.length cap) l.length (it (markI l k j))) ∧ Hid (w.grownBy wr (Value.slice ao l.length cap).ownBlock)) (fun _ i _ => l.length - (intOf i).toNat)
  case atStart => exact ⟨0, Nat.zero_le _, rfl, by simp, HV, World.grownBy.refl _ _⟩
  case round =>
    clear HV
    obtain ⟨j, hj, rfl, rfl, ho, hgr⟩ := hrel
    by_cases hlt : j < l.length
    · obtain ⟨g, rfl, hgb⟩ := HG.out (by omega)
      obtain ⟨c0, f0⟩ := owns_at1 ho.out j hlt
      have hgw : g < wr.heap.size := (ho.out.lt _ rfl).2
      go_wp2
      go_roundw
      case rel =>
        have e1 := owns_set1 ho.out j (k + j)
        refine ⟨j + 1, by omega, by go_num, by go_num, ?_, grownBy_trans hgr.out e1.2⟩
        have := e1.1
        rwa [markI_succ l k j hlt] at this
      case measure => simp [intOf]; omega
    · obtain rfl : j = l.length := by omega
      go_wp2
      go_ret
      exact ⟨rfl, by have := ho.out; rwa [markI_end] at this, hgr.out⟩

set_option maxHeartbeats 1000000 in
theorem heldIntS_any (l : List Int) (v : Value) (k : Int) (w : World) (hv : Rd w 1 v l.length (it l)) (hl : l.length ≤ 2000000) (hk : 0 ≤ k) (hk2 : k ≤ 10000000) (hm : l = markL k l.length) :
    Calls Try.prog 38 #[v, .int .i64 k] w fun e w' => e = .returned (.int .i64 (k + l.length)) ∧ w = w' := by
  obtain ⟨ao, cap, rfl, _, _, hr⟩ := hv.ints
  have HR := Lib.hid hr
  have HM : Hid (∀ j, j < l.length → iG l j = k + j) := fun j hj => by have := markL_get k l.length j hj; rwa [← hm] at this
  clear hr hv hm
  go_enter Try.func38, Try.ntmps38
  go_wp2
  go_loop [1, 5] (fun c i => ∃ j : Nat, j ≤ l.length ∧ i = .int .i64 j ∧ c = .int .i64 (k + j)) (fun _ i => l.length - (intOf i).toNat)
  case atStart => exact ⟨0, Nat.zero_le _, rfl, by simp⟩
  case round =>
    obtain ⟨j, hj, rfl, rfl⟩ := hrel
    by_cases hlt : j < l.length
    · obtain ⟨b, off, rfl, hb, hcell⟩ := HR.out (by omega)
      have c0 := hcell j hlt
      rw [HM.out j hlt] at c0
      clear hcell
      go_wp2
      go_round
      case rel => exact ⟨j + 1, by omega, by go_num, by go_num⟩
      case measure => simp [intOf]; omega
    · obtain rfl : j = l.length := by omega
      go_wp2
      go_ret
      exact ⟨rfl, rfl⟩

end Go.Proofs.Ytomapdedajdkkab
