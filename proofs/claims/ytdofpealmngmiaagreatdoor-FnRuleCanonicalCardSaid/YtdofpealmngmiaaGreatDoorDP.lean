/- Walks: the drawn texts of rules. Conditions: none. -/
import Derived.Test.YtdofpealmngmiaaGreatDoorPT
import Derived.Test.YtdofpealmngmiaaGreatDoorRL
import Derived.Deep.RegionHeld3
namespace Go.Proofs.YtdofpealmngmiaaGreatDoor
open Go.RowKit

set_option maxHeartbeats 1000000 in
theorem of_gen (R u g : Nat) (l : List (List UInt8)) (W : World) (h : Rdr W R u) (hu : u ≤ 1099511627776) (hg : g ≠ R) (hsz : g < W.heap.size) (hl : 0 < l.length) (hl2 : l.length ≤ 1000000)
    (hc : ∀ (k : Nat) x, l[k]? = some x → W.cell? ⟨g, k, none⟩ = some (.string ⟨x.toArray⟩)) :
    Calls Tryz.prog 37 #[.pointer (some ⟨R, 0, none⟩), .slice (some ⟨g, 0, none⟩) l.length l.length] W fun e w' => ∃ x, x ∈ l ∧ e = .returned (.string ⟨x.toArray⟩) ∧ RdrStep W R (u + 1) w' := by
  have HC := Lib.hid hc
  clear hc
  have hl3 : 1 ≤ (l.length : Int) := by omega
  go_enter Tryz.func37, Tryz.ntmps37
  go_wp2_with fail
  refine (pick_any R _ _ _ h hu).mono ?_
  rintro e w2 ⟨m, rfl, h0, h1, hs2⟩
  have hlt := h1 hl3
  obtain ⟨k, rfl⟩ := Int.eq_ofNat_of_zero_le h0
  have hk : k < l.length := by omega
  obtain ⟨x, hx⟩ : ∃ x, l[k]? = some x := ⟨_, List.getElem?_eq_getElem hk⟩
  have hm := List.mem_of_getElem? hx
  have g0 : w2.cell? ⟨g, k, none⟩ = some (.string ⟨x.toArray⟩) := (World.cell?_of_block (a := ⟨g, k, none⟩) (hs2.2.block g hsz (by simp; omega))).trans (HC.out k x hx)
  clear h1 h0 hlt hx
  go_wp2
  go_ret
  exact ⟨x, hm, rfl, hs2⟩

/-- a literal list of texts in a new block -/
theorem lit_texts (w : World) (l : List (List UInt8)) (t : Nat) : ∀ (k : Nat) x, l[k]? = some x → (w.alloc (.cells (sw l).toArray t)).cell? ⟨w.heap.size, k, none⟩ = some (.string ⟨x.toArray⟩) := fun k x hx => by
  rw [cell_of_row _ w.heap.size k _ _ _ (heap_alloc_new w _), List.getElem?_toArray]
  unfold sw
  rw [List.getElem?_map, hx]
  rfl

def mutA : List (List UInt8) := [[48], [49], [32], [45], [99], [97], [112], [57]]
def mutB : List (List UInt8) := [[48], [32], [99, 97, 112], [32, 49], [120], [45, 53]]
theorem mutA_len {x : List UInt8} (h : x ∈ mutA) : x.length ≤ 10 := by
  have : mutA.all (fun x => decide (x.length ≤ 10)) = true := by decide
  simpa using List.all_eq_true.1 this x h
theorem mutB_len {x : List UInt8} (h : x ∈ mutB) : x.length ≤ 10 := by
  have : mutB.all (fun x => decide (x.length ≤ 10)) = true := by decide
  simpa using List.all_eq_true.1 this x h

set_option maxRecDepth 100000 in
set_option maxHeartbeats 4000000 in
theorem mutate_any (R u : Nat) (S : List UInt8) (w : World) (h : Rdr w R u) (hu : u ≤ 99999999999) (hS : S.length ≤ 1000000) :
    Calls Tryz.prog 14 #[.pointer (some ⟨R, 0, none⟩), .string ⟨S.toArray⟩] w fun e w' => ∃ T : List UInt8, e = .returned (.string ⟨T.toArray⟩) ∧ T.length ≤ 1000010 ∧ RdrStep w R (u + 3) w' := by
  have hs : (⟨S.toArray⟩ : ByteArray).size = S.length := by simp [ByteArray.size]
  have hR := h.lt
  have hw0 : IntKind.i64.wrap ((S.length : Int) + 1) = (S.length : Int) + 1 := IntWalk.i64_in _ (by omega)
  go_enter Tryz.func14, Tryz.ntmps14
  go_wp2_with fail
  refine (pick_any R _ _ _ h (by omega)).mono ?_
  rintro e w1 ⟨m, rfl, h0, h1, s1⟩
  have hm := h1 (by omega)
  obtain ⟨k, rfl⟩ := Int.eq_ofNat_of_zero_le h0
  have hk : k ≤ S.length := by omega
  clear h1 h0 hm
  go_wp2_with fail
  refine (pick_any R _ _ _ s1.1 (by omega)).mono ?_
  rintro e w2 ⟨c, rfl, c0, c1, s2⟩
  have hc := c1 (by omega)
  have S2 := s1.trans s2
  clear c1 s1 s2
  have e1 : ((⟨S.toArray⟩ : ByteArray).extract 0 k) = ⟨(S.take k).toArray⟩ := by rw [ext_take, List.drop_zero]
  rcases (by omega : c = 0 ∨ c = 1 ∨ c = 2 ∨ 3 ≤ c) with rfl | rfl | rfl | hc3
  · by_cases hkl : k < S.length
    · have e2 : ((⟨S.toArray⟩ : ByteArray).extract (k + 1) S.length) = ⟨(S.drop (k + 1)).toArray⟩ := by rw [ext_take, List.take_length]
      have hw1 : IntKind.i64.wrap ((k : Int) + 1) = (k : Int) + 1 := IntWalk.i64_in _ (by omega)
      have ha1 : ∀ x : List UInt8, x.length ≤ 10 → ∀ W : World, (Op.stringOp .add ((⟨S.toArray⟩ : ByteArray).extract 0 k) ⟨x.toArray⟩).run Tryz.prog W = .ok (.string ⟨(S.take k ++ x).toArray⟩) W := fun x hx W => by
        rw [e1]
        exact add_run W _ _ (by rw [List.length_take]; omega)
      have ha2 : ∀ x : List UInt8, x.length ≤ 10 → ∀ W : World, (Op.stringOp .add ⟨(S.take k ++ x).toArray⟩ ((⟨S.toArray⟩ : ByteArray).extract (k + 1) S.length)).run Tryz.prog W = .ok (.string ⟨(S.take k ++ x ++ S.drop (k + 1)).toArray⟩) W := fun x hx W => by
        rw [e2]
        exact add_run W _ _ (by rw [List.length_append, List.length_take, List.length_drop]; omega)
      have HA1 := Lib.hid ha1
      have HA2 := Lib.hid ha2
      have z2 : R < w2.heap.size := S2.1.lt
      have b1 : (0 : Int) ≤ (k : Int) + 1 := by omega
      have b2 : (k : Int) + 1 ≤ (S.length : Int) := by omega
      have b3 : (k : Int) ≤ (S.length : Int) := by omega
      have b4 : ((k : Int) + 1).toNat = k + 1 := by omega
      clear ha1 ha2 e1 e2
      go_upto_region 5 with fail
      go_region_held3 (fun _ => True) (exact trivial)
        ((first
          | (go_at_call 37; refine (of_gen R _ w2.heap.size mutA _ (((RdrStep.refl S2.1).alloc (.cells (sw mutA).toArray 9)).drew).1 (by omega) (by omega) (by simp) (by decide) (by decide) (lit_texts w2 mutA 9)).mono ?_; rintro e w3 ⟨x, hx, rfl, s3⟩; have x1 := HA1.out x (mutA_len hx); have x2 := HA2.out x (mutA_len hx))))
      all_goals go_wp2
      all_goals go_ret
      all_goals exact ⟨S.take k ++ (x ++ S.drop (k + 1)), rfl, by have := mutA_len hx; simp only [List.length_append, List.length_take, List.length_drop]; omega, ((S2.alloc _).drew.trans s3).mono (by omega)⟩
    · go_wp2
      go_ret
      exact ⟨S, rfl, by omega, S2.mono (by omega)⟩
  · have e2 := Lib.hid e1
    clear e1
    have b3 : (k : Int) ≤ (S.length : Int) := by omega
    go_wp2
    go_ret
    exact ⟨S.take k, by rw [← e2.out]; rfl, by rw [List.length_take]; omega, S2.mono (by omega)⟩
  · have ha : ∀ x : List UInt8, x.length ≤ 10 → ∀ W : World, (Op.stringOp .add ⟨S.toArray⟩ ⟨x.toArray⟩).run Tryz.prog W = .ok (.string ⟨(S ++ x).toArray⟩) W := fun x hx W => add_run W _ _ (by omega)
    have HA := Lib.hid ha
    have z2 : R < w2.heap.size := S2.1.lt
    clear ha e1
    go_wp2_with fail
    refine (of_gen R _ w2.heap.size mutB _ ((RdrStep.refl S2.1).alloc (.cells (sw mutB).toArray 9)).1 (by omega) (by omega) (by simp) (by decide) (by decide) (lit_texts w2 mutB 9)).mono ?_
    rintro e w3 ⟨x, hx, rfl, s3⟩
    have x1 := HA.out x (mutB_len hx)
    go_wp2
    go_ret
    exact ⟨S ++ x, rfl, by have := mutB_len hx; rw [List.length_append]; omega, ((S2.alloc _).trans s3).mono (by omega)⟩
  · have n0 : (c == 0) = false := by rw [beq_eq_false_iff_ne]; omega
    have n1 : (c == 1) = false := by rw [beq_eq_false_iff_ne]; omega
    have n2 : (c == 2) = false := by rw [beq_eq_false_iff_ne]; omega
    go_wp2
    go_ret
    exact ⟨S, rfl, by omega, S2.mono (by omega)⟩

end Go.Proofs.YtdofpealmngmiaaGreatDoor
