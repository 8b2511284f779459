/- Joined texts: Walks: the drawn texts of rules. Walks: the generators of rules. Laws: the length of a rule's text; a copy of a row of texts. Conditions: none. -/
import Derived.Test.YtijofgaekmahkaaGreatDoorM26
import Derived.Deep.RegionHeld3
import Derived.Laws.AppendOwnNone
namespace Go.Proofs.YtijofgaekmahkaaGreatDoor
open Go.RowKit
set_option maxHeartbeats 1000000 in
theorem of_gen (R u g : Nat) (l : List (List UInt8)) (W : World) (h : Rdr W R u) (hu : u ≤ 1099511627776) (hg : g ≠ R) (hsz : g < W.heap.size) (hl : 0 < l.length) (hl2 : l.length ≤ 1000000)
   (hc : ∀ (k : Nat) x, l[k]? = some x → W.cell? ⟨g, k, none⟩ = some (.string ⟨x.toArray⟩)) :
   Calls Tryz.prog 20 #[.pointer (some ⟨R, 0, none⟩), .slice (some ⟨g, 0, none⟩) l.length l.length] W fun e w' => ∃ x, x ∈ l ∧ e = .returned (.string ⟨x.toArray⟩) ∧ RdrStep W R (u + 1) w' := by
 have HC := Lib.hid hc
 clear hc
 have hl3 : 1 ≤ (l.length : Int) := by omega
 go_enter Tryz.func20, Tryz.ntmps20
 go_wp2_with fail
 refine (pick_any R _ _ _ h hu).mono ?_
 rintro e w2 ⟨m, rfl, h0, h1, hs2⟩
 have hlt := h1 hl3
 obtain ⟨k, rfl⟩ := Int.eq_ofNat_of_zero_le h0
 have hk : k < l.length := by omega
 obtain ⟨x, hx⟩ : ∃ x, l[k]? = some x := ⟨_, List.getElem?_eq_getElem hk⟩
 have hm := List.mem_of_getElem? hx
 have g0 : w2.cell? ⟨g, k, none⟩ = some (.string ⟨x.toArray⟩) := (World.cell?_of_block (a := ⟨g, k, none⟩) (hs2.2.block g hsz (by simp; omega))).trans (HC.out k x hx)
 clear h1 h0 hlt hx
 go_wp2
 go_ret
 exact ⟨x, hm, rfl, hs2⟩
theorem lit_texts (w : World) (l : List (List UInt8)) (t : Nat) : ∀ (k : Nat) x, l[k]? = some x → (w.alloc (.cells (sw l).toArray t)).cell? ⟨w.heap.size, k, none⟩ = some (.string ⟨x.toArray⟩) := fun k x hx => by
 rw [cell_of_row _ w.heap.size k _ _ _ (heap_alloc_new w _), List.getElem?_toArray]
 unfold sw
 rw [List.getElem?_map, hx]
 rfl
def mutA : List (List UInt8) := [[48], [49], [32], [45], [99], [97], [112], [57]]
def mutB : List (List UInt8) := [[48], [32], [99, 97, 112], [32, 49], [120], [45, 53]]
theorem mutA_len {x : List UInt8} (h : x ∈ mutA) : x.length ≤ 10 := by
 have : mutA.all (fun x => decide (x.length ≤ 10)) = true := by decide
 simpa using List.all_eq_true.1 this x h
theorem mutB_len {x : List UInt8} (h : x ∈ mutB) : x.length ≤ 10 := by
 have : mutB.all (fun x => decide (x.length ≤ 10)) = true := by decide
 simpa using List.all_eq_true.1 this x h
set_option maxRecDepth 100000 in
set_option maxHeartbeats 4000000 in
theorem mutate_any (R u : Nat) (S : List UInt8) (w : World) (h : Rdr w R u) (hu : u ≤ 99999999999) (hS : S.length ≤ 1000000) :
   Calls Tryz.prog 21 #[.pointer (some ⟨R, 0, none⟩), .string ⟨S.toArray⟩] w fun e w' => ∃ T : List UInt8, e = .returned (.string ⟨T.toArray⟩) ∧ T.length ≤ 1000010 ∧ RdrStep w R (u + 3) w' := by
 have hs : (⟨S.toArray⟩ : ByteArray).size = S.length := by simp [ByteArray.size]
 have hR := h.lt
 have hw0 : IntKind.i64.wrap ((S.length : Int) + 1) = (S.length : Int) + 1 := IntWalk.i64_in _ (by omega)
 go_enter Tryz.func21, Tryz.ntmps21
 go_wp2_with fail
 refine (pick_any R _ _ _ h (by omega)).mono ?_
 rintro e w1 ⟨m, rfl, h0, h1, s1⟩
 have hm := h1 (by omega)
 obtain ⟨k, rfl⟩ := Int.eq_ofNat_of_zero_le h0
 have hk : k ≤ S.length := by omega
 clear h1 h0 hm
 go_wp2_with fail
 refine (pick_any R _ _ _ s1.1 (by omega)).mono ?_
 rintro e w2 ⟨c, rfl, c0, c1, s2⟩
 have hc := c1 (by omega)
 have S2 := s1.trans s2
 clear c1 s1 s2
 have e1 : ((⟨S.toArray⟩ : ByteArray).extract 0 k) = ⟨(S.take k).toArray⟩ := by rw [ext_take, List.drop_zero]
 rcases (by omega : c = 0 ∨ c = 1 ∨ c = 2 ∨ 3 ≤ c) with rfl | rfl | rfl | hc3
 · by_cases hkl : k < S.length
   · have e2 : ((⟨S.toArray⟩ : ByteArray).extract (k + 1) S.length) = ⟨(S.drop (k + 1)).toArray⟩ := by rw [ext_take, List.take_length]
     have hw1 : IntKind.i64.wrap ((k : Int) + 1) = (k : Int) + 1 := IntWalk.i64_in _ (by omega)
     have ha1 : ∀ x : List UInt8, x.length ≤ 10 → ∀ W : World, (Op.stringOp .add ((⟨S.toArray⟩ : ByteArray).extract 0 k) ⟨x.toArray⟩).run Tryz.prog W = .ok (.string ⟨(S.take k ++ x).toArray⟩) W := fun x hx W => by
       rw [e1]
       exact add_run W _ _ (by rw [List.length_take]; omega)
     have ha2 : ∀ x : List UInt8, x.length ≤ 10 → ∀ W : World, (Op.stringOp .add ⟨(S.take k ++ x).toArray⟩ ((⟨S.toArray⟩ : ByteArray).extract (k + 1) S.length)).run Tryz.prog W = .ok (.string ⟨(S.take k ++ x ++ S.drop (k + 1)).toArray⟩) W := fun x hx W => by
       rw [e2]
       exact add_run W _ _ (by rw [List.length_append, List.length_take, List.length_drop]; omega)
     have HA1 := Lib.hid ha1
     have HA2 := Lib.hid ha2
     have z2 : R < w2.heap.size := S2.1.lt
     have b1 : (0 : Int) ≤ (k : Int) + 1 := by omega
     have b2 : (k : Int) + 1 ≤ (S.length : Int) := by omega
     have b3 : (k : Int) ≤ (S.length : Int) := by omega
     have b4 : ((k : Int) + 1).toNat = k + 1 := by omega
     clear ha1 ha2 e1 e2
     go_upto_region 5 with fail
     go_region_held3 (fun _ => True) (exact trivial)
       ((first
         | (go_at_call 20; refine (of_gen R _ w2.heap.size mutA _ (((RdrStep.refl S2.1).alloc (.cells (sw mutA).toArray 9)).drew).1 (by omega) (by omega) (by simp) (by decide) (by decide) (lit_texts w2 mutA 9)).mono ?_; rintro e w3 ⟨x, hx, rfl, s3⟩; have x1 := HA1.out x (mutA_len hx); have x2 := HA2.out x (mutA_len hx))))
     all_goals go_wp2
     all_goals go_ret
     all_goals exact ⟨S.take k ++ (x ++ S.drop (k + 1)), rfl, by have := mutA_len hx; simp only [List.length_append, List.length_take, List.length_drop]; omega, ((S2.alloc _).drew.trans s3).mono (by omega)⟩
   · go_wp2
     go_ret
     exact ⟨S, rfl, by omega, S2.mono (by omega)⟩
 · have e2 := Lib.hid e1
   clear e1
   have b3 : (k : Int) ≤ (S.length : Int) := by omega
   go_wp2
   go_ret
   exact ⟨S.take k, by rw [← e2.out]; rfl, by rw [List.length_take]; omega, S2.mono (by omega)⟩
 · have ha : ∀ x : List UInt8, x.length ≤ 10 → ∀ W : World, (Op.stringOp .add ⟨S.toArray⟩ ⟨x.toArray⟩).run Tryz.prog W = .ok (.string ⟨(S ++ x).toArray⟩) W := fun x hx W => add_run W _ _ (by omega)
   have HA := Lib.hid ha
   have z2 : R < w2.heap.size := S2.1.lt
   clear ha e1
   go_wp2_with fail
   refine (of_gen R _ w2.heap.size mutB _ ((RdrStep.refl S2.1).alloc (.cells (sw mutB).toArray 9)).1 (by omega) (by omega) (by simp) (by decide) (by decide) (lit_texts w2 mutB 9)).mono ?_
   rintro e w3 ⟨x, hx, rfl, s3⟩
   have x1 := HA.out x (mutB_len hx)
   go_wp2
   go_ret
   exact ⟨S ++ x, rfl, by have := mutB_len hx; rw [List.length_append]; omega, ((S2.alloc _).trans s3).mono (by omega)⟩
 · have n0 : (c == 0) = false := by rw [beq_eq_false_iff_ne]; omega
   have n1 : (c == 1) = false := by rw [beq_eq_false_iff_ne]; omega
   have n2 : (c == 2) = false := by rw [beq_eq_false_iff_ne]; omega
   go_wp2
   go_ret
   exact ⟨S, rfl, by omega, S2.mono (by omega)⟩
end Go.Proofs.YtijofgaekmahkaaGreatDoor

namespace Go.Proofs.YtijofgaekmahkaaGreatDoor
open Go.RowKit
def RuPost (n : Nat) (w : World) (R u : Nat) (e : Ending) (w' : World) : Prop :=
 ∃ (r : Rl) (v : Value), e = .returned (ruV r v) ∧ w'.ownsRow w.heap.size 38 2 v r.counts.length (pr r.counts) ∧ r.counts.length ≤ 4 ∧ RdrStep w R (u + n) w'
set_option maxHeartbeats 4000000 in
set_option maxRecDepth 100000 in
theorem someRule_any (R u : Nat) (num : Int) (w : World) (h : Rdr w R u) (hu : u ≤ 999999996000) :
   Calls Tryz.prog 19 #[.pointer (some ⟨R, 0, none⟩), .int .i64 num] w (RuPost 16 w R u) := by
 have hR := h.lt
 have S0 := (RdrStep.refl h).alloc (.cells #[.int .i64 0, .int .i64 0, .int .i64 0, .int .i64 0, .int .i64 0, .int .i64 0, .int .i64 0, .int .i64 0, .int .i64 0, .slice none 0 0, .int .i64 0] 43)
 have k0 := heap_alloc_new w (.cells #[.int .i64 0, .int .i64 0, .int .i64 0, .int .i64 0, .int .i64 0, .int .i64 0, .int .i64 0, .int .i64 0, .int .i64 0, .slice none 0 0, .int .i64 0] 43)
 have K0 := Lib.hid k0
 clear k0
 go_enter Tryz.func19, Tryz.ntmps19
 go_wp2_with fail
 refine (pick_any R _ _ _ S0.1 (by omega)).mono ?_
 rintro e w1 ⟨l0, rfl, hl0, jl0, s1⟩
 have il0 := jl0 (by omega)
 have k1 := s1.row K0.out (by omega)
 have S1 := S0.trans s1
 clear jl0 s1 S0
 go_wp2_with fail
 refine (pick_any R _ _ _ S1.1 (by omega)).mono ?_
 rintro e w2 ⟨k0, rfl, hk0, jk0, s2⟩
 have ik0 := jk0 (by omega)
 have k2 := s2.row k1 (by omega)
 have S2 := S1.trans s2
 clear jk0 s2 S1
 go_wp2_with fail
 refine (pick_any R _ _ _ S2.1 (by omega)).mono ?_
 rintro e w3 ⟨g0, rfl, hg0, jg0, s3⟩
 have ig0 := jg0 (by omega)
 have k3 := s3.row k2 (by omega)
 have S3 := S2.trans s3
 clear jg0 s3 S2
 have hw1 : IntKind.i64.wrap (g0 - 1) = g0 - 1 := IntWalk.i64_in _ (by omega)
 go_wp2_with fail
 refine (pick_any R _ _ _ S3.1 (by omega)).mono ?_
 rintro e w4 ⟨d0, rfl, hd0, jd0, s4⟩
 have id0 := jd0 (by omega)
 have k4 := s4.row k3 (by omega)
 have S4 := S3.trans s4
 clear jd0 s4 S3
 have hw2 : IntKind.i64.wrap (1 + d0) = 1 + d0 := IntWalk.i64_in _ (by omega)
 go_wp2_with fail
 refine (someGuard_any R _ _ S4.1 (by omega)).mono ?_
 rintro e w5 ⟨lo, hi, cp, g, a0, b0, a1, b1, a2, b2, rfl, hg, f5, s5⟩
 have z4 : w.heap.size < w4.heap.size := (Array.getElem?_eq_some_iff.1 k4).1
 have k5 := s5.row k4 (by omega)
 have S5 := S4.trans s5
 have gl : g < w5.heap.size := (Array.getElem?_eq_some_iff.1 f5).1
 have al := heap_alloc_new w5 (.cells #[.int .i64 num, .int .i64 l0, .int .i64 k0, .int .i64 (g0 - 1), .int .i64 (1 + d0), .int .i64 0, .int .i64 0, .int .i64 lo, .int .i64 hi, .slice (some ⟨g, 0, none⟩) 3 3, .int .i64 cp] 43)
 have nG : w5.heap.size ≠ R := Nat.ne_of_gt S5.1.lt
 have nF : g ≠ R := by omega
 have nK : w.heap.size ≠ R := by omega
 have nKF : w.heap.size ≠ g := by omega
 have nKG : w.heap.size ≠ w5.heap.size := by omega
 have nFG : g ≠ w5.heap.size := by omega
 have hg0 : w.heap.size ≤ g := by omega
 have K6 := Lib.hid (heap_keep (x := .cells #[.int .i64 num, .int .i64 l0, .int .i64 k0, .int .i64 (g0 - 1), .int .i64 (1 + d0), .int .i64 0, .int .i64 0, .int .i64 lo, .int .i64 hi, .slice (some ⟨g, 0, none⟩) 3 3, .int .i64 cp] 43) k5)
 have F6 := Lib.hid (heap_keep (x := .cells #[.int .i64 num, .int .i64 l0, .int .i64 k0, .int .i64 (g0 - 1), .int .i64 (1 + d0), .int .i64 0, .int .i64 0, .int .i64 lo, .int .i64 hi, .slice (some ⟨g, 0, none⟩) 3 3, .int .i64 cp] 43) f5)
 have G6 := Lib.hid al
 have S6 := S5.alloc (.cells #[.int .i64 num, .int .i64 l0, .int .i64 k0, .int .i64 (g0 - 1), .int .i64 (1 + d0), .int .i64 0, .int .i64 0, .int .i64 lo, .int .i64 hi, .slice (some ⟨g, 0, none⟩) 3 3, .int .i64 cp] 43)
 have kds : d0 = 0 ∨ d0 = 1 ∨ d0 = 2 := by omega
 have c6 := cell_of_row _ _ 4 _ _ _ al
 clear K0 k1 k2 k3 k4 k5 f5 al s5 S4 S5 hg
 rcases kds with rfl | rfl | rfl
 · go_wp2_with fail
   have c1 := one_lit R _ [100, 50, 333, 1000, 1] (w5.alloc (.cells #[.int .i64 num, .int .i64 l0, .int .i64 k0, .int .i64 (g0 - 1), .int .i64 1, .int .i64 0, .int .i64 0, .int .i64 lo, .int .i64 hi, .slice (some ⟨g, 0, none⟩) 3 3, .int .i64 cp] 43)) 3 S6.1 (by omega) (by simp) (by simp)
   rw [World.size_alloc] at c1
   refine c1.mono ?_
   clear c1
   rintro e w7 ⟨a, _, rfl, s7⟩
   clear c6
   have K7 := Lib.hid (s7.row K6.out nK)
   have F7 := Lib.hid (s7.row F6.out nF)
   have G7 := Lib.hid (s7.row G6.out nG)
   have S7 := S6.trans s7
   clear K6 F6 G6 S6 s7
   have cg := cell_of_row w7 _ 5 _ _ _ G7.out
   have pg := frozen_of_row w7 _ 5 _ _ G7.out
   go_upto_region 9 with fail
   obtain ⟨w8, hW⟩ : ∃ W, W = w7.setCell ⟨w5.heap.size, 5, none⟩ (.int .i64 a) := ⟨_, rfl⟩
   rw [← hW]
   have K8 : Hid (w8.heap[w.heap.size]? = some (.cells #[.int .i64 0, .int .i64 0, .int .i64 0, .int .i64 0, .int .i64 0, .int .i64 0, .int .i64 0, .int .i64 0, .int .i64 0, .slice none 0 0, .int .i64 0] 43 (0, 0))) := by rw [hW]; exact heap_set K7.out nKG
   have F8 : Hid (w8.heap[g]? = some (.cells #[.int .i64 a0, .int .i64 b0, .int .i64 a1, .int .i64 b1, .int .i64 a2, .int .i64 b2] 38 (0, 0))) := by rw [hW]; exact heap_set F7.out nFG
   have G8 : Hid (w8.heap[w5.heap.size]? = some (.cells #[.int .i64 num, .int .i64 l0, .int .i64 k0, .int .i64 (g0 - 1), .int .i64 1, .int .i64 a, .int .i64 0, .int .i64 lo, .int .i64 hi, .slice (some ⟨g, 0, none⟩) 3 3, .int .i64 cp] 43 (0, 0))) := by rw [hW]; exact Joins.block_setCell G7.out _
   have S8 : RdrStep w R (u + 11) w8 := by rw [hW]; exact S7.set hR (by omega) _
   clear hW K7 F7 G7 S7 cg pg
   go_wp2_with fail
   refine (pick_any R _ _ _ S8.1 (by omega)).mono ?_
   rintro e w9 ⟨m, rfl, _, _, s9⟩
   have K9 := Lib.hid (s9.row K8.out nK)
   have F9 := Lib.hid (s9.row F8.out nF)
   have G9 := Lib.hid (s9.row G8.out nG)
   have S9 := S8.trans s9
   clear K8 F8 G8 S8 s9
   cases hm : (m == 0)
   · go_upto_region 11 with fail
     refine wp_copy (t := 47) (pd := 4) (ps := 5) (ty := 43) rfl rfl rfl rfl rfl w5.heap.size w.heap.size #[.int .i64 num, .int .i64 l0, .int .i64 k0, .int .i64 (g0 - 1), .int .i64 1, .int .i64 a, .int .i64 0, .int .i64 lo, .int .i64 hi, .slice (some ⟨g, 0, none⟩) 3 3, .int .i64 cp] #[.int .i64 0, .int .i64 0, .int .i64 0, .int .i64 0, .int .i64 0, .int .i64 0, .int .i64 0, .int .i64 0, .int .i64 0, .slice none 0 0, .int .i64 0] 43 43 11 row43 rfl rfl rfl G9.out rfl K9.out rfl (by simp [Value.oneCell']) ?_
     go_wp2
     refine bodyPost_ret (results_row (p := 4) (ty := 43) rfl row43 _ _ w.heap.size 43 #[.int .i64 num, .int .i64 l0, .int .i64 k0, .int .i64 (g0 - 1), .int .i64 1, .int .i64 a, .int .i64 0, .int .i64 lo, .int .i64 hi, .slice (some ⟨g, 0, none⟩) 3 3, .int .i64 cp] rfl rfl (setRow_heap _ _ _ _ _ _ K9.out)) rfl ?_
     exact ⟨⟨num, l0, k0, (g0 - 1), 1, a, 0, lo, hi, [(a0, b0), (a1, b1), (a2, b2)], cp⟩, _, rfl, six_owns ((setRow_other _ _ _ _ (Ne.symm nKF)).trans F9.out) hg0, by simp, (S9.setRow hR (Nat.le_refl _) _).mono (by omega)⟩
   · go_wp2_with fail
     refine (one_lit R _ [50, 200, 1000, 7] w9 3 S9.1 (by omega) (by simp) (by simp)).mono ?_
     rintro e w10 ⟨b, _, rfl, s10⟩
     have K10 := Lib.hid (s10.row K9.out nK)
     have F10 := Lib.hid (s10.row F9.out nF)
     have G10 := Lib.hid (s10.row G9.out nG)
     have S10 := S9.trans s10
     clear K9 F9 G9 S9 s10
     have cg := cell_of_row w10 _ 6 _ _ _ G10.out
     have pg := frozen_of_row w10 _ 6 _ _ G10.out
     go_upto_region 11 with fail
     obtain ⟨w11, hW⟩ : ∃ W, W = w10.setCell ⟨w5.heap.size, 6, none⟩ (.int .i64 b) := ⟨_, rfl⟩
     rw [← hW]
     have K11 : Hid (w11.heap[w.heap.size]? = some (.cells #[.int .i64 0, .int .i64 0, .int .i64 0, .int .i64 0, .int .i64 0, .int .i64 0, .int .i64 0, .int .i64 0, .int .i64 0, .slice none 0 0, .int .i64 0] 43 (0, 0))) := by rw [hW]; exact heap_set K10.out nKG
     have F11 : Hid (w11.heap[g]? = some (.cells #[.int .i64 a0, .int .i64 b0, .int .i64 a1, .int .i64 b1, .int .i64 a2, .int .i64 b2] 38 (0, 0))) := by rw [hW]; exact heap_set F10.out nFG
     have G11 : Hid (w11.heap[w5.heap.size]? = some (.cells #[.int .i64 num, .int .i64 l0, .int .i64 k0, .int .i64 (g0 - 1), .int .i64 1, .int .i64 a, .int .i64 b, .int .i64 lo, .int .i64 hi, .slice (some ⟨g, 0, none⟩) 3 3, .int .i64 cp] 43 (0, 0))) := by rw [hW]; exact Joins.block_setCell G10.out _
     have S11 : RdrStep w R (u + 13) w11 := by rw [hW]; exact S10.set hR (by omega) _
     clear hW K10 F10 G10 S10 cg pg
     refine wp_copy (t := 47) (pd := 4) (ps := 5) (ty := 43) rfl rfl rfl rfl rfl w5.heap.size w.heap.size #[.int .i64 num, .int .i64 l0, .int .i64 k0, .int .i64 (g0 - 1), .int .i64 1, .int .i64 a, .int .i64 b, .int .i64 lo, .int .i64 hi, .slice (some ⟨g, 0, none⟩) 3 3, .int .i64 cp] #[.int .i64 0, .int .i64 0, .int .i64 0, .int .i64 0, .int .i64 0, .int .i64 0, .int .i64 0, .int .i64 0, .int .i64 0, .slice none 0 0, .int .i64 0] 43 43 11 row43 rfl rfl rfl G11.out rfl K11.out rfl (by simp [Value.oneCell']) ?_
     go_wp2
     refine bodyPost_ret (results_row (p := 4) (ty := 43) rfl row43 _ _ w.heap.size 43 #[.int .i64 num, .int .i64 l0, .int .i64 k0, .int .i64 (g0 - 1), .int .i64 1, .int .i64 a, .int .i64 b, .int .i64 lo, .int .i64 hi, .slice (some ⟨g, 0, none⟩) 3 3, .int .i64 cp] rfl rfl (setRow_heap _ _ _ _ _ _ K11.out)) rfl ?_
     exact ⟨⟨num, l0, k0, (g0 - 1), 1, a, b, lo, hi, [(a0, b0), (a1, b1), (a2, b2)], cp⟩, _, rfl, six_owns ((setRow_other _ _ _ _ (Ne.symm nKF)).trans F11.out) hg0, by simp, (S11.setRow hR (Nat.le_refl _) _).mono (by omega)⟩
 · go_wp2_with fail
   have c1 := one_lit R _ [100, 500, 1, 10000, 77] (w5.alloc (.cells #[.int .i64 num, .int .i64 l0, .int .i64 k0, .int .i64 (g0 - 1), .int .i64 2, .int .i64 0, .int .i64 0, .int .i64 lo, .int .i64 hi, .slice (some ⟨g, 0, none⟩) 3 3, .int .i64 cp] 43)) 3 S6.1 (by omega) (by simp) (by simp)
   rw [World.size_alloc] at c1
   refine c1.mono ?_
   clear c1
   rintro e w7 ⟨a, _, rfl, s7⟩
   clear c6
   have K7 := Lib.hid (s7.row K6.out nK)
   have F7 := Lib.hid (s7.row F6.out nF)
   have G7 := Lib.hid (s7.row G6.out nG)
   have S7 := S6.trans s7
   clear K6 F6 G6 S6 s7
   have cg := cell_of_row w7 _ 5 _ _ _ G7.out
   have pg := frozen_of_row w7 _ 5 _ _ G7.out
   go_upto_region 9 with fail
   obtain ⟨w8, hW⟩ : ∃ W, W = w7.setCell ⟨w5.heap.size, 5, none⟩ (.int .i64 a) := ⟨_, rfl⟩
   rw [← hW]
   have K8 : Hid (w8.heap[w.heap.size]? = some (.cells #[.int .i64 0, .int .i64 0, .int .i64 0, .int .i64 0, .int .i64 0, .int .i64 0, .int .i64 0, .int .i64 0, .int .i64 0, .slice none 0 0, .int .i64 0] 43 (0, 0))) := by rw [hW]; exact heap_set K7.out nKG
   have F8 : Hid (w8.heap[g]? = some (.cells #[.int .i64 a0, .int .i64 b0, .int .i64 a1, .int .i64 b1, .int .i64 a2, .int .i64 b2] 38 (0, 0))) := by rw [hW]; exact heap_set F7.out nFG
   have G8 : Hid (w8.heap[w5.heap.size]? = some (.cells #[.int .i64 num, .int .i64 l0, .int .i64 k0, .int .i64 (g0 - 1), .int .i64 2, .int .i64 a, .int .i64 0, .int .i64 lo, .int .i64 hi, .slice (some ⟨g, 0, none⟩) 3 3, .int .i64 cp] 43 (0, 0))) := by rw [hW]; exact Joins.block_setCell G7.out _
   have S8 : RdrStep w R (u + 11) w8 := by rw [hW]; exact S7.set hR (by omega) _
   clear hW K7 F7 G7 S7 cg pg
   go_wp2_with fail
   refine (pick_any R _ _ _ S8.1 (by omega)).mono ?_
   rintro e w9 ⟨m, rfl, _, _, s9⟩
   have K9 := Lib.hid (s9.row K8.out nK)
   have F9 := Lib.hid (s9.row F8.out nF)
   have G9 := Lib.hid (s9.row G8.out nG)
   have S9 := S8.trans s9
   clear K8 F8 G8 S8 s9
   cases hm : (m == 0)
   · go_upto_region 11 with fail
     refine wp_copy (t := 47) (pd := 4) (ps := 5) (ty := 43) rfl rfl rfl rfl rfl w5.heap.size w.heap.size #[.int .i64 num, .int .i64 l0, .int .i64 k0, .int .i64 (g0 - 1), .int .i64 2, .int .i64 a, .int .i64 0, .int .i64 lo, .int .i64 hi, .slice (some ⟨g, 0, none⟩) 3 3, .int .i64 cp] #[.int .i64 0, .int .i64 0, .int .i64 0, .int .i64 0, .int .i64 0, .int .i64 0, .int .i64 0, .int .i64 0, .int .i64 0, .slice none 0 0, .int .i64 0] 43 43 11 row43 rfl rfl rfl G9.out rfl K9.out rfl (by simp [Value.oneCell']) ?_
     go_wp2
     refine bodyPost_ret (results_row (p := 4) (ty := 43) rfl row43 _ _ w.heap.size 43 #[.int .i64 num, .int .i64 l0, .int .i64 k0, .int .i64 (g0 - 1), .int .i64 2, .int .i64 a, .int .i64 0, .int .i64 lo, .int .i64 hi, .slice (some ⟨g, 0, none⟩) 3 3, .int .i64 cp] rfl rfl (setRow_heap _ _ _ _ _ _ K9.out)) rfl ?_
     exact ⟨⟨num, l0, k0, (g0 - 1), 2, a, 0, lo, hi, [(a0, b0), (a1, b1), (a2, b2)], cp⟩, _, rfl, six_owns ((setRow_other _ _ _ _ (Ne.symm nKF)).trans F9.out) hg0, by simp, (S9.setRow hR (Nat.le_refl _) _).mono (by omega)⟩
   · go_wp2_with fail
     refine (one_lit R _ [50, 200, 1000, 7] w9 3 S9.1 (by omega) (by simp) (by simp)).mono ?_
     rintro e w10 ⟨b, _, rfl, s10⟩
     have K10 := Lib.hid (s10.row K9.out nK)
     have F10 := Lib.hid (s10.row F9.out nF)
     have G10 := Lib.hid (s10.row G9.out nG)
     have S10 := S9.trans s10
     clear K9 F9 G9 S9 s10
     have cg := cell_of_row w10 _ 6 _ _ _ G10.out
     have pg := frozen_of_row w10 _ 6 _ _ G10.out
     go_upto_region 11 with fail
     obtain ⟨w11, hW⟩ : ∃ W, W = w10.setCell ⟨w5.heap.size, 6, none⟩ (.int .i64 b) := ⟨_, rfl⟩
     rw [← hW]
     have K11 : Hid (w11.heap[w.heap.size]? = some (.cells #[.int .i64 0, .int .i64 0, .int .i64 0, .int .i64 0, .int .i64 0, .int .i64 0, .int .i64 0, .int .i64 0, .int .i64 0, .slice none 0 0, .int .i64 0] 43 (0, 0))) := by rw [hW]; exact heap_set K10.out nKG
     have F11 : Hid (w11.heap[g]? = some (.cells #[.int .i64 a0, .int .i64 b0, .int .i64 a1, .int .i64 b1, .int .i64 a2, .int .i64 b2] 38 (0, 0))) := by rw [hW]; exact heap_set F10.out nFG
     have G11 : Hid (w11.heap[w5.heap.size]? = some (.cells #[.int .i64 num, .int .i64 l0, .int .i64 k0, .int .i64 (g0 - 1), .int .i64 2, .int .i64 a, .int .i64 b, .int .i64 lo, .int .i64 hi, .slice (some ⟨g, 0, none⟩) 3 3, .int .i64 cp] 43 (0, 0))) := by rw [hW]; exact Joins.block_setCell G10.out _
     have S11 : RdrStep w R (u + 13) w11 := by rw [hW]; exact S10.set hR (by omega) _
     clear hW K10 F10 G10 S10 cg pg
     refine wp_copy (t := 47) (pd := 4) (ps := 5) (ty := 43) rfl rfl rfl rfl rfl w5.heap.size w.heap.size #[.int .i64 num, .int .i64 l0, .int .i64 k0, .int .i64 (g0 - 1), .int .i64 2, .int .i64 a, .int .i64 b, .int .i64 lo, .int .i64 hi, .slice (some ⟨g, 0, none⟩) 3 3, .int .i64 cp] #[.int .i64 0, .int .i64 0, .int .i64 0, .int .i64 0, .int .i64 0, .int .i64 0, .int .i64 0, .int .i64 0, .int .i64 0, .slice none 0 0, .int .i64 0] 43 43 11 row43 rfl rfl rfl G11.out rfl K11.out rfl (by simp [Value.oneCell']) ?_
     go_wp2
     refine bodyPost_ret (results_row (p := 4) (ty := 43) rfl row43 _ _ w.heap.size 43 #[.int .i64 num, .int .i64 l0, .int .i64 k0, .int .i64 (g0 - 1), .int .i64 2, .int .i64 a, .int .i64 b, .int .i64 lo, .int .i64 hi, .slice (some ⟨g, 0, none⟩) 3 3, .int .i64 cp] rfl rfl (setRow_heap _ _ _ _ _ _ K11.out)) rfl ?_
     exact ⟨⟨num, l0, k0, (g0 - 1), 2, a, b, lo, hi, [(a0, b0), (a1, b1), (a2, b2)], cp⟩, _, rfl, six_owns ((setRow_other _ _ _ _ (Ne.symm nKF)).trans F11.out) hg0, by simp, (S11.setRow hR (Nat.le_refl _) _).mono (by omega)⟩
 · go_wp2_with fail
   have c1 := one_lit R _ [2, 3, 4, 20] (w5.alloc (.cells #[.int .i64 num, .int .i64 l0, .int .i64 k0, .int .i64 (g0 - 1), .int .i64 3, .int .i64 0, .int .i64 0, .int .i64 lo, .int .i64 hi, .slice (some ⟨g, 0, none⟩) 3 3, .int .i64 cp] 43)) 3 S6.1 (by omega) (by simp) (by simp)
   rw [World.size_alloc] at c1
   refine c1.mono ?_
   clear c1
   rintro e w7 ⟨a, _, rfl, s7⟩
   clear c6
   have K7 := Lib.hid (s7.row K6.out nK)
   have F7 := Lib.hid (s7.row F6.out nF)
   have G7 := Lib.hid (s7.row G6.out nG)
   have S7 := S6.trans s7
   clear K6 F6 G6 S6 s7
   have cg := cell_of_row w7 _ 5 _ _ _ G7.out
   have pg := frozen_of_row w7 _ 5 _ _ G7.out
   go_upto_region 9 with fail
   obtain ⟨w8, hW⟩ : ∃ W, W = w7.setCell ⟨w5.heap.size, 5, none⟩ (.int .i64 a) := ⟨_, rfl⟩
   rw [← hW]
   have K8 : Hid (w8.heap[w.heap.size]? = some (.cells #[.int .i64 0, .int .i64 0, .int .i64 0, .int .i64 0, .int .i64 0, .int .i64 0, .int .i64 0, .int .i64 0, .int .i64 0, .slice none 0 0, .int .i64 0] 43 (0, 0))) := by rw [hW]; exact heap_set K7.out nKG
   have F8 : Hid (w8.heap[g]? = some (.cells #[.int .i64 a0, .int .i64 b0, .int .i64 a1, .int .i64 b1, .int .i64 a2, .int .i64 b2] 38 (0, 0))) := by rw [hW]; exact heap_set F7.out nFG
   have G8 : Hid (w8.heap[w5.heap.size]? = some (.cells #[.int .i64 num, .int .i64 l0, .int .i64 k0, .int .i64 (g0 - 1), .int .i64 3, .int .i64 a, .int .i64 0, .int .i64 lo, .int .i64 hi, .slice (some ⟨g, 0, none⟩) 3 3, .int .i64 cp] 43 (0, 0))) := by rw [hW]; exact Joins.block_setCell G7.out _
   have S8 : RdrStep w R (u + 11) w8 := by rw [hW]; exact S7.set hR (by omega) _
   clear hW K7 F7 G7 S7 cg pg
   go_wp2_with fail
   refine (pick_any R _ _ _ S8.1 (by omega)).mono ?_
   rintro e w9 ⟨m, rfl, _, _, s9⟩
   have K9 := Lib.hid (s9.row K8.out nK)
   have F9 := Lib.hid (s9.row F8.out nF)
   have G9 := Lib.hid (s9.row G8.out nG)
   have S9 := S8.trans s9
   clear K8 F8 G8 S8 s9
   cases hm : (m == 0)
   · go_upto_region 11 with fail
     refine wp_copy (t := 47) (pd := 4) (ps := 5) (ty := 43) rfl rfl rfl rfl rfl w5.heap.size w.heap.size #[.int .i64 num, .int .i64 l0, .int .i64 k0, .int .i64 (g0 - 1), .int .i64 3, .int .i64 a, .int .i64 0, .int .i64 lo, .int .i64 hi, .slice (some ⟨g, 0, none⟩) 3 3, .int .i64 cp] #[.int .i64 0, .int .i64 0, .int .i64 0, .int .i64 0, .int .i64 0, .int .i64 0, .int .i64 0, .int .i64 0, .int .i64 0, .slice none 0 0, .int .i64 0] 43 43 11 row43 rfl rfl rfl G9.out rfl K9.out rfl (by simp [Value.oneCell']) ?_
     go_wp2
     refine bodyPost_ret (results_row (p := 4) (ty := 43) rfl row43 _ _ w.heap.size 43 #[.int .i64 num, .int .i64 l0, .int .i64 k0, .int .i64 (g0 - 1), .int .i64 3, .int .i64 a, .int .i64 0, .int .i64 lo, .int .i64 hi, .slice (some ⟨g, 0, none⟩) 3 3, .int .i64 cp] rfl rfl (setRow_heap _ _ _ _ _ _ K9.out)) rfl ?_
     exact ⟨⟨num, l0, k0, (g0 - 1), 3, a, 0, lo, hi, [(a0, b0), (a1, b1), (a2, b2)], cp⟩, _, rfl, six_owns ((setRow_other _ _ _ _ (Ne.symm nKF)).trans F9.out) hg0, by simp, (S9.setRow hR (Nat.le_refl _) _).mono (by omega)⟩
   · go_wp2_with fail
     refine (one_lit R _ [50, 200, 1000, 7] w9 3 S9.1 (by omega) (by simp) (by simp)).mono ?_
     rintro e w10 ⟨b, _, rfl, s10⟩
     have K10 := Lib.hid (s10.row K9.out nK)
     have F10 := Lib.hid (s10.row F9.out nF)
     have G10 := Lib.hid (s10.row G9.out nG)
     have S10 := S9.trans s10
     clear K9 F9 G9 S9 s10
     have cg := cell_of_row w10 _ 6 _ _ _ G10.out
     have pg := frozen_of_row w10 _ 6 _ _ G10.out
     go_upto_region 11 with fail
     obtain ⟨w11, hW⟩ : ∃ W, W = w10.setCell ⟨w5.heap.size, 6, none⟩ (.int .i64 b) := ⟨_, rfl⟩
     rw [← hW]
     have K11 : Hid (w11.heap[w.heap.size]? = some (.cells #[.int .i64 0, .int .i64 0, .int .i64 0, .int .i64 0, .int .i64 0, .int .i64 0, .int .i64 0, .int .i64 0, .int .i64 0, .slice none 0 0, .int .i64 0] 43 (0, 0))) := by rw [hW]; exact heap_set K10.out nKG
     have F11 : Hid (w11.heap[g]? = some (.cells #[.int .i64 a0, .int .i64 b0, .int .i64 a1, .int .i64 b1, .int .i64 a2, .int .i64 b2] 38 (0, 0))) := by rw [hW]; exact heap_set F10.out nFG
     have G11 : Hid (w11.heap[w5.heap.size]? = some (.cells #[.int .i64 num, .int .i64 l0, .int .i64 k0, .int .i64 (g0 - 1), .int .i64 3, .int .i64 a, .int .i64 b, .int .i64 lo, .int .i64 hi, .slice (some ⟨g, 0, none⟩) 3 3, .int .i64 cp] 43 (0, 0))) := by rw [hW]; exact Joins.block_setCell G10.out _
     have S11 : RdrStep w R (u + 13) w11 := by rw [hW]; exact S10.set hR (by omega) _
     clear hW K10 F10 G10 S10 cg pg
     refine wp_copy (t := 47) (pd := 4) (ps := 5) (ty := 43) rfl rfl rfl rfl rfl w5.heap.size w.heap.size #[.int .i64 num, .int .i64 l0, .int .i64 k0, .int .i64 (g0 - 1), .int .i64 3, .int .i64 a, .int .i64 b, .int .i64 lo, .int .i64 hi, .slice (some ⟨g, 0, none⟩) 3 3, .int .i64 cp] #[.int .i64 0, .int .i64 0, .int .i64 0, .int .i64 0, .int .i64 0, .int .i64 0, .int .i64 0, .int .i64 0, .int .i64 0, .slice none 0 0, .int .i64 0] 43 43 11 row43 rfl rfl rfl G11.out rfl K11.out rfl (by simp [Value.oneCell']) ?_
     go_wp2
     refine bodyPost_ret (results_row (p := 4) (ty := 43) rfl row43 _ _ w.heap.size 43 #[.int .i64 num, .int .i64 l0, .int .i64 k0, .int .i64 (g0 - 1), .int .i64 3, .int .i64 a, .int .i64 b, .int .i64 lo, .int .i64 hi, .slice (some ⟨g, 0, none⟩) 3 3, .int .i64 cp] rfl rfl (setRow_heap _ _ _ _ _ _ K11.out)) rfl ?_
     exact ⟨⟨num, l0, k0, (g0 - 1), 3, a, b, lo, hi, [(a0, b0), (a1, b1), (a2, b2)], cp⟩, _, rfl, six_owns ((setRow_other _ _ _ _ (Ne.symm nKF)).trans F11.out) hg0, by simp, (S11.setRow hR (Nat.le_refl _) _).mono (by omega)⟩
end Go.Proofs.YtijofgaekmahkaaGreatDoor

namespace Go.Proofs.YtijofgaekmahkaaGreatDoor
open Go.RowKit
theorem fmtR_len (r : Rl) : (fmtR r).length ≤ 1000 := by
 unfold fmtR
 by_cases h : okRu r = true
 · rw [if_pos h]
   have ok := OkR.of h
   have h1 := s4_len ok r.counts.length (Nat.le_refl _)
   have h2 := ok.cn
   have h3 := dec_short (n := r.coupon) (by have := ok.coupon; omega) (by have := ok.coupon; omega)
   rw [textR_s4, List.length_append]
   have h4 : (tl (cpnW r)).length ≤ 30 := by
     unfold cpnW
     split
     · simp [tl]
     · simp [tl, wCoupon]; omega
   omega
 · rw [if_neg h]; simp
theorem owns_lit (w : World) (l : List (List UInt8)) (t : TypeId) (base : Nat) (hb : base ≤ w.heap.size) (hl : l.length ≤ 1000000) :
   (w.alloc (.cells (sw l).toArray t)).ownsRow base t 1 (.slice (some ⟨w.heap.size, 0, none⟩) l.length l.length) l.length (sw l) :=
 ⟨by rw [sw_len, Nat.mul_one], .inr ⟨w.heap.size, l.length, (sw l).toArray, rfl, hb, heap_alloc_new w _, Nat.le_refl _, by unfold maxLen; omega, by simp [sw], by rw [Nat.mul_one, List.take_of_length_le (by simp [sw])]⟩⟩
theorem app_copyS {P : Program} {w : World} {ops : Array Oper} {rest : List Oper} {o : Oper} {a : Act} {Q : Exit → Act → World → Prop} (hgd : o.guard = none) (s x : Operand) (t : TypeId)
   (ho : o.op = .call { callee := .builtin .append, args := #[s, x], argTypes := #[t, t] }) (base base0 e : Nat) (i : TypeInfo) (z : Value) (ht : P.underlying t = some (.slice e)) (hi : P.info? e = some i) (hz : i.zero = some z)
   (hs : i.size = 1) (hby : i.bytes = 16) (hzs : z.cells.size = 1) (v : Value) (hv : a.eval s = v) (hown : w.ownsRow base e 1 v 0 []) (l : List (List UInt8)) (u : Value) (hx : a.eval x = u) (hr : w.ownsRow base0 e 1 u l.length (sw l))
   (hlen : l.length ≤ 1000000) (hbase : base ≤ w.heap.size)
   (h : ∀ v' w1, w1.ownsRow base e 1 v' l.length (sw l) → w.grownBy w1 v.ownBlock → wpList P ops Q rest (a.put o.dst v') w1) : wpList P ops Q (o :: rest) a w := by
 rcases hr.2 with ⟨rfl, hn⟩ | ⟨g, cap, cur, rfl, hb, hg, hn, hc, hsz, htk⟩
 · obtain rfl : l = [] := List.eq_nil_of_length_eq_zero hn
   exact wpList_append_own_none hgd s x t ho base e i 1 ht hi v 0 [] hv hown hx (h v w hown (World.grownBy.refl _ _))
 · refine wpList_append_own w hgd s x t ho base e i z 1 16 ht hi hz hs hby hzs (by decide) v 0 [] hv hown ⟨g, 0, none⟩ l.length cap (sw l) hx (by rw [sw_len, Nat.mul_one]) (hr.cells (g := g) rfl) (fun q hq => ?_) (by unfold maxLen; omega) (by omega) hbase ?_
   · obtain ⟨y, _, rfl⟩ := List.mem_map.1 hq
     rfl
   · intro v' w1 h1 h2 _
     rw [Nat.zero_add, List.nil_append] at h1
     exact h v' w1 h1 h2
end Go.Proofs.YtijofgaekmahkaaGreatDoor
