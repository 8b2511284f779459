/- Joined texts: Walks: the exact law's helpers over lists of texts: how long, a copy, equal. Walks: equal lists of texts; the program's RunSession returns what the reference's returns. A slice of texts, opened out of what the statement says of it. The law ExactRunSession, as a tied card, out of its walk. Conditions: none. -/
import Derived.Test.YtijofgaekmahkaaGreatDoorM40
import Derived.SliceStrings
import Derived.Test.YtijofgaekmahkaaGreatDoorTie
import Derived.Test.YtijofgaekmahkaaGreatDoorCards
import Derived.SevenTiedAt
namespace Go.Proofs.YtijofgaekmahkaaGreatDoor
open Go.RowKit
def fillS (l : List (List UInt8)) (k : Nat) : List (List UInt8) := l.take k ++ List.replicate (l.length - k) []
theorem fillS_len (l : List (List UInt8)) (k : Nat) (hk : k ≤ l.length) : (fillS l k).length = l.length := by simp [fillS]; omega
theorem fillS_succ (l : List (List UInt8)) (k : Nat) (hk : k < l.length) : (fillS l k).set k (l.getD k []) = fillS l (k + 1) := by
 apply List.ext_getElem?
 intro j
 have e : l.getD k [] = l[k] := by simp [List.getD, hk]
 rw [List.getElem?_set, e]
 unfold fillS
 by_cases h : k = j
 · subst h
   rw [if_pos rfl, if_pos (by simp; omega), List.getElem?_append_left (by rw [List.length_take]; omega), List.getElem?_take, if_pos (by omega), List.getElem?_eq_getElem hk]
 · rw [if_neg h]
   by_cases h2 : j < k
   · rw [List.getElem?_append_left (by rw [List.length_take]; omega), List.getElem?_append_left (by rw [List.length_take]; omega), List.getElem?_take, List.getElem?_take, if_pos h2, if_pos (by omega)]
   · rw [List.getElem?_append_right (by rw [List.length_take]; omega), List.getElem?_append_right (by rw [List.length_take]; omega), List.length_take, List.length_take, List.getElem?_replicate, List.getElem?_replicate]
     by_cases h3 : j < l.length
     · rw [if_pos (by omega), if_pos (by omega)]
     · rw [if_neg (by omega), if_neg (by omega)]
theorem fillS_end (l : List (List UInt8)) : fillS l l.length = l := by simp [fillS]
theorem made_sw (l : List (List UInt8)) : (madeCells (Value.string ⟨#[]⟩).cells (l.length * 1)).toList = sw (fillS l 0) := by
 show (madeCells #[.string ⟨#[]⟩] (l.length * 1)).toList = _
 apply List.ext_getElem?
 intro j
 by_cases hj : j < l.length
 · simp [madeCells, sw, fillS, hj, Nat.mod_one]
 · rw [List.getElem?_eq_none (by simp [madeCells]; omega), List.getElem?_eq_none (by simp [sw, fillS]; omega)]
theorem sw_set (l : List (List UInt8)) (k : Nat) (x : List UInt8) : (sw l).set k (.string ⟨x.toArray⟩) = sw (l.set k x) := by unfold sw; rw [List.map_set]
def SzP (ls : List (List UInt8)) (w : World) (e : Ending) (w' : World) : Prop := w' = w ∧ (e = .returned (.int .i64 (-1)) ∨ ∃ m : Int, e = .returned (.int .i64 m) ∧ Hid (0 ≤ m ∧ ls.length ≤ 1048576 ∧ ∀ k, (ls.getD k []).length ≤ 1048576))
set_option maxHeartbeats 1000000 in
theorem szStringS_any (ls : List (List UInt8)) (v : Value) (w : World) (hv : Rd w 1 v ls.length (sw ls)) (hx : ∀ x ∈ ls, x.length ≤ 9223372036854775807) :
   Calls Tryz.prog 12 #[v, .int .i64 1048576] w (SzP ls w) := by
 unfold SzP
 have hm := hv.len
 unfold maxLen at hm
 obtain ⟨ao, cap, rfl, hc⟩ := lines_at hv
 have HC := Lib.hid hc
 have HX := Lib.hid (getD_len hx)
 clear hc hv hx
 go_enter Tryz.func12, Tryz.ntmps12
 have e0 : IntKind.i64.wrap (1048576 - (ls.length : Int)) = 1048576 - (ls.length : Int) := IntWalk.i64_in _ (by omega)
 by_cases hb : 1048576 < ls.length
 · have e1 : decide ((1048576 : Int) - (ls.length : Int) < 0) = true := by simp; omega
   go_wp2
   go_ret
   exact ⟨rfl, .inl rfl⟩
 · have e1 : decide ((1048576 : Int) - (ls.length : Int) < 0) = false := by simp; omega
   obtain ⟨m0, hm0⟩ : ∃ m0, m0 = (1048576 : Int) - (ls.length : Int) := ⟨_, rfl⟩
   rw [← hm0] at e1
   have e9 : IntKind.i64.wrap (1048576 - (ls.length : Int)) = m0 := by rw [hm0]; exact e0
   clear e0
   have hm1 : 0 ≤ m0 ∧ m0 ≤ 1048576 := by omega
   have HM := Lib.hid hm0
   clear hm0 hb
   go_wp2
   go_loop [1, 5] (fun l_ i => ∃ (k : Nat) (m : Int), k ≤ ls.length ∧ i = .int .i64 k ∧ l_ = .int .i64 m ∧ 0 ≤ m ∧ m ≤ 1048576 ∧ Hid (∀ j, j < k → (ls.getD j []).length ≤ 1048576)) (fun _ i => ls.length - (intOf i).toNat)
   case atStart => exact ⟨0, m0, Nat.zero_le _, rfl, rfl, hm1.1, hm1.2, fun j hj => absurd hj (Nat.not_lt_zero _)⟩
   case round =>
     obtain ⟨k, m, hk, rfl, rfl, hm2, hm3, hall⟩ := hrel
     have hl20 : ls.length ≤ 1048576 := by have := HM.out; omega
     by_cases hlt : k < ls.length
     · obtain ⟨b, off, rfl, hb, hcell⟩ := HC.out (by omega)
       have h0 := hcell k hlt
       have hxk := HX.out k
       obtain ⟨T, hT⟩ : ∃ T, T = ls.getD k [] := ⟨_, rfl⟩
       rw [← hT] at h0 hxk
       have hsz : (⟨T.toArray⟩ : ByteArray).size = T.length := by simp [ByteArray.size]
       have ew : IntKind.i64.wrap (m - (T.length : Int)) = m - (T.length : Int) := IntWalk.i64_in _ (by omega)
       have hk0 : (0 : Int) ≤ (k : Int) := by omega
       have hk1 : (k : Int) < (ls.length : Int) := by omega
       have HT := Lib.hid hT
       clear hcell hT
       by_cases hbig : m < (T.length : Int)
       · have e2 : decide (m - (T.length : Int) < 0) = true := by simp; omega
         have e3 : decide (m < (T.length : Int)) = true := by simp; omega
         clear hbig
         go_wp2
         go_ret
         exact ⟨rfl, .inl rfl⟩
       · have e2 : decide (m - (T.length : Int) < 0) = false := by simp; omega
         have e3 : decide (m < (T.length : Int)) = false := by simp; omega
         have HB := Lib.hid hbig
         clear hbig
         go_wp2
         go_round
         case rel =>
           refine ⟨k + 1, m - (T.length : Int), by omega, by go_num, rfl, by have := HB.out; omega, by omega, fun j hj => ?_⟩
           by_cases e : j = k
           · subst e; rw [← HT.out]; have := HB.out; omega
           · exact hall.out j (by omega)
         case measure => simp [intOf]; omega
     · have hle : decide (k < ls.length) = false := by simp; omega
       have hle2 : decide ((k : Int) < (ls.length : Int)) = false := by simp; omega
       have hall2 : Hid (∀ j, (ls.getD j []).length ≤ 1048576) := fun j => by
         by_cases hj : j < k
         · exact hall.out j hj
         · rw [List.getD_eq_getElem?_getD, List.getElem?_eq_none (by omega)]; exact Nat.zero_le _
       clear hall
       go_wp2
       go_ret
       exact And.intro rfl (Or.inr (Exists.intro m (And.intro rfl (And.intro hm2 (fun k => by have h9 := hall2.out k; rw [List.getD_eq_getElem?_getD] at h9; exact h9)))))
set_option maxHeartbeats 1000000 in
theorem toStringS_any (ls : List (List UInt8)) (v : Value) (w : World) (hv : Rd w 1 v ls.length (sw ls)) (hl : ls.length ≤ 1048576) :
   Calls Tryz.prog 13 #[v] w fun e w' => ∃ u, e = .returned u ∧ w'.ownsRow w.heap.size 9 1 u ls.length (sw ls) ∧ Below w.heap.size w w' := by
 obtain ⟨ao, cap, rfl, hc⟩ := lines_at hv
 have HC := Lib.hid hc
 clear hc hv
 obtain ⟨i0, hi, hz0, hz1, hz2⟩ := info_parts infoStr
 have HI := Lib.hid hi
 have HZ0 := Lib.hid hz0
 have HZ1 := Lib.hid hz1
 have HZ2 := Lib.hid hz2
 clear hi hz0 hz1 hz2
 go_enter Tryz.func13, Tryz.ntmps13
 go_wp2_with (refine wpList_make_full _ rfl _ _ 23 rfl w.heap.size 9 i0 _ 1 Tryz.underlying23 HI.out HZ0.out HZ1.out _ _ _ _ ls.length rfl rfl rfl rfl (by rw [HZ2.out]; omega) (by unfold maxLen; omega) (Nat.le_refl _) ?_; intro w1 hown hgr)
 have hown0 : Hid (w1.ownsRow w.heap.size 9 1 (.slice (some ⟨w.heap.size, 0, none⟩) ls.length ls.length) ls.length (sw (fillS ls 0))) := by
   rw [Hid, ← made_sw]; exact hown
 have hb0 : Below w.heap.size w w1 := below_of_grownBy hgr
 clear hown hgr
 go_loopw [4] (fun i wr => ∃ k : Nat, k ≤ ls.length ∧ i = .int .i64 k ∧ Below w.heap.size w wr ∧ Hid (wr.ownsRow w.heap.size 9 1 (.slice (some ⟨w.heap.size, 0, none⟩) ls.length ls.length) ls.length (sw (fillS ls k)))) (fun i _ => ls.length - (intOf i).toNat)
 case atStart => exact ⟨0, Nat.zero_le _, rfl, hb0, hown0⟩
 case round =>
   clear hown0 hb0
   obtain ⟨k, hk, rfl, hbl, hown⟩ := hrel
   by_cases hlt : k < ls.length
   · obtain ⟨b, off, rfl, hb, hcell⟩ := HC.out (by omega)
     have h0 := (hbl.cell (p := ⟨b, off + k, none⟩) hb).trans (hcell k hlt)
     have hs := fillS_succ ls k hlt
     obtain ⟨T, hT⟩ : ∃ T, T = ls.getD k [] := ⟨_, rfl⟩
     rw [← hT] at h0 hs
     have c0 := hown.out.cellAt k (by omega)
     have hfl := fillS_len ls k hk
     rw [sw, List.getElem?_map, List.getElem?_eq_getElem (by omega), Option.map_some] at c0
     have f0 := hown.out.frozenAt (j := k)
     have hgw : w.heap.size < wr.heap.size := (hown.out.lt _ rfl).2
     have HS := Lib.hid hs
     clear hcell hT hs
     go_wp2
     go_roundw
     case rel =>
       refine ⟨k + 1, by omega, by go_num, hbl.setCell (Nat.le_refl _) _, ?_⟩
       have := (hown.out.stored k (.string ⟨T.toArray⟩)).1
       rwa [sw_set, HS.out] at this
     case measure => simp [intOf]; omega
   · go_wp2
     go_ret
     obtain rfl : k = ls.length := by omega
     exact ⟨_, rfl, by have := hown.out; rwa [fillS_end] at this, hbl⟩
end Go.Proofs.YtijofgaekmahkaaGreatDoor

namespace Go.Proofs.YtijofgaekmahkaaGreatDoor
open Go.RowKit
set_option maxHeartbeats 1000000 in
theorem eqStringS_same (ls : List (List UInt8)) (u v : Value) (w : World) (hu : Rd w 1 u ls.length (sw ls)) (hv : Rd w 1 v ls.length (sw ls)) :
   Calls Tryz.prog 14 #[u, v] w fun e w' => e = .returned (.bool true) ∧ Below w.heap.size w w' := by
 have hm := hu.len
 unfold maxLen at hm
 obtain ⟨ao, cap, rfl, hc⟩ := lines_at hu
 obtain ⟨bo, cap', rfl, hd⟩ := lines_at hv
 have HC := Lib.hid hc
 have HD := Lib.hid hd
 clear hc hd hu hv
 go_enter Tryz.func14, Tryz.ntmps14
 go_wp2
 go_loopw [5] (fun i wr => ∃ k : Nat, k ≤ ls.length ∧ i = .int .i64 k ∧ Below w.heap.size w wr) (fun i _ => ls.length - (intOf i).toNat)
 case atStart => exact ⟨0, Nat.zero_le _, rfl, Below.refl _ _⟩
 case round =>
   obtain ⟨k, hk, rfl, hbl⟩ := hrel
   by_cases hlt : k < ls.length
   · obtain ⟨b, off, rfl, hb, hcell⟩ := HC.out (by omega)
     obtain ⟨b2, off2, rfl, hb2, hcell2⟩ := HD.out (by omega)
     have h0 := (hbl.cell (p := ⟨b, off + k, none⟩) hb).trans (hcell k hlt)
     have h2 := (hbl.cell (p := ⟨b2, off2 + k, none⟩) hb2).trans (hcell2 k hlt)
     have hbw : b < wr.heap.size := Nat.lt_of_lt_of_le hb hbl.size
     have hbw2 : b2 < wr.heap.size := Nat.lt_of_lt_of_le hb2 hbl.size
     obtain ⟨T, hT⟩ : ∃ T, T = ls.getD k [] := ⟨_, rfl⟩
     rw [← hT] at h0 h2
     have hne : (T != T) = false := by simp
     have hk0 : (0 : Int) ≤ (k : Int) := by omega
     have hk1 : (k : Int) < (ls.length : Int) := by omega
     clear hcell hcell2 hT
     go_wp2
     go_quiet (fail)
     go_wp2
     go_roundw
     case rel => exact ⟨k+1, by omega, by go_num, below_drewN hbl _⟩
     case measure => simp [intOf]; omega
   · have hle : decide (k < ls.length) = false := by simp; omega
     have hle2 : decide ((k : Int) < (ls.length : Int)) = false := by simp; omega
     go_wp2
     go_ret
     exact ⟨rfl, hbl⟩
theorem mem_getD {ls : List (List UInt8)} {m : Nat} (h : ∀ k, (ls.getD k []).length ≤ m) : ∀ x ∈ ls, x.length ≤ m := fun x hx => by
 obtain ⟨k, hk, rfl⟩ := List.getElem_of_mem hx
 have := h k
 rw [List.getD_eq_getElem?_getD, List.getElem?_eq_getElem hk] at this
 exact this
set_option maxHeartbeats 4000000 in
set_option maxRecDepth 100000 in
theorem lawExactRunSession (ls : List (List UInt8)) (v : Value) (w : World) (hv : Rd w 1 v ls.length (sw ls)) (hx : ∀ x ∈ ls, x.length ≤ 9223372036854775807) (hE : EnvB w.heap.size w) :
   Calls Tryz.prog 6 #[v] w fun e w' => e = .returned (.bool true) ∧ Below w.heap.size w w' := by
 have KS := Lib.hid (szStringS_any ls v w hv hx)
 have HV := Lib.hid hv
 have HE := Lib.hid hE
 unfold SzP at KS
 obtain ⟨ao, cap, rfl, _⟩ := lines_at hv
 clear hv hx hE
 go_enter Tryz.func6, Tryz.ntmps6
 go_wp2_with fail
 refine KS.out.mono ?_
 rintro e w1 ⟨h1, h2⟩
 replace h1 := h1.symm
 subst h1
 rcases h2 with rfl | ⟨m, rfl, hm0, hl, hk⟩
 · go_wp2
   go_ret
   exact ⟨rfl, Below.refl _ _⟩
 · have hd : decide (m < 0) = false := by simp; omega
   have hml := mem_getD hk
   have HL := Lib.hid hl
   have HM : Hid (∀ x ∈ ls, x.length ≤ 2000000) := fun x hx => Nat.le_trans (hml x hx) (by decide)
   clear hk hml hl hm0
   obtain ⟨R, hR⟩ : ∃ R, R = runS ls := ⟨_, rfl⟩
   have hne : (R != R) = false := by simp
   have HR := Lib.hid hR
   clear hR
   go_wp2_with fail
   refine (toStringS_any ls _ _ HV.out HL.out).mono ?_
   rintro e w2 ⟨u2, rfl, o2, x2⟩
   obtain ⟨a2, c2, hu2, _⟩ := owns_shape o2
   subst hu2
   have O2 := Lib.hid o2
   have X2 := Lib.hid x2
   clear o2 x2
   go_wp2_with fail
   refine (specRun_any ls _ _ (Rd.of_owns O2.out) HM.out).mono ?_
   rintro e w3 ⟨rfl, x3⟩
   rw [← HR.out]
   have X3 := Lib.hid (X2.out.trans (x3.mono X2.out.size))
   clear x3
   go_wp2_with fail
   refine (toStringS_any ls _ _ (HV.out.below X3.out (Nat.le_refl _)) HL.out).mono ?_
   rintro e w4 ⟨u4, rfl, o4, x4⟩
   obtain ⟨a4, c4, hu4, _⟩ := owns_shape o4
   subst hu4
   have O4 := Lib.hid o4
   have X4 := Lib.hid (X3.out.trans (x4.mono X3.out.size))
   clear o4 x4
   go_wp2_with fail
   refine (implRun_any ls _ _ (Rd.of_owns O4.out) HM.out ((HE.out.below X4.out).upTo X4.out.size)).mono ?_
   rintro e w5 ⟨rfl, x5⟩
   rw [← HR.out]
   have X5 := Lib.hid (X4.out.trans (x5.mono X4.out.size))
   have O5 := Lib.hid (ownsRow_below O4.out x5 (Nat.le_refl _))
   clear x5
   go_wp2_with fail
   refine (toStringS_any ls _ _ (HV.out.below X5.out (Nat.le_refl _)) HL.out).mono ?_
   rintro e w6 ⟨u6, rfl, o6, x6⟩
   obtain ⟨a6, c6, hu6, _⟩ := owns_shape o6
   subst hu6
   have O6 := Lib.hid o6
   have P6 := Lib.hid (ownsRow_below O5.out x6 (Nat.le_refl _))
   have X6 := Lib.hid (X5.out.trans (x6.mono X5.out.size))
   clear o6 x6
   go_wp2_with fail
   refine (eqStringS_same ls _ _ _ (Rd.of_owns P6.out) (Rd.of_owns O6.out)).mono ?_
   rintro e w7 ⟨rfl, x7⟩
   have X7 := Lib.hid (X6.out.trans (x7.mono X6.out.size))
   clear x7
   go_wp2
   go_ret
   exact ⟨rfl, X7.out⟩
end Go.Proofs.YtijofgaekmahkaaGreatDoor

namespace Go.Proofs.YtijofgaekmahkaaGreatDoor
open Go.ChangeShapes Go.WideShapes Go.ChangeAt Go.RowKit Go.Deep
section
variable {H : Type} {enc : TypeId × Value → H} {P : Program} {w : World} {base : Nat} {spare : Nat → Bool} {held : Bool}
theorem open_lines {t e : TypeId} {fuel : Nat} {v : Value} {x : DataW H × List MemPlace} (ht : P.underlying t = some (.slice e)) (he : P.underlying e = some .string) (ce : P.cellsOf e = 1)
   (h : DataW.trod enc P w base spare held fuel t [v] = some x) : ∃ ls : List (List UInt8), Rd w 1 v ls.length (sw ls) ∧ ∀ x ∈ ls, x.length ≤ 9223372036854775807 := by
 rcases open_strings ht he ce h with ⟨hcs, _⟩ | ⟨a, len, cap, ss, hcs, _, hl, hm, hz, _, hcell, hwz⟩
 · simp at hcs
   subst hcs
   exact ⟨[], ⟨by simp [sw], none, 0, rfl, Nat.le_refl _, Nat.zero_le _, fun h => absurd h (Nat.lt_irrefl _)⟩, by simp⟩
 · simp at hcs
   subst hcs
   have hlz : len ≤ ss.length := by rw [hz]; split <;> omega
   have hlen : ((ss.take len).map fun s => s.data.toList).length = len := by rw [List.length_map, List.length_take]; omega
   refine ⟨(ss.take len).map fun s => s.data.toList, ⟨by rw [sw_len, Nat.mul_one], some a, cap, by rw [hlen], by rw [hlen]; exact hl, hm, fun hn => ?_⟩, fun x hx => ?_⟩
   · rw [hlen] at hn
     have c0 := hcell 0 (by omega)
     have hsp : a.spot = none := by
       unfold Addr.add World.cell? at c0
       cases hsp : a.spot with
       | none => rfl
       | some s => split at c0 <;> simp_all
     obtain ⟨b, off, sp⟩ := a
     simp only at hsp
     subst hsp
     refine ⟨b, off, rfl, ?_, fun j u hu => ?_⟩
     · have := World.block_lt_of_cell? w _ c0
       rw [add_plain] at this
       exact this
     · have hj : j < len := by
         have := (List.getElem?_eq_some_iff.1 hu).1
         rwa [sw_len, hlen] at this
       have h1 := hcell j (by omega)
       rw [add_plain] at h1
       rw [h1, ← hu]
       have hj2 : j < ss.length := by omega
       unfold sw
       rw [List.map_map, List.getElem?_map, List.getElem?_take, if_pos hj, List.getElem?_eq_getElem hj2]
       simp [List.getD, hj2]
   · obtain ⟨s, hs, rfl⟩ := List.mem_map.1 hx
     have h1 := hwz s (List.mem_of_mem_take hs)
     have h2 : s.data.toList.length = s.size := by rw [Array.length_toList]; rfl
     unfold maxLen at h1
     omega
end
end Go.Proofs.YtijofgaekmahkaaGreatDoor

namespace Go.Proofs.YtijofgaekmahkaaGreatDoor
open Go.ChangeShapes Go.WideShapes Go.ChangeAt Go.RowKit
set_option linter.unusedVariables false in
set_option maxRecDepth 100000 in
theorem liftedExactRunSession (os : Os) (started : os.Started) (H : Type) (enc : TypeId × Value → H) :
   ReturnsInHanded {} Tryz.checked os 6 .any (fun w args => (Rows.fnExactRunSessionSpec.pre enc Tryz.prog Tryz.f6 [] false w args ∧ laidMetH Tryz.prog laidP w) ∧ sizedMet enc Tryz.prog Tryz.f6 (OpenSpec.ofChange Rows.fnExactRunSessionSpec) false w args)
     (Rows.fnExactRunSessionSpec.post enc Tryz.prog Tryz.f6 false true false false) := by
 refine handed_shaped (C := Tryz.checked) (X := fun w _ => laidMetH Tryz.prog laidP w) (fun _ _ _ hh h => h.of_heap hh) lawOwnP started (by kernel_rfl) Tryz.func6
   (ChangeSpec.witness_shaped (enc := enc) (C := Tryz.checked) (os := os) (X := fun w _ => laidMetH Tryz.prog laidP w) false (worldP os) #[.slice none 0 0] 8 (worldP_os os) (laidShapedP os _) (by kernel_rfl) (by kernel_rfl) (by kernel_rfl) (laidMetP os _)) ?_
 intro W base args ds gs before hval0 hW hL hsh
 have hval : ∀ (j : Nat) t v, Tryz.f6.params[j]? = some t → args[j]? = some v → Value.okWide Tryz.prog W .any base t v := hval0
 have hW' := hW
 obtain ⟨p, q, hA0, hV0, rfl, hfz, hnd⟩ := hW
 have hA : DataW.TrodAll enc Tryz.prog W 0 (fun _ => true) true Tryz.f6.params.toList args.toList ds p := hA0
 have hV : DataW.TrodVars enc Tryz.prog W (fun _ => true) ["loop.example/promotionengine/impl.anySpan", "loop.example/promotionengine/impl.kindNames"] gs q := hV0
 obtain ⟨_, _, _, _, g1, _, _, _, _, _, g2, _, rfl, _⟩ := trodVars_two hV
 rw [Tryz.params6] at hA hval
 obtain ⟨v0, vs0, d0, ds0, p0, q0, hargs, rfl, rfl, h0, r0⟩ := trodAll_cons hA
 obtain ⟨rfl, rfl, rfl⟩ := trodAll_nil r0
 obtain rfl : args = #[v0] := by cases args; simp_all
 have k0 := h0
 have lt0 : ∀ x ∈ p0, x.block < W.heap.size := by obtain ⟨m, hm⟩ := k0; exact DataW.trod_lt m _ _ _ hm
 clear hA0 hval0
 have hE : EnvB W.heap.size W := envP_of_laid hL hsh
 obtain ⟨z0, w0⟩ : ∃ z : List (List UInt8), Rd W 1 v0 z.length (sw z) ∧ ∀ x ∈ z, x.length ≤ 9223372036854775807 := by
   obtain ⟨a0, n0, c0, rfl⟩ := okWide_slice Tryz.underlying23 (hval 0 23 v0 rfl rfl)
   obtain ⟨fuel, hf⟩ := h0
   exact open_lines Tryz.underlying23 Tryz.underlying9 (by kernel_rfl) hf
 refine (lawExactRunSession z0 v0 W w0.1 w0.2 hE).mono fun e W' ⟨he, bel⟩ => ?_
 subst he
 exact ⟨_, rfl, _, _, _, [], _, q, hW', trodAll_mk1 (shut_bool Tryz.underlying4 _), (trodAll_cons_mk (Below.trod lawOutP (by kernel_rfl) (of_decide_eq_true (by kernel_rfl)) k0 bel lt0) trodAll_mk0), Below.trodVars lawOutP bel (by kernel_rfl) hV, bel.frame _, fun h => by cases h⟩
theorem saidExactRunSession : Rows.FnExactRunSessionSaid :=
 OpenClaim.holds_of_wide 6 Tryz.f6 rfl rfl rfl rfl rfl rfl rfl ⟨rfl, rfl, rfl, rfl, rfl⟩ rfl rfl rfl rfl rfl (by kernel_rfl) Tryz.func6 (by kernel_rfl)
   (of_decide_eq_true (by kernel_rfl)) (by unfold Func.isWrapper; first | (rw [if_pos (by decide +kernel)]; kernel_rfl) | (rw [if_neg (by decide +kernel)]; exact ⟨rfl, rfl⟩))
   (fun os started H enc _ => liftedExactRunSession os started H enc)
theorem holdsExactRunSession : Rows.FnExactRunSessionCardSaid :=
 Claim7.holds_tied_plain_at .later [] [.data, .data, .data, .data, .sentinel, .sentinel, .data, .mapped, .pinned] true (true, "3af949e2787502fc77dadc90f35829bce54f71479ef125a3a7feb8fcb0d553a5") true
   saidExactRunSession (fun _ h => by cases h) (by kernel_rfl) (fun _ h => by cases h) fnExactRunSession_row_tie rfl ⟨rfl, rfl⟩ (by kernel_rfl) rfl
   (fun f fn hf hfn => by
     obtain rfl : f = 6 := Option.some.inj ((show Tryz.prog.funcNamed "loop.example/promotionengine/laws.FnExactRunSession" = some 6 by kernel_rfl).symm.trans hf) |>.symm
     obtain rfl : fn = Tryz.f6 := (Option.some.inj (Tryz.func6.symm.trans hfn)).symm
     exact ⟨by kernel_rfl, fun j t ht => by
       rw [Tryz.params6] at ht
       have hm : t ∈ [23] := by simpa using Array.mem_of_getElem? ht
       have hall : ([23].all fun u => !Tryz.prog.wantsStandIn u) = true := by kernel_rfl
       exact (show Tryz.prog.wantsStandIn t = false by simpa using List.all_eq_true.1 hall t hm)⟩)
   (by kernel_rfl)
#print axioms holdsExactRunSession
end Go.Proofs.YtijofgaekmahkaaGreatDoor
