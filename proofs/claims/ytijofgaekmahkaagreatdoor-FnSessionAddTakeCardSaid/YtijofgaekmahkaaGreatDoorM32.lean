/- Joined texts: Walks: the reference's desk tells the conflicts and the notes. Walk: the reference's desk tells the notes. Plain laws: both ways to cut a text are one; both ways to read a number are one; no program. Plain laws: which line of a session is which command; no program. Conditions: none. -/
import Derived.Test.YtijofgaekmahkaaGreatDoorM31
import Derived.Deep.RegionHeld3
import Derived.Lib.AtoiAll
namespace Go.Proofs.YtijofgaekmahkaaGreatDoor
open Go.RowKit
theorem add_pr (p a b : List UInt8) (h : p.length + a.length + b.length ≤ 1000000) : ∃ X1 X2 X3 : List UInt8, (∀ W : World, (Op.stringOp .add ⟨p.toArray⟩ ⟨a.toArray⟩).run Tryz.prog W = .ok (.string ⟨X1.toArray⟩) W) ∧ (∀ W : World, (Op.stringOp .add ⟨X1.toArray⟩ ⟨#[32]⟩).run Tryz.prog W = .ok (.string ⟨X2.toArray⟩) W) ∧ (∀ W : World, (Op.stringOp .add ⟨X2.toArray⟩ ⟨b.toArray⟩).run Tryz.prog W = .ok (.string ⟨X3.toArray⟩) W) ∧ X3 = p ++ (a ++ [32] ++ b) :=
 ⟨p ++ a, p ++ a ++ [32], p ++ a ++ [32] ++ b, add_to rfl (by simp; omega), add_to (y := [32]) rfl (by simp; omega), add_to rfl (by simp; omega), by simp⟩
theorem add_nt (p a b c : List UInt8) (h : p.length + a.length + b.length + c.length ≤ 1000000) : ∃ X1 X2 X3 X4 X5 : List UInt8, (∀ W : World, (Op.stringOp .add ⟨p.toArray⟩ ⟨a.toArray⟩).run Tryz.prog W = .ok (.string ⟨X1.toArray⟩) W) ∧ (∀ W : World, (Op.stringOp .add ⟨X1.toArray⟩ ⟨#[32]⟩).run Tryz.prog W = .ok (.string ⟨X2.toArray⟩) W) ∧ (∀ W : World, (Op.stringOp .add ⟨X2.toArray⟩ ⟨b.toArray⟩).run Tryz.prog W = .ok (.string ⟨X3.toArray⟩) W) ∧ (∀ W : World, (Op.stringOp .add ⟨X3.toArray⟩ ⟨#[32]⟩).run Tryz.prog W = .ok (.string ⟨X4.toArray⟩) W) ∧ (∀ W : World, (Op.stringOp .add ⟨X4.toArray⟩ ⟨c.toArray⟩).run Tryz.prog W = .ok (.string ⟨X5.toArray⟩) W) ∧ X5 = p ++ (a ++ [32] ++ b ++ [32] ++ c) :=
 ⟨p ++ a, p ++ a ++ [32], p ++ a ++ [32] ++ b, p ++ a ++ [32] ++ b ++ [32], p ++ a ++ [32] ++ b ++ [32] ++ c, add_to rfl (by simp; omega), add_to (y := [32]) rfl (by simp; omega), add_to rfl (by simp; omega), add_to (y := [32]) rfl (by simp; omega), add_to rfl (by simp; omega), by simp⟩
theorem add_semi (s : List UInt8) (h : s.length ≤ 1000000) : ∀ W : World, (Op.stringOp .add ⟨s.toArray⟩ ⟨#[59]⟩).run Tryz.prog W = .ok (.string ⟨(s ++ [59]).toArray⟩) W := add_to (y := [59]) rfl (by simp; omega)
theorem jn_take_len {ws : List (List UInt8)} {m k : Nat} (h : ∀ x ∈ ws, x.length ≤ m) : (jn (ws.take k)).length ≤ ws.length * (m + 1) := by
 have h1 := jn_len (m := m) (ws.take k) (fun x hx => h x (List.mem_of_mem_take hx))
 have h2 : (ws.take k).length ≤ ws.length := by rw [List.length_take]; omega
 exact Nat.le_trans h1 (Nat.mul_le_mul_right _ h2)
theorem prW_all {l : List Rl} (h : okRs l = true) : ∀ x ∈ (cnfL l).map prW, x.length ≤ 21 := fun x hx => by obtain ⟨y, hy, rfl⟩ := List.mem_map.1 hx; exact prW_len (cnf_num h hy)
set_option maxHeartbeats 8000000 in
set_option maxRecDepth 100000 in
theorem deskConf_any (b : Nat) (S : Se) (w : World) (h : SesD w b S) :
   Calls Tryz.prog 53 #[.pointer (some ⟨b, 0, none⟩)] w fun e w' => e = .returned (.string ⟨(stepC S .conf).2.toArray⟩) ∧ SesD w' b (stepC S .conf).1 ∧ w.grownBy w' (some b) := by
 have HS := Lib.hid h
 obtain ⟨u, v, z, y, hb, sv⟩ := h
 have hb0 := sv.lt
 obtain ⟨l, hrl, hry, _, _⟩ := sv.r
 have hok := sv.ok.rs
 rw [← hrl] at hok
 obtain ⟨yo, ycap, rfl, _⟩ := hry.open
 obtain ⟨⟨c0, c1, c2, c3⟩, f0, f1, f2, f3⟩ := row4 hb
 have HRY := Lib.hid hry
 have HOK := Lib.hid hok
 have fin : Hid (stepC S .conf = (S, jn ((cnfL (rls l)).map prW))) := by rw [Hid, hrl]; simp only [stepC]
 have hsh := cnfL_short hok
 have hpw := prW_all hok
 have hnn : ∀ x ∈ cnfL (rls l), 1 ≤ x.1 ∧ x.1 ≤ 99 ∧ 1 ≤ x.2 ∧ x.2 ≤ 99 := fun x hx => cnf_num hok hx
 have AC := specAllConf_any l _ w hry hok
 obtain ⟨cs, hcs⟩ : ∃ cs, cs = cnfL (rls l) := ⟨_, rfl⟩
 rw [← hcs] at fin hsh hpw hnn
 simp only [← hcs] at AC
 have HPW := Lib.hid hpw
 have HNN := Lib.hid hnn
 have KA := Lib.hid AC
 clear hb sv hrl hry hok hpw hnn AC hcs
 go_enter Tryz.func53, Tryz.ntmps53
 go_wp2_with (go_at_call 94; refine KA.out.mono ?_; rintro e w1 ⟨o, L, rfl, hL, hP, x1⟩; obtain ⟨lo, lcap, hlo, hlo2⟩ := owns_shape hP.own; subst hlo; have HL := Lib.hid hL; have PL := Lib.hid hP; have X1 := Lib.hid x1; have HLO := Lib.hid hlo2; clear hL hP x1 hlo2)
 have hln : L.length = cs.length := by rw [← HL.out, List.length_map]
 clear c0 c1 c2 c3 f0 f1 f2 f3
 obtain ⟨ws, hws⟩ : ∃ ws, ws = cs.map prW := ⟨_, rfl⟩
 have hwl : ws.length = L.length := by rw [hws, List.length_map, hln]
 rw [← hws] at fin HPW
 have HWS := Lib.hid hws
 clear hws
 go_loopw [3, 5] (fun s_ i_ wr => ∃ (k : Nat) (s : List UInt8), k ≤ L.length ∧ i_ = .int .i64 k ∧ s_ = .string ⟨s.toArray⟩ ∧ Hid (s = jn (ws.take k)) ∧ Below w1.heap.size w1 wr) (fun _ i_ _ => L.length - (intOf i_).toNat)
 case atStart => exact ⟨0, [], Nat.zero_le _, rfl, rfl, rfl, Below.refl _ _⟩
 case round =>
   obtain ⟨k, s, hk, rfl, rfl, HSK, hbl⟩ := hrel
   by_cases hlt : k < L.length
   · obtain ⟨q, rfl, _⟩ := HLO.out (by omega)
     have hx := List.getElem_mem hlt
     obtain ⟨g, hu, hg1, hg2⟩ := (PL.out.pr _ hx).below hbl (Nat.le_refl _)
     have ho := ownsRow_below PL.out.own hbl (Nat.le_refl _)
     have hcell := ho.cellAt k (by omega)
     rw [List.getElem?_map, List.getElem?_eq_getElem hlt, Option.map_some, hu] at hcell
     have hqw := (ho.lt q rfl).2
     have hgw : g < wr.heap.size := (Array.getElem?_eq_some_iff.1 hg2).1
     obtain ⟨⟨d0, d1⟩, _⟩ := row2 hg2
     have hnum := HNN.out (L[k]).p (by rw [← HL.out]; exact List.mem_map.2 ⟨_, hx, rfl⟩)
     have hwk : ws[k]'(by omega) = prW (L[k]).p := by
       have h1 : cs[k]'(by omega) = (L[k]).p := by
         have h2 : (L.map Px.p)[k]'(by rw [List.length_map]; exact hlt) = cs[k]'(by omega) := by simp only [HL.out]
         rw [← h2, List.getElem_map]
       simp only [HWS.out, List.getElem_map, h1]
     have hjn := jn_succ ws (k := k) (by omega)
     rw [hwk, ← HSK.out] at hjn
     have hsl : s.length ≤ 10000 := by
       have h1 := jn_take_len (k := k) HPW.out
       rw [HSK.out]
       have h2 : ws.length * 22 ≤ 36 * 22 := Nat.mul_le_mul_right _ (by omega)
       omega
     obtain ⟨p, hp⟩ : ∃ p, p = (L[k]).p := ⟨_, rfl⟩
     rw [← hp] at d0 d1 hnum hjn
     have l1 := dec_short (n := p.1) (by omega) (by omega)
     have l2 := dec_short (n := p.2) (by omega) (by omega)
     have H1 := Lib.hid (fun x : Later wr => Calls.later_of (decimal_run p.1 x.wld (by omega) (by omega)))
     have H2 := Lib.hid (fun x : Later wr => Calls.later_of (decimal_run p.2 x.wld (by omega) (by omega)))
     have hk0 : (0 : Int) ≤ (k : Int) := by omega
     have hk1 : (k : Int) < (L.length : Int) := by omega
     have hk2 : decide (k < cs.length) = true := by simp; omega
     have hk3 : decide ((k : Int) < (cs.length : Int)) = true := by simp; omega
     by_cases h0 : k = 0
     · have hz : decide (0 < (k : Int)) = false := by simp; omega
       have hz2 : decide (0 < k) = false := by simp; omega
       rw [if_pos h0] at hjn
       have hs0 : s = [] := by rw [HSK.out, h0]; rfl
       obtain ⟨X1, X2, X3, A1, A2, A3, hX⟩ := add_pr s (dec p.1) (dec p.2) (by omega)
       have fk : Hid (X3 = jn (ws.take (k + 1))) := by rw [Hid, hX, hjn, hs0]; rfl
       clear h0 hjn hX hs0 l1 l2 hnum hx hu hg1 hg2 ho hwk hsl hp
       go_wp2
       refine wp_region_later (by kernel_rfl) (by kernel_rfl) ?_
       repeat (go_big_quiet_step ((go_at_call 49; first | (with_reducible exact H1.out _) | (with_reducible exact H2.out _))))
       refine wpQuiet_nil ?_
       rintro _ ⟨x, rfl⟩
       go_wp2
       go_roundw
       case rel => exact ⟨k + 1, _, by omega, by go_num, rfl, fk, hbl.trans (x.below.mono hbl.size)⟩
       case measure => simp [intOf]; omega
     · have hz : decide (0 < (k : Int)) = true := by simp; omega
       have hz2 : decide (0 < k) = true := by simp; omega
       rw [if_neg h0] at hjn
       have A0 := add_semi s (by omega)
       have hsz : (⟨s.toArray⟩ : ByteArray).size = s.length := by simp [ByteArray.size]
       obtain ⟨s2, hs2⟩ : ∃ s2, s2 = s ++ [59] := ⟨_, rfl⟩
       have hl3 : s2.length ≤ 10001 := by rw [hs2, List.length_append, List.length_singleton]; omega
       rw [← hs2] at A0 hjn
       obtain ⟨X1, X2, X3, A1, A2, A3, hX⟩ := add_pr s2 (dec p.1) (dec p.2) (by omega)
       have fk : Hid (X3 = jn (ws.take (k + 1))) := by rw [Hid, hX, hjn]; rfl
       clear h0 hjn hX hs2 hl3 l1 l2 hnum hx hu hg1 hg2 ho hwk hp
       go_wp2
       refine wp_region_later (by kernel_rfl) (by kernel_rfl) ?_
       repeat (go_big_quiet_step ((go_at_call 49; first | (with_reducible exact H1.out _) | (with_reducible exact H2.out _))))
       refine wpQuiet_nil ?_
       rintro _ ⟨x, rfl⟩
       go_wp2
       go_roundw
       case rel => exact ⟨k + 1, _, by omega, by go_num, rfl, fk, hbl.trans (x.below.mono hbl.size)⟩
       case measure => simp [intOf]; omega
   · have hle : decide ((k : Int) < (cs.length : Int)) = false := by simp; omega
     have hle2 : decide (k < cs.length) = false := by simp; omega
     have fk : Hid (s = jn ws) := by rw [Hid, HSK.out, List.take_of_length_le (by omega)]
     have X9 := Lib.hid (X1.out.trans (hbl.mono X1.out.size))
     clear hbl
     go_wp2
     go_ret
     exact ⟨by rw [fin.out, fk.out] <;> rfl, by rw [fin.out]; exact HS.out.below X9.out (Nat.le_refl _), grownBy_of_below X9.out⟩
end Go.Proofs.YtijofgaekmahkaaGreatDoor

namespace Go.Proofs.YtijofgaekmahkaaGreatDoor
open Go.RowKit
theorem nts_get {l : List Nt} {k : Nat} (hk : k < l.length) : (nts l)[k * 3]? = some (.int .i64 (l[k]).ln) ∧ (nts l)[k * 3 + 1]? = some (.int .i64 (l[k]).ru) ∧ (nts l)[k * 3 + 2]? = some (.int .i64 (l[k]).am) := by
 induction l generalizing k with
 | nil => simp at hk
 | cons a l ih =>
   have hc : nts (a :: l) = ntv a ++ nts l := by simp [nts]
   rw [hc]
   match k, hk with
   | 0, _ => simp [ntv]
   | k + 1, hk =>
     have := ih (k := k) (by simpa using hk)
     have hl : (ntv a).length = 3 := rfl
     rw [List.getElem?_append_right (by omega), List.getElem?_append_right (by omega), List.getElem?_append_right (by omega), hl, show (k + 1) * 3 - 3 = k * 3 by omega, show (k + 1) * 3 + 1 - 3 = k * 3 + 1 by omega, show (k + 1) * 3 + 2 - 3 = k * 3 + 2 by omega]
     simpa using this
theorem nts_at {w : World} {v : Value} {l : List Nt} (h : Rd w 3 v l.length (nts l)) : ∃ ao cap, v = .slice ao l.length cap ∧ (0 < l.length → ∃ b off, ao = some ⟨b, off, none⟩ ∧ b < w.heap.size ∧ ∀ k (hk : k < l.length), w.cell? ⟨b, off + k*3, none⟩ = some (.int .i64 (l[k]).ln) ∧ w.cell? ⟨b, off + k*3+1, none⟩ = some (.int .i64 (l[k]).ru) ∧ w.cell? ⟨b, off + k*3+2, none⟩ = some (.int .i64 (l[k]).am)) := by
 obtain ⟨_, ao, cap, h2, _, _, h5⟩ := h
 refine ⟨ao, cap, h2, fun hn => ?_⟩
 obtain ⟨b, off, h6, h7, h8⟩ := h5 hn
 exact ⟨b, off, h6, h7, fun k hk => ⟨h8 _ _ (nts_get hk).1, by rw [Nat.add_assoc]; exact h8 _ _ (nts_get hk).2.1, by rw [Nat.add_assoc]; exact h8 _ _ (nts_get hk).2.2⟩⟩
set_option maxHeartbeats 8000000 in
set_option maxRecDepth 100000 in
theorem deskNotes_any (b : Nat) (S : Se) (w : World) (h : SesD w b S) :
   Calls Tryz.prog 52 #[.pointer (some ⟨b, 0, none⟩)] w fun e w' => e = .returned (.string ⟨(stepC S .notes).2.toArray⟩) ∧ SesD w' b (stepC S .notes).1 ∧ w.grownBy w' (some b) := by
 have HS := Lib.hid h
 obtain ⟨u, v, z, y, hb, sv⟩ := h
 have hb0 := sv.lt
 obtain ⟨l, hrl, hry, _, _⟩ := sv.r
 have hok := sv.ok.rs
 rw [← hrl] at hok
 obtain ⟨yo, ycap, rfl, _⟩ := hry.open
 obtain ⟨so, scap, rfl, _⟩ := sv.s.arts (l := shopS)
 obtain ⟨co, ccap, rfl, _, _, hrc⟩ := sv.c.pairs
 obtain ⟨zo, zcap, rfl, _⟩ := sv.q.ints
 have KR : Hid (∀ W', Below w.heap.size w W' → Calls Tryz.prog 93 #[.slice so 4 scap, .slice co S.c.length ccap, .slice zo S.cp.length zcap, .slice yo l.length ycap] W' (RcOut shopS S.c S.cp (rls l) W')) := fun W' hW => specReceipt_any shopS _ S.c _ S.cp _ l _ W' (sv.s.below hW (Nat.le_refl _)) (sv.c.below hW (Nat.le_refl _)) (sv.q.below hW (Nat.le_refl _)) (hry.below hW (Nat.le_refl _)) sv.ok.c sv.ok.cp hok
 obtain ⟨⟨c0, c1, c2, c3⟩, f0, f1, f2, f3⟩ := row4 hb
 have C1 := Lib.hid c1
 have HRC := Lib.hid hrc
 have KP := Lib.hid (show ∀ w' : World, Below w.heap.size w w' → w'.cell? ⟨b, 0, none⟩ = some (.slice so 4 scap) ∧ w'.cell? ⟨b, 1, none⟩ = some (.slice co S.c.length ccap) ∧ w'.cell? ⟨b, 2, none⟩ = some (.slice yo l.length ycap) ∧ w'.cell? ⟨b, 3, none⟩ = some (.slice zo S.cp.length zcap) ∧ Below w.heap.size w w' from fun w' h => ⟨(h.cell (p := ⟨b, 0, none⟩) hb0).trans c0, (h.cell (p := ⟨b, 1, none⟩) hb0).trans c1, (h.cell (p := ⟨b, 2, none⟩) hb0).trans c2, (h.cell (p := ⟨b, 3, none⟩) hb0).trans c3, h⟩)
 have B0 : Below w.heap.size w w.drew := (Below.refl _ w).drew
 have HCV := Lib.hid sv.ok.c
 have hnt := rcL_notes S.cp sv.ok.c hok
 have HNT := Lib.hid hnt
 have hfin : stepC S .notes = (S, if clrQ (rls l) then jn ((rcL shopS S.c S.cp (ordL (rls l))).2.map (ntW S.c)) else tNo) := by rw [hrl]; simp only [stepC]
 obtain ⟨rc, hrcl⟩ : ∃ rc, rc = rcL shopS S.c S.cp (ordL (rls l)) := ⟨_, rfl⟩
 unfold RcOut at KR
 simp only [← hrcl] at KR
 rw [← hrcl] at hfin HNT
 clear hb sv hrl hry hok c0 c1 c2 c3 f0 f1 f2 f3 hrc hnt
 go_enter Tryz.func52, Tryz.ntmps52
 go_upto_region 1 with fail
 have bx0 := heap_alloc_new w (.cells #[.slice none 0 0, .slice none 0 0] 76)
 have B1 : Below w.heap.size w (w.alloc (.cells #[.slice none 0 0, .slice none 0 0] 76)).drew := ((Below.refl _ w).alloc (Nat.le_refl _) _).drew
 have z1 : (w.alloc (.cells #[.slice none 0 0, .slice none 0 0] 76)).drew.heap.size = w.heap.size + 1 := World.size_alloc _ _
 have BX0 := Lib.hid bx0
 have Z1 := Lib.hid z1
 clear bx0 z1
 go_cut [3, 4] from 8 to 26 (fun p_ ok_ wx => ∃ (g : Nat), p_ = .pointer (some ⟨g, 0, none⟩) ∧ ok_ = .bool (clrQ (rls l)) ∧ Below w.heap.size w wx ∧ (clrQ (rls l) = true → ∃ (a1 : Option Addr) (k1 : Nat) (a2 : Option Addr) (k2 : Nat), wx.heap[g]? = some (.cells #[.slice a1 S.c.length k1, .slice a2 rc.2.length k2] 76 (0, 0)) ∧ Rd wx 3 (.slice a2 rc.2.length k2) rc.2.length (nts rc.2)))
 case first =>
   go_region_held3 (fun w' => w'.cell? ⟨b, 0, none⟩ = some (.slice so 4 scap) ∧ w'.cell? ⟨b, 1, none⟩ = some (.slice co S.c.length ccap) ∧ w'.cell? ⟨b, 2, none⟩ = some (.slice yo l.length ycap) ∧ w'.cell? ⟨b, 3, none⟩ = some (.slice zo S.cp.length zcap) ∧ Below w.heap.size w w')
     (first
       | assumption
       | exact KP.out _ B0
       | exact KP.out _ B1
       | exact KP.out _ y9
       | exact KP.out _ (y9.alloc y9.size _)
       | exact KP.out _ ((y9.setCell (Nat.le_refl _) _).setCell (Nat.le_refl _) _))
     ((first
       | (go_at_call 93; (with_reducible refine (KR.out _ B0).mono ?_); rintro e w9 ⟨a1, n1, k1, a2, n2, k2, rfl, h1, x9⟩; have y9 : Below w.heap.size w w9 := B0.trans (x9.mono B0.size); have n9 := heap_alloc_new w9 (.cells #[.slice none 0 0, .slice none 0 0] 76); obtain ⟨⟨q0, q1⟩, q2, q3⟩ := row2 n9)
       | (go_at_call 93; (with_reducible refine (KR.out _ B1).mono ?_); rintro e w9 ⟨a1, n1, k1, a2, n2, k2, rfl, h1, x9⟩; have y9 : Below w.heap.size w w9 := B1.trans (x9.mono B1.size); have n9 := (x9.block w.heap.size (by rw [Z1.out]; omega)).trans BX0.out; obtain ⟨⟨q0, q1⟩, q2, q3⟩ := row2 n9)))
   all_goals go_wp2
   all_goals go_meet
   · exact ⟨_, rfl, rfl, y9.alloc y9.size _, fun hc => by
       obtain ⟨rfl, rfl, _, h3, h4⟩ := h1 hc
       exact ⟨a1, k1, a2, k2, heap_alloc_new w9 _, h3.below ((Below.refl _ w9).alloc (Nat.le_refl _) _) (Nat.le_refl _)⟩⟩
   · exact ⟨_, rfl, rfl, (y9.setCell (Nat.le_refl _) _).setCell (Nat.le_refl _) _, fun hc => by
       obtain ⟨rfl, rfl, _, h3, h4⟩ := h1 hc
       have o2 : Off w.heap.size (.slice a2 rc.2.length k2) := fun g n m hg => by injection hg with h5; have h6 := h4 g h5; rw [Z1.out] at h6; omega
       exact ⟨a1, k1, a2, k2, Joins.block_setCell (i := 1) (Joins.block_setCell (i := 0) n9 _) _, (h3.grown (grown_set _ _ 0 _) o2).grown (grown_set _ _ 1 _) o2⟩⟩
 case rest =>
   obtain ⟨g, rfl, rfl, y9, hyes⟩ := hcut
   cases hcl : clrQ (rls l)
   · have HCL := Lib.hid hcl
     have fin : Hid (stepC S .notes = (S, tNo)) := by rw [Hid, hfin, hcl]; rfl
     clear hcl hfin hrcl hyes
     go_wp2
     go_ret
     exact ⟨by rw [fin.out]; rfl, by rw [fin.out]; exact HS.out.below y9 (Nat.le_refl _), grownBy_of_below y9⟩
   · have HCL := Lib.hid hcl
     obtain ⟨ws, hws⟩ : ∃ ws, ws = rc.2.map (ntW S.c) := ⟨_, rfl⟩
     have fin : Hid (stepC S .notes = (S, jn ws)) := by rw [Hid, hfin, hcl, hws]; rfl
     have hwl : ws.length = rc.2.length := by rw [hws, List.length_map]
     have HPW : Hid (∀ x ∈ ws, x.length ≤ 32) := fun x hx => by rw [hws] at hx; obtain ⟨y, hy, rfl⟩ := List.mem_map.1 hx; exact ntW_len HCV.out (HNT.out.2 y hy)
     have HWK : Hid (∀ k (h : k < rc.2.length) (h2 : k < ws.length), ws[k] = ntW S.c (rc.2[k])) := fun k h h2 => by simp only [hws, List.getElem_map]
     have h48 := HNT.out.1
     obtain ⟨a1, k1, a2, k2, bx, hn9⟩ := hyes hcl
     obtain ⟨W1, hW⟩ : ∃ W1, W1 = wc := ⟨_, rfl⟩
     rw [← hW] at bx hn9 y9 ⊢
     clear hcl hfin hrcl hws hyes
     have X1 := Lib.hid y9
     obtain ⟨ao, acap, hna, hnb⟩ := nts_at hn9
     have NB := Lib.hid hnb
     have C2 := Lib.hid ((X1.out.cell (p := ⟨b, 1, none⟩) hb0).trans C1.out)
     have BX := Lib.hid bx
     have hb1 : b < W1.heap.size := Nat.lt_of_lt_of_le hb0 X1.out.size
     have hq1 : g < W1.heap.size := (Array.getElem?_eq_some_iff.1 bx).1
     injection hna with hna1 hna2 hna3
     subst hna1 hna3
     clear bx hW hnb hn9 hna2
     go_wp2
     go_loopw [5, 6] (fun s_ i_ wr => ∃ (k : Nat) (s : List UInt8), k ≤ rc.2.length ∧ i_ = .int .i64 k ∧ s_ = .string ⟨s.toArray⟩ ∧ Hid (s = jn (ws.take k)) ∧ Below W1.heap.size W1 wr) (fun _ i_ _ => rc.2.length - (intOf i_).toNat)
     case atStart => exact ⟨0, [], Nat.zero_le _, rfl, rfl, rfl, Below.refl _ _⟩
     case round =>
       obtain ⟨k, s, hk, rfl, rfl, HSK, hbl⟩ := hrel
       have bx := (hbl.block g hq1).trans BX.out
       obtain ⟨⟨f0, f1⟩, _⟩ := row2 bx
       have hq9 : g < wr.heap.size := (Array.getElem?_eq_some_iff.1 bx).1
       by_cases hlt : k < rc.2.length
       · obtain ⟨q, off, rfl, hq, hcell⟩ := NB.out (by omega)
         obtain ⟨d0, d1, d2⟩ := hcell k hlt
         have hnk := HNT.out.2 _ (List.getElem_mem hlt)
         have hwk := HWK.out k hlt (by omega)
         obtain ⟨n, hn⟩ : ∃ n, n = rc.2[k] := ⟨_, rfl⟩
         rw [← hn] at d0 d1 d2 hnk hwk
         have g0 := (hbl.cell (p := ⟨q, off + k*3, none⟩) hq).trans d0
         have g1 := (hbl.cell (p := ⟨q, off + k*3+1, none⟩) hq).trans d1
         have g2 := (hbl.cell (p := ⟨q, off + k*3+2, none⟩) hq).trans d2
         have hqw : q < wr.heap.size := Nat.lt_of_lt_of_le hq hbl.size
         have c1 := (hbl.cell (p := ⟨b, 1, none⟩) hb1).trans C2.out
         have hbw : b < wr.heap.size := Nat.lt_of_lt_of_le hb1 hbl.size
         obtain ⟨e1, e2, e3, e4, e5, e6⟩ := hnk
         obtain ⟨m, hm⟩ := Int.eq_ofNat_of_zero_le e1
         have hmc : m < S.c.length := by omega
         obtain ⟨cb, coff, rfl, hcb, hcc⟩ := HRC.out (by omega)
         have hbl0 := X1.out.trans (hbl.mono X1.out.size)
         have m0 := (hbl0.cell (p := ⟨cb, coff + m*2, none⟩) hcb).trans (hcc m hmc).1
         have hcw : cb < wr.heap.size := Nat.lt_of_lt_of_le hcb hbl0.size
         have har := art_in HCV.out hmc
         have hs4 : shopS.length = 4 := rfl
         have hwx : ws[k]'(by omega) = dec (pA S.c m) ++ [32] ++ dec n.ru ++ [32] ++ dec n.am := by rw [hwk]; unfold ntW; rw [hm, Int.toNat_natCast]
         rw [hm] at g0
         have hjn := jn_succ ws (k := k) (by omega)
         rw [hwx, ← HSK.out] at hjn
         have hsl : s.length ≤ 10000 := by
           have h1 := jn_take_len (k := k) HPW.out
           rw [HSK.out]
           have h2 : ws.length * 33 ≤ 48 * 33 := Nat.mul_le_mul_right _ (by omega)
           omega
         have l1 := dec_short (n := pA S.c m) (by omega) (by omega)
         have l2 := dec_short (n := n.ru) (by omega) (by omega)
         have l3 := dec_short (n := n.am) (by omega) (by omega)
         have H1 := Lib.hid (fun x : Later wr => Calls.later_of (decimal_run (pA S.c m) x.wld (by omega) (by omega)))
         have H2 := Lib.hid (fun x : Later wr => Calls.later_of (decimal_run n.ru x.wld (by omega) (by omega)))
         have H3 := Lib.hid (fun x : Later wr => Calls.later_of (decimal_run n.am x.wld (by omega) (by omega)))
         have hk0 : (0 : Int) ≤ (k : Int) := by omega
         have hk1 : (k : Int) < (rc.2.length : Int) := by omega
         have hk2 : decide (k < rc.2.length) = true := by simp; omega
         have hm0 : (0 : Int) ≤ (m : Int) := by omega
         have hm1 : (m : Int) < (S.c.length : Int) := by omega
         by_cases h0 : k = 0
         · have hz : decide (0 < (k : Int)) = false := by simp; omega
           have hz2 : decide (0 < k) = false := by simp; omega
           rw [if_pos h0] at hjn
           have hs0 : s = [] := by rw [HSK.out, h0]; rfl
           obtain ⟨X1, X2, X3, X4, X5, A1, A2, A3, A4, A5, hX⟩ := add_nt s (dec (pA S.c m)) (dec n.ru) (dec n.am) (by omega)
           have fk : Hid (X5 = jn (ws.take (k + 1))) := by rw [Hid, hX, hjn, hs0]; rfl
           clear h0 hjn hX hs0 l1 l2 l3 e1 e2 e3 e4 e5 e6 hm hwk hwx hsl hn d0 d1 d2 hcell hcc har
           go_wp2
           refine wp_region_later (by kernel_rfl) (by kernel_rfl) ?_
           repeat (go_big_quiet_step ((go_at_call 49; first | (with_reducible exact H1.out _) | (with_reducible exact H2.out _) | (with_reducible exact H3.out _))))
           refine wpQuiet_nil ?_
           rintro _ ⟨x, rfl⟩
           go_wp2
           go_roundw
           case rel => exact ⟨k + 1, _, by omega, by go_num, rfl, fk, hbl.trans (x.below.mono hbl.size)⟩
           case measure => simp [intOf]; omega
         · have hz : decide (0 < (k : Int)) = true := by simp; omega
           have hz2 : decide (0 < k) = true := by simp; omega
           rw [if_neg h0] at hjn
           have A0 := add_semi s (by omega)
           obtain ⟨s2, hs2⟩ : ∃ s2, s2 = s ++ [59] := ⟨_, rfl⟩
           have hl4 : s2.length ≤ 10001 := by rw [hs2, List.length_append, List.length_singleton]; omega
           rw [← hs2] at A0 hjn
           obtain ⟨X1, X2, X3, X4, X5, A1, A2, A3, A4, A5, hX⟩ := add_nt s2 (dec (pA S.c m)) (dec n.ru) (dec n.am) (by omega)
           have fk : Hid (X5 = jn (ws.take (k + 1))) := by rw [Hid, hX, hjn]
           clear h0 hjn hX hs2 hl4 l1 l2 l3 e1 e2 e3 e4 e5 e6 hm hwk hwx hn d0 d1 d2 hcell hcc har
           go_wp2
           refine wp_region_later (by kernel_rfl) (by kernel_rfl) ?_
           repeat (go_big_quiet_step ((go_at_call 49; first | (with_reducible exact H1.out _) | (with_reducible exact H2.out _) | (with_reducible exact H3.out _))))
           refine wpQuiet_nil ?_
           rintro _ ⟨x, rfl⟩
           go_wp2
           go_roundw
           case rel => exact ⟨k + 1, _, by omega, by go_num, rfl, fk, hbl.trans (x.below.mono hbl.size)⟩
           case measure => simp [intOf]; omega
       · have hle : decide ((k : Int) < (rc.2.length : Int)) = false := by simp; omega
         have hle2 : decide (k < rc.2.length) = false := by simp; omega
         have fk : Hid (s = jn ws) := by rw [Hid, HSK.out, List.take_of_length_le (by omega)]
         have X9 := Lib.hid (X1.out.trans (hbl.mono X1.out.size))
         clear hbl
         go_wp2
         go_ret
         exact ⟨by rw [fin.out, fk.out] <;> rfl, by rw [fin.out]; exact HS.out.below X9.out (Nat.le_refl _), grownBy_of_below X9.out⟩
end Go.Proofs.YtijofgaekmahkaaGreatDoor

namespace Go.Proofs.YtijofgaekmahkaaGreatDoor
open Go.RowKit
theorem first_at (c : UInt8) : ∀ T : List UInt8, (∀ b ∈ T, b ≠ c) ∨ ∃ x r, T = x ++ c :: r ∧ ∀ b ∈ x, b ≠ c
 | [] => .inl (by simp)
 | b :: t => by
   by_cases h : b = c
   · exact .inr ⟨[], t, by rw [h]; rfl, by simp⟩
   · rcases first_at c t with k | ⟨x, r, h1, h2⟩
     · exact .inl (fun z hz => by rcases List.mem_cons.1 hz with rfl | hz <;> first | exact h | exact k z hz)
     · exact .inr ⟨b :: x, r, by rw [h1]; rfl, fun z hz => by rcases List.mem_cons.1 hz with rfl | hz <;> first | exact h | exact h2 z hz⟩
theorem words_spl : ∀ (n : Nat) (T : List UInt8), T.length ≤ n → wordsOf T = spl 32 T
 | n, T, hn => by
   rcases first_at 32 T with h | ⟨x, r, rfl, hx⟩
   · rw [spl_clean 32 T h]
     unfold wordsOf Lib.split
     rw [Lib.count_miss (index_no 32 T h)]
     rfl
   · cases n with
     | zero => simp at hn
     | succ n =>
       have hi := index_clean 32 x r hx
       have hdrop : (x ++ 32 :: r).drop (x.length + 1) = r := by simp [List.drop_append]
       have ih := words_spl n r (by simp only [List.length_append, List.length_cons] at hn; omega)
       rw [spl_at 32 x r hx, ← ih]
       unfold wordsOf Lib.split
       rw [Lib.count_hit (by simp) hi, Nat.add_comm 1, Lib.splitK, if_neg (by rw [hi]; simp), hi]
       simp only [Int.toNat_natCast, List.length_singleton, Nat.add_zero]
       rw [hdrop]
       simp
end Go.Proofs.YtijofgaekmahkaaGreatDoor

namespace Go.Proofs.YtijofgaekmahkaaGreatDoor
open Go.RowKit
theorem lnW_first (T : List UInt8) : (∃ x r, T = x ++ 32 :: r ∧ lnW T 0 = x) ∨ lnW T 0 = T := by
 rcases first_at 32 T with h | ⟨x, r, h1, h2⟩
 · right
   unfold lnW
   rw [spl_clean 32 T h]
   rfl
 · left
   refine ⟨x, r, h1, ?_⟩
   unfold lnW
   rw [h1, spl_at 32 x r h2]
   rfl
theorem rule_word {T : List UInt8} (h : 5 < T.length) : (T.take 5 = [114, 117, 108, 101, 32]) ↔ lnW T 0 = kRule := by
 constructor
 · intro h1
   have h2 : T = kRule ++ 32 :: T.drop 5 := by
     have h3 := (List.take_append_drop 5 T).symm
     rw [h1] at h3
     exact h3
   unfold lnW
   rw [h2, spl_at 32 kRule _ (by decide)]
   rfl
 · intro h1
   rcases lnW_first T with ⟨x, r, h2, h3⟩ | h2
   · rw [h1] at h3
     rw [h2, ← h3]
     rfl
   · rw [h1] at h2
     rw [← h2] at h
     exact absurd h (by decide)
theorem cmdT_add {T : List UInt8} (h : lnW T 0 = kAdd ∧ lnN T = 3) : cmdT T = .add (pI (lnW T 1)) (pI (lnW T 2)) := if_pos h
theorem cmdT_take {T : List UInt8} (h : lnW T 0 = kTake ∧ lnN T = 3) : cmdT T = .take (pI (lnW T 1)) (pI (lnW T 2)) := by
 unfold cmdT
 rw [if_neg (fun k => absurd (k.1.symm.trans h.1) (by decide)), if_pos h]
theorem cmdT_rule {T : List UInt8} (h : lnW T 0 = kRule ∧ 5 < T.length) : cmdT T = .rule (T.drop 5) := by
 unfold cmdT
 rw [if_neg (fun k => absurd (k.1.symm.trans h.1) (by decide)), if_neg (fun k => absurd (k.1.symm.trans h.1) (by decide)), if_pos h]
theorem cmdT_coupon {T : List UInt8} (h : lnW T 0 = kCoupon ∧ lnN T = 2) : cmdT T = .coupon (pI (lnW T 1)) := by
 unfold cmdT
 rw [if_neg (fun k => absurd (k.1.symm.trans h.1) (by decide)), if_neg (fun k => absurd (k.1.symm.trans h.1) (by decide)), if_neg (fun k => absurd (k.1.symm.trans h.1) (by decide)), if_pos h]
structure NoW (T : List UInt8) : Prop where
 a : ¬ (lnW T 0 = kAdd ∧ lnN T = 3)
 t : ¬ (lnW T 0 = kTake ∧ lnN T = 3)
 r : ¬ (lnW T 0 = kRule ∧ 5 < T.length)
 c : ¬ (lnW T 0 = kCoupon ∧ lnN T = 2)
theorem cmdT_no {T : List UInt8} (h : NoW T) : cmdT T = if T = kTotal then .total else if T = kPay then .pay else if T = kNotes then .notes else if T = kConf then .conf else .what := by
 unfold cmdT
 rw [if_neg h.a, if_neg h.t, if_neg h.r, if_neg h.c]
theorem cmdT_total {T : List UInt8} (h : NoW T) (h1 : T = kTotal) : cmdT T = .total := by rw [cmdT_no h, if_pos h1]
theorem cmdT_pay {T : List UInt8} (h : NoW T) (h1 : T = kPay) : cmdT T = .pay := by rw [cmdT_no h, if_neg (by rw [h1]; decide), if_pos h1]
theorem cmdT_notes {T : List UInt8} (h : NoW T) (h1 : T = kNotes) : cmdT T = .notes := by rw [cmdT_no h, if_neg (by rw [h1]; decide), if_neg (by rw [h1]; decide), if_pos h1]
theorem cmdT_conf {T : List UInt8} (h : NoW T) (h1 : T = kConf) : cmdT T = .conf := by rw [cmdT_no h, if_neg (by rw [h1]; decide), if_neg (by rw [h1]; decide), if_neg (by rw [h1]; decide), if_pos h1]
theorem cmdT_what {T : List UInt8} (h : NoW T) (h1 : T ≠ kTotal) (h2 : T ≠ kPay) (h3 : T ≠ kNotes) (h4 : T ≠ kConf) : cmdT T = .what := by rw [cmdT_no h, if_neg h1, if_neg h2, if_neg h3, if_neg h4]
theorem lnW_len (T : List UInt8) (k : Nat) : (lnW T k).length ≤ T.length := by
 unfold lnW
 by_cases h : k < (spl 32 T).length
 · rw [List.getD_eq_getElem?_getD, List.getElem?_eq_getElem h]
   exact (spl_len 32 T).2 _ (List.getElem_mem h)
 · rw [List.getD_eq_getElem?_getD, List.getElem?_eq_none (by omega)]
   exact Nat.zero_le _
end Go.Proofs.YtijofgaekmahkaaGreatDoor
