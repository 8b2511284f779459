/- Joined texts: What both readings of a text end in. Walk: a rule added at the reference's desk. Walk: a coupon added at the reference's desk. Memory of a receipt that is made: what is left, the notes, their box. Conditions: none. -/
import Derived.Test.YtijofgaekmahkaaGreatDoorM28
import Derived.Test.YtijofgaekmahkaaGreatDoorM29
import Derived.Handy
import Derived.Deep.RegionHeld3
import Derived.Deep.CutRange
namespace Go.Proofs.YtijofgaekmahkaaGreatDoor
open Go.RowKit
def rz : Rl := ⟨0, 0, 0, 0, 0, 0, 0, 0, 0, [], 0⟩
def Res (T : List UInt8) (ok : Bool) (r : Rl) : Prop := (ok = true ∧ okRu r = true ∧ textR r = T ∧ ∀ r0, okRu r0 = true → textR r0 = T → r0 = r) ∨ (ok = false ∧ r = rz ∧ ∀ r0, okRu r0 = true → textR r0 ≠ T)
theorem Res.len {T : List UInt8} {a : Bool} {r : Rl} (h : Res T a r) : r.counts.length ≤ 3 := by
 rcases h with ⟨_, h2, _⟩ | ⟨_, rfl, _⟩
 · rw [(okRu_num h2).2.2.2.2.2.2.1]; exact Nat.le_refl _
 · exact Nat.zero_le _
def Out (T : List UInt8) (w : World) (e : Ending) (w' : World) : Prop :=
 ∃ (ok : Bool) (r : Rl) (v : Value), Res T ok r ∧ e = .returned (.tuple #[ruV r v, .bool ok]) ∧ w'.ownsRow w.heap.size 38 2 v r.counts.length (pr r.counts) ∧ Below w.heap.size w w'
theorem Parsed.out {T : List UInt8} {w w' : World} {e : Ending} (h : Parsed T w e w') : Out T w e w' := by
 obtain ⟨h, hb⟩ := h
 rcases h with ⟨r, v, h1, h2, h3, rfl, ho⟩ | ⟨h1, rfl⟩
 · exact ⟨true, r, v, .inl ⟨rfl, h1, h2, h3⟩, rfl, ho, hb⟩
 · exact ⟨false, rz, .slice none 0 0, .inr ⟨rfl, rfl, h1⟩, rfl, World.ownsRow_nil _ _ _ _, hb⟩
theorem specOut (T : List UInt8) (w : World) (hl : T.length ≤ 1000000000) : Calls Tryz.prog 84 #[.string ⟨T.toArray⟩] w (Out T w) := (specParse T w hl).mono fun _ _ h => h.out
theorem implOut (T : List UInt8) (w : World) (hE : EnvB w.heap.size w) (hl : T.length ≤ 1000000000) : Calls Tryz.prog 33 #[.string ⟨T.toArray⟩] w (Out T w) := (implParse T w hE hl).mono fun _ _ h => h.out
theorem EnvB.upTo {B C : Nat} {W : World} (h : EnvB B W) (hc : B ≤ C) : EnvB C W := by
 obtain ⟨W0, h1, h2⟩ := h
 exact ⟨W0, Nat.le_trans h1 hc, h2⟩
theorem EnvB.any {B : Nat} {W W' : World} {row : Option Nat} (h : EnvB B W) (hg : W.grownBy W' row) (hr : ∀ k, row = some k → B ≤ k) : EnvB B W' := by
 cases row with
 | none => exact h.below (below_of_grownBy hg)
 | some k => exact h.grown hg (hr k rfl)
end Go.Proofs.YtijofgaekmahkaaGreatDoor

namespace Go.Proofs.YtijofgaekmahkaaGreatDoor
open Go.RowKit
theorem Res.parse {T : List UInt8} {ok : Bool} {r : Rl} (h : Res T ok r) : parseT T = if ok then some r else none := by
 rcases h with ⟨rfl, h2, h3, h4⟩ | ⟨rfl, _, h3⟩
 · have hx : ∃ q, okRu q = true ∧ textR q = T := ⟨r, h2, h3⟩
   unfold parseT
   rw [dif_pos hx]
   exact congrArg some (h4 _ hx.choose_spec.1 hx.choose_spec.2)
 · unfold parseT
   rw [dif_neg fun ⟨q, h1, h2⟩ => h3 q h1 h2]
   rfl
theorem rule_no {S : Se} {T : List UInt8} {ok : Bool} {r : Rl} (h : Res T ok r) (hk : (ok && okRs (S.rs ++ [r])) = false) : stepC S (.rule T) = (S, tNo) := by
 have hp := h.parse
 cases ok
 · exact stepC_none hp
 · rw [stepC_some hp, if_neg (by rw [Bool.true_and] at hk; rw [hk]; simp)]
theorem rule_yes {S : Se} {T : List UInt8} {ok : Bool} {r : Rl} (h : Res T ok r) (h1 : ok = true) (hk : okRs (S.rs ++ [r]) = true) : stepC S (.rule T) = ({ S with rs := S.rs ++ [r] }, tOk) := by
 have hp := h.parse
 subst h1
 rw [stepC_some hp, if_pos hk]
theorem Res.ok {T : List UInt8} {r : Rl} (h : Res T true r) : okRu r = true := by
 rcases h with ⟨_, h2, _⟩ | ⟨h1, _⟩
 · exact h2
 · cases h1
theorem rls_snoc (l : List Rx) (x : Rx) : rls (l ++ [x]) = rls l ++ [x.r] := by simp [rls]
set_option maxHeartbeats 8000000 in
set_option maxRecDepth 100000 in
theorem deskRule_any (b : Nat) (S : Se) (T : List UInt8) (w : World) (h : SesD w b S) (hl : T.length ≤ 1000000000) :
   Calls Tryz.prog 44 #[.pointer (some ⟨b, 0, none⟩), .string ⟨T.toArray⟩] w fun e w' => e = .returned (.string ⟨(stepC S (.rule T)).2.toArray⟩) ∧ SesD w' b (stepC S (.rule T)).1 ∧ w.grownBy w' (some b) := by
 obtain ⟨u, v, z, y, hb, sv⟩ := h
 have hbs := sv.lt
 obtain ⟨l, hrl, hry, hyo, hxo⟩ := sv.r
 have hshp := hry.shp
 have hsix : l.length ≤ 6 := by have h9 := (okRs_pr sv.ok.rs).2.2; rw [← hrl, rls_len] at h9; exact h9
 have hok : ∀ x ∈ l, okRu x.r = true := fun x hx => okRs_mem sv.ok.rs x.r (by rw [← hrl]; exact List.mem_map.2 ⟨x, hx, rfl⟩)
 obtain ⟨yo, ycap, rfl, _⟩ := hry.open
 have HBH := Lib.hid hb
 have SV := Lib.hid sv
 have HRL := Lib.hid hrl
 have HRY := Lib.hid hry
 have HXO := Lib.hid hxo
 have HSH := Lib.hid hshp
 have HOK := Lib.hid hok
 clear hb sv hrl hry hyo hxo hshp hok
 go_enter Tryz.func44, Tryz.ntmps44
 go_upto_region 2 with (go_at_call 84; refine (specOut T w hl).mono ?_; rintro e w1 ⟨ok, r, v9, hres, rfl, ho, x1⟩; obtain ⟨po, pc, hv9, _⟩ := owns_shape ho; subst hv9; unfold ruV; have RES := Lib.hid hres; have O1 := Lib.hid ho; have X1 := Lib.hid x1; clear hres ho x1)
 have a1 : (w1.alloc (.cells #[.int .i64 r.num, .int .i64 r.lvl, .int .i64 r.rank, .int .i64 r.group, .int .i64 r.kind, .int .i64 r.value, .int .i64 r.cap, .int .i64 r.lo, .int .i64 r.hi, .slice po r.counts.length pc, .int .i64 r.coupon] 43)).heap[w1.heap.size]? = some (.cells #[.int .i64 r.num, .int .i64 r.lvl, .int .i64 r.rank, .int .i64 r.group, .int .i64 r.kind, .int .i64 r.value, .int .i64 r.cap, .int .i64 r.lo, .int .i64 r.hi, .slice po r.counts.length pc, .int .i64 r.coupon] 43 (0, 0)) := heap_alloc_new w1 _
 have d1 : Below w1.heap.size w1 (w1.alloc (.cells #[.int .i64 r.num, .int .i64 r.lvl, .int .i64 r.rank, .int .i64 r.group, .int .i64 r.kind, .int .i64 r.value, .int .i64 r.cap, .int .i64 r.lo, .int .i64 r.hi, .slice po r.counts.length pc, .int .i64 r.coupon] 43)) := (Below.refl _ w1).alloc (Nat.le_refl _) _
 obtain ⟨W1, hW⟩ : ∃ W1, W1 = w1.alloc (.cells #[.int .i64 r.num, .int .i64 r.lvl, .int .i64 r.rank, .int .i64 r.group, .int .i64 r.kind, .int .i64 r.value, .int .i64 r.cap, .int .i64 r.lo, .int .i64 r.hi, .slice po r.counts.length pc, .int .i64 r.coupon] 43) := ⟨_, rfl⟩
 rw [← hW] at a1 d1 ⊢
 have A1 := Lib.hid a1
 have X2 := Lib.hid (X1.out.trans (d1.mono X1.out.size))
 have O2 := Lib.hid (ownsRow_below O1.out d1 (Nat.le_refl _))
 have HY1 := Lib.hid (HRY.out.below X2.out (Nat.le_refl _))
 have BH1 := Lib.hid ((X2.out.block b hbs).trans HBH.out)
 have hb1 : b < W1.heap.size := Nat.lt_of_lt_of_le hbs X2.out.size
 have hz1 : w1.heap.size < W1.heap.size := (Array.getElem?_eq_some_iff.1 a1).1
 obtain ⟨⟨c0, c1, c2, c3⟩, _⟩ := row4 BH1.out
 have bz := box_at (r := r) (v := .slice po r.counts.length pc) A1.out
 have d0 := bz.c0
 have d1 := bz.c1
 have d2 := bz.c2
 have d3 := bz.c3
 have d4 := bz.c4
 have d5 := bz.c5
 have d6 := bz.c6
 have d7 := bz.c7
 have d8 := bz.c8
 have d9 := bz.c9
 have d10 := bz.c10
 have KP := Lib.hid (show ∀ w' : World, Below W1.heap.size W1 w' → w'.cell? ⟨b, 2, none⟩ = some (.slice yo l.length ycap) ∧ w'.cell? ⟨w1.heap.size, 0, none⟩ = some (.int .i64 r.num) ∧ w'.cell? ⟨w1.heap.size, 1, none⟩ = some (.int .i64 r.lvl) ∧ w'.cell? ⟨w1.heap.size, 2, none⟩ = some (.int .i64 r.rank) ∧ w'.cell? ⟨w1.heap.size, 3, none⟩ = some (.int .i64 r.group) ∧ w'.cell? ⟨w1.heap.size, 4, none⟩ = some (.int .i64 r.kind) ∧ w'.cell? ⟨w1.heap.size, 5, none⟩ = some (.int .i64 r.value) ∧ w'.cell? ⟨w1.heap.size, 6, none⟩ = some (.int .i64 r.cap) ∧ w'.cell? ⟨w1.heap.size, 7, none⟩ = some (.int .i64 r.lo) ∧ w'.cell? ⟨w1.heap.size, 8, none⟩ = some (.int .i64 r.hi) ∧ w'.cell? ⟨w1.heap.size, 9, none⟩ = some (.slice po r.counts.length pc) ∧ w'.cell? ⟨w1.heap.size, 10, none⟩ = some (.int .i64 r.coupon) ∧ Below W1.heap.size W1 w' from fun w' h => ⟨(h.cell (p := ⟨b, 2, none⟩) hb1).trans c2, (h.cell (p := ⟨w1.heap.size, 0, none⟩) hz1).trans d0, (h.cell (p := ⟨w1.heap.size, 1, none⟩) hz1).trans d1, (h.cell (p := ⟨w1.heap.size, 2, none⟩) hz1).trans d2, (h.cell (p := ⟨w1.heap.size, 3, none⟩) hz1).trans d3, (h.cell (p := ⟨w1.heap.size, 4, none⟩) hz1).trans d4, (h.cell (p := ⟨w1.heap.size, 5, none⟩) hz1).trans d5, (h.cell (p := ⟨w1.heap.size, 6, none⟩) hz1).trans d6, (h.cell (p := ⟨w1.heap.size, 7, none⟩) hz1).trans d7, (h.cell (p := ⟨w1.heap.size, 8, none⟩) hz1).trans d8, (h.cell (p := ⟨w1.heap.size, 9, none⟩) hz1).trans d9, (h.cell (p := ⟨w1.heap.size, 10, none⟩) hz1).trans d10, h⟩)
 have B0 : Below W1.heap.size W1 W1.drew := (Below.refl _ W1).drew
 clear a1 d1 hW O1 X1 bz
 go_cut [7] from 13 to 21 (fun r_ wx => ∃ (n0 : Nat) (ao : Option Addr) (k : Nat), r_ = .slice ao (l.length + 1) k ∧ b < n0 ∧ RuN W1.heap.size wx n0 r_ (l ++ [⟨r, .slice po r.counts.length pc⟩]) ∧ Below W1.heap.size W1 wx)
 case first =>
   go_region_held3 (fun w' => w'.cell? ⟨b, 2, none⟩ = some (.slice yo l.length ycap) ∧ w'.cell? ⟨w1.heap.size, 0, none⟩ = some (.int .i64 r.num) ∧ w'.cell? ⟨w1.heap.size, 1, none⟩ = some (.int .i64 r.lvl) ∧ w'.cell? ⟨w1.heap.size, 2, none⟩ = some (.int .i64 r.rank) ∧ w'.cell? ⟨w1.heap.size, 3, none⟩ = some (.int .i64 r.group) ∧ w'.cell? ⟨w1.heap.size, 4, none⟩ = some (.int .i64 r.kind) ∧ w'.cell? ⟨w1.heap.size, 5, none⟩ = some (.int .i64 r.value) ∧ w'.cell? ⟨w1.heap.size, 6, none⟩ = some (.int .i64 r.cap) ∧ w'.cell? ⟨w1.heap.size, 7, none⟩ = some (.int .i64 r.lo) ∧ w'.cell? ⟨w1.heap.size, 8, none⟩ = some (.int .i64 r.hi) ∧ w'.cell? ⟨w1.heap.size, 9, none⟩ = some (.slice po r.counts.length pc) ∧ w'.cell? ⟨w1.heap.size, 10, none⟩ = some (.int .i64 r.coupon) ∧ Below W1.heap.size W1 w')
     (first
       | assumption
       | exact KP.out _ B0
       | exact KP.out _ y2
       | exact KP.out _ y3
       | exact KP.out _ (y2.alloc y2.size _)
       | (refine KP.out _ ?_; go_grown; done))
     ((first
       | (refine step_ru0 rfl (.tmp 13) (.tmp 17) rfl W1 _ _ l rfl rfl (by go_grown) (Rd.below (B := W1.heap.size) HY1.out.1 (by go_grown) (Nat.le_refl _)) HSH.out (by omega) ?_; intro v2 w2 n2 z2 y2; obtain ⟨a2, k2, hv2⟩ := n2.shape; subst hv2; have s2 := y2.size)
       | (refine step_ru rfl (.tmp 18) (.tmp 20) rfl W1 _ _ _ l [⟨r, .slice po r.counts.length pc⟩] rfl rfl (by first | exact n2 | exact n2.alloc _) (by go_grown) (by first | (refine rule_rd _ _ r _ ?_; (first | rfl | (simp; done)); done) | (refine Rd.below (Rd.below (rule_rd _ _ r _ ?_) (Below.drew (Below.refl _ _)) (Nat.le_refl _)) z2 (Nat.le_refl _); (first | rfl | (simp; done)); done) | (refine Rd.below (Rd.below (rule_rd _ _ r _ ?_) (Below.drew ((Below.refl _ _).alloc (Nat.le_refl _) _)) (Nat.le_refl _)) z2 (Nat.le_refl _); (first | rfl | (simp; done)); done)) shp_one (by first | omega | (simp; omega)) ?_; intro v3 w3 n3 y3; obtain ⟨a3, k3, hv3⟩ := n3.shape; rw [List.length_append, List.length_singleton] at hv3; subst hv3)))
   all_goals go_wp2
   all_goals go_meet
   all_goals exact ⟨_, _, _, rfl, by first | omega | (simp; omega), n3, y3⟩
 case rest =>
   obtain ⟨n0, ao, k, rfl, hn0, hru, hx9⟩ := hcut
   have hb9 := (hx9.block b hb1).trans BH1.out
   have S9 := Lib.hid (SV.out.below (X2.out.trans (hx9.mono X2.out.size)) (Nat.le_refl _))
   have XC := Lib.hid (X2.out.trans (hx9.mono X2.out.size))
   have HB9 := Lib.hid hb9
   have R9 : Hid (RdR wc (.slice ao (l.length + 1) k) (l ++ [⟨r, .slice po r.counts.length pc⟩])) := by
     refine ⟨hru.rd, fun x hx => ?_⟩
     rcases List.mem_append.1 hx with hx | hx
     · exact (HY1.out.2 x hx).below hx9 (Nat.le_refl _)
     · rw [List.mem_singleton] at hx
       subst hx
       exact (Rd.of_owns O2.out).below hx9 (Nat.le_refl _)
   have OF : Hid (Off b (.slice ao (l.length + 1) k)) := hru.off hb1 (by omega)
   have OX : Hid (∀ q ∈ l ++ [(⟨r, .slice po r.counts.length pc⟩ : Rx)], Off b q.v) := fun q hq => by
     rcases List.mem_append.1 hq with hq | hq
     · exact HXO.out q hq
     · rw [List.mem_singleton] at hq
       subst hq
       exact Off.of_owns O2.out hbs
   have hbc : b < wc.heap.size := Nat.lt_of_lt_of_le hb1 hx9.size
   clear hru hx9 hb9 hn0 c0 c1 c2 c3 d0 d1 d2 d3 d4 d5 d6 d7 d8 d9 d10 B0
   cases ok
   · have fin := Lib.hid (rule_no (S := S) RES.out rfl)
     go_wp2
     go_ret
     exact ⟨by rw [fin.out]; rfl, by rw [fin.out]; exact ⟨_, _, _, _, HB9.out, S9.out⟩, grownBy_of_below XC.out⟩
   · have hro := RES.out.ok
     have HO : Hid (∀ x ∈ l ++ [(⟨r, .slice po r.counts.length pc⟩ : Rx)], okRu x.r = true) := fun x hx => by
       rcases List.mem_append.1 hx with hx | hx
       · exact HOK.out x hx
       · rw [List.mem_singleton] at hx
         subst hx
         exact hro
     cases hk : okRs (S.rs ++ [r])
     · have fin := Lib.hid (rule_no (S := S) RES.out hk)
       have HK : Hid (okRs (rls (l ++ [(⟨r, .slice po r.counts.length pc⟩ : Rx)])) = false) := by rw [Hid, rls_snoc, HRL.out]; exact hk
       clear hk hro
       go_wp2_with (go_at_call 85; refine (specRules_any _ _ _ R9.out HO.out).mono ?_; rintro e w5 ⟨rfl, x5⟩; rw [HK.out]; have X5 := Lib.hid x5; clear x5)
       go_ret
       exact ⟨by rw [fin.out]; rfl, by rw [fin.out]; exact ⟨_, _, _, _, (X5.out.block b hbc).trans HB9.out, S9.out.below X5.out (Nat.le_refl _)⟩, grownBy_of_below (XC.out.trans (X5.out.mono XC.out.size))⟩
     · have fin := Lib.hid (rule_yes (S := S) RES.out rfl hk)
       have HK : Hid (okRs (rls (l ++ [(⟨r, .slice po r.counts.length pc⟩ : Rx)])) = true) := by rw [Hid, rls_snoc, HRL.out]; exact hk
       have HKK := Lib.hid hk
       clear hk hro
       go_wp2_with (go_at_call 85; refine (specRules_any _ _ _ R9.out HO.out).mono ?_; rintro e w5 ⟨rfl, x5⟩; rw [HK.out]; have X5 := Lib.hid x5; obtain ⟨⟨g0, g1, g2, g3⟩, q0, q1, q2, q3⟩ := row4 ((x5.block b hbc).trans HB9.out); clear x5)
       go_ret
       exact ⟨by rw [fin.out]; rfl, by rw [fin.out]; exact ⟨_, _, _, _, SesD.set2 ((X5.out.block b hbc).trans HB9.out), ((S9.out.below X5.out (Nat.le_refl _)).grown (grown_set _ b 2 _)).rules (by rw [rls_snoc, HRL.out]) ((R9.out.below X5.out (Nat.le_refl _)).grown (grown_set _ b 2 _) OF.out OX.out) OF.out OX.out HKK.out⟩, grownBy_trans (grownBy_of_below (XC.out.trans (X5.out.mono XC.out.size))) (grown_set _ b 2 _)⟩
end Go.Proofs.YtijofgaekmahkaaGreatDoor

namespace Go.Proofs.YtijofgaekmahkaaGreatDoor
open Go.RowKit
theorem coupon_no {S : Se} {n : Int} (h : cpY S.cp n = false) : stepC S (.coupon n) = (S, tNo) := by rw [stepC_coupon, if_neg (by rw [h]; simp)]
theorem coupon_yes {S : Se} {n : Int} (h : cpY S.cp n = true) : stepC S (.coupon n) = ({ S with cp := cpL S.cp n }, tOk) := by rw [stepC_coupon, if_pos h]
theorem cpY_has {l : List Int} {n : Int} (h : hasQ l n = true) : cpY l n = false := by simp [cpY, h]
theorem cpY_wi {l : List Int} {n : Int} (h : wi n 1 9 = false) : cpY l n = false := by simp [cpY, h]
theorem cpY_three {l : List Int} {n : Int} (h : l.length = 3) : cpY l n = false := by simp [cpY, h]
theorem cpY_yes {l : List Int} {n : Int} (h1 : wi n 1 9 = true) (h2 : hasQ l n = false) (h3 : ¬ l.length = 3) : cpY l n = true := by simp [cpY, h1, h2, h3]
set_option maxHeartbeats 8000000 in
set_option maxRecDepth 100000 in
theorem deskCoupon_any (b : Nat) (S : Se) (n : Int) (w : World) (h : SesD w b S) :
   Calls Tryz.prog 48 #[.pointer (some ⟨b, 0, none⟩), .int .i64 n] w fun e w' => e = .returned (.string ⟨(stepC S (.coupon n)).2.toArray⟩) ∧ SesD w' b (stepC S (.coupon n)).1 ∧ w.grownBy w' (some b) := by
 obtain ⟨u, v, z, y, hb, sv⟩ := h
 have hb0 := sv.lt
 have hq := sv.q
 have hcp := sv.ok.cp
 have hl3 := (cpnQ_pr hcp).2
 obtain ⟨zo, zcap, rfl, _⟩ := sv.q.ints
 obtain ⟨⟨c0, c1, c2, c3⟩, f0, f1, f2, f3⟩ := row4 hb
 have HBH := Lib.hid hb
 have SV := Lib.hid sv
 have HZQ := Lib.hid hq
 have HCP := Lib.hid hcp
 have CQ := Lib.hid c3
 obtain ⟨i0, hi, hz0, hz1, hz2⟩ := info_parts Tryz.info3z
 have HI := Lib.hid hi
 have HZ0 := Lib.hid hz0
 have HZ1 := Lib.hid hz1
 have HZ2 := Lib.hid hz2
 have O0 := Lib.hid (World.ownsRow_made w #[] 0 (Nat.le_refl _) (by simp) (by simp) : (w.alloc (.cells #[] 3)).ownsRow w.heap.size 3 1 (.slice (some ⟨w.heap.size, 0, none⟩) 0 0) 0 (it []))
 have B0 : Hid (Below w.heap.size w (w.alloc (.cells #[] 3))) := (Below.refl _ w).alloc (Nat.le_refl _) _
 clear hi hz0 hz1 hz2 hb sv hq hcp c0 c1 c2 c3 f0 f1 f2 f3
 go_enter Tryz.func48, Tryz.ntmps48
 go_wp2
 go_loopw [5, 6] (fun o_ c_ wr => ∃ k : Nat, k ≤ 9 ∧ c_ = .int .i64 ((k : Int) + 1) ∧ Hid (wr.ownsRow w.heap.size 3 1 o_ (cpK S.cp n k).length (it (cpK S.cp n k))) ∧ Below w.heap.size w wr) (fun _ c_ _ => 10 - (intOf c_).toNat)
 case atStart => exact ⟨0, Nat.zero_le _, rfl, O0, B0.out⟩
 case round =>
   obtain ⟨k, hk, rfl, O, hbl⟩ := hrel
   have hlen := cpK_len S.cp n k
   have hbw : b < wr.heap.size := Nat.lt_of_lt_of_le hb0 hbl.size
   have cq := (hbl.cell (p := ⟨b, 3, none⟩) hb0).trans CQ.out
   obtain ⟨lo, lcap, hlo, _⟩ := owns_shape O.out
   subst hlo
   by_cases hlt : k < 9
   · have hle : decide ((k : Int) + 1 ≤ 9) = true := by simp; omega
     have ew : IntKind.i64.wrap ((k : Int) + 1 + 1) = (k : Int) + 1 + 1 := IntWalk.i64_in _ (by omega)
     have ez : ((k + 1 : Nat) : Int) = (k : Int) + 1 := by omega
     by_cases he : ((k + 1 : Nat) : Int) = n
     · have heb : ((k : Int) + 1 == n) = true := by rw [beq_iff_eq]; omega
       have HNX := Lib.hid (cpK_yes (l := S.cp) (n := n) (k := k) (.inl he))
       rw [ez] at HNX
       clear he hlen ez
       go_wp2_with (at_builtin; refine app_int rfl (.tmp 23) (.tmp 25) 34 rfl w.heap.size 3 _ i0 _ Tryz.underlying34 HI.out HZ0.out HZ1.out HZ2.out rfl _ (cpK S.cp n k) ((k : Int) + 1) rfl O.out rfl (by have h9 := cpK_len S.cp n k; omega) hbl.size ?_; intro v1 w3 ho3 hg3; have B3 := Lib.hid (below_row (hbl.alloc hbl.size _) hg3 (fun k hk => (O.out.lt k hk).1)); rw [← HNX.out] at ho3; have O3 := Lib.hid ho3; clear ho3 hg3)
       go_roundw
       case rel => exact ⟨k + 1, by omega, by go_num, O3, B3.out⟩
       case measure => simp [intOf]; omega
     · have heb : ((k : Int) + 1 == n) = false := by rw [beq_eq_false_iff_ne]; omega
       cases hq : hasQ S.cp ((k + 1 : Nat) : Int)
       · have HNX := Lib.hid (cpK_no (l := S.cp) (n := n) (k := k) (fun h => h.elim he (fun h => by rw [hq] at h; cases h)))
         have HQ := Lib.hid hq
         rw [ez] at HQ
         clear he hlen ez hq
         go_wp2_with (go_at_call 88; refine (isIn_any S.cp _ ((k : Int) + 1) _ (HZQ.out.below hbl (Nat.le_refl _))).mono ?_; rintro e w9 ⟨rfl, h9⟩; replace h9 := h9.symm; subst h9; rw [HQ.out])
         go_roundw
         case rel => exact ⟨k + 1, by omega, by go_num, by rw [HNX.out]; exact O, hbl⟩
         case measure => simp [intOf]; omega
       · have HNX := Lib.hid (cpK_yes (l := S.cp) (n := n) (k := k) (.inr hq))
         have HQ := Lib.hid hq
         rw [ez] at HQ HNX
         clear he hlen ez hq
         go_wp2_with (first
           | (go_at_call 88; refine (isIn_any S.cp _ ((k : Int) + 1) _ (HZQ.out.below hbl (Nat.le_refl _))).mono ?_; rintro e w9 ⟨rfl, h9⟩; replace h9 := h9.symm; subst h9; rw [HQ.out])
           | (at_builtin; refine app_int rfl (.tmp 23) (.tmp 25) 34 rfl w.heap.size 3 _ i0 _ Tryz.underlying34 HI.out HZ0.out HZ1.out HZ2.out rfl _ (cpK S.cp n k) ((k : Int) + 1) rfl O.out rfl (by have h9 := cpK_len S.cp n k; omega) hbl.size ?_; intro v1 w3 ho3 hg3; have B3 := Lib.hid (below_row (hbl.alloc hbl.size _) hg3 (fun k hk => (O.out.lt k hk).1)); rw [← HNX.out] at ho3; have O3 := Lib.hid ho3; clear ho3 hg3))
         go_roundw
         case rel => exact ⟨k + 1, by omega, by go_num, O3, B3.out⟩
         case measure => simp [intOf]; omega
   · have hk9 : k = 9 := by omega
     subst hk9
     have O9 : Hid (wr.ownsRow w.heap.size 3 1 (.slice lo (cpL S.cp n).length lcap) (cpL S.cp n).length (it (cpL S.cp n))) := O
     have hll : (cpK S.cp n 9).length = (cpL S.cp n).length := rfl
     rw [hll]
     obtain ⟨cl, hcl⟩ : ∃ cl, cl = cpL S.cp n := ⟨_, rfl⟩
     rw [← hcl] at O9 ⊢
     have HCL := Lib.hid hcl
     clear O hlen hll hcl
     have hle : decide (((9 : Nat) : Int) + 1 ≤ 9) = false := by decide
     have RL := Lib.hid (Rd.of_owns O9.out)
     have K1 := Lib.hid (isIn_any S.cp _ n wr (HZQ.out.below hbl (Nat.le_refl _)))
     have K2 := Lib.hid (isIn_any cl _ n wr RL.out)
     cases hq : hasQ S.cp n
     · have HQ := Lib.hid hq
       cases hw : wi n 1 9
       · have HH : Hid (hasQ cl n = false) := by rw [Hid, HCL.out, cpL_has]; exact hw
         have fin := Lib.hid (coupon_no (S := S) (cpY_wi (l := S.cp) hw))
         clear hq hw
         go_wp2_with (first
           | (go_at_call 88; (with_reducible refine K1.out.mono ?_); rintro e w9 ⟨rfl, h9⟩; replace h9 := h9.symm; subst h9; rw [HQ.out])
           | (go_at_call 88; (with_reducible refine K2.out.mono ?_); rintro e w9 ⟨rfl, h9⟩; replace h9 := h9.symm; subst h9; rw [HH.out]))
         go_ret
         exact ⟨by rw [fin.out]; rfl, by rw [fin.out]; exact ⟨_, _, _, _, (hbl.block b hb0).trans HBH.out, SV.out.below hbl (Nat.le_refl _)⟩, grownBy_of_below hbl⟩
       · have HH : Hid (hasQ cl n = true) := by rw [Hid, HCL.out, cpL_has]; exact hw
         have hcnt := cpL_count HCP.out (by rw [wi_true] at hw; exact hw) hq
         rw [← HCL.out] at hcnt
         have HCNT := Lib.hid hcnt
         have HW := Lib.hid hw
         by_cases h3 : S.cp.length = 3
         · have hd : decide (3 < (cl.length : Int)) = true := by simp; omega
           have fin := Lib.hid (coupon_no (S := S) (n := n) (cpY_three (l := S.cp) h3))
           clear hq hw hcnt h3
           go_wp2_with (first
             | (go_at_call 88; (with_reducible refine K1.out.mono ?_); rintro e w9 ⟨rfl, h9⟩; replace h9 := h9.symm; subst h9; rw [HQ.out])
             | (go_at_call 88; (with_reducible refine K2.out.mono ?_); rintro e w9 ⟨rfl, h9⟩; replace h9 := h9.symm; subst h9; rw [HH.out]))
           go_ret
           exact ⟨by rw [fin.out]; rfl, by rw [fin.out]; exact ⟨_, _, _, _, (hbl.block b hb0).trans HBH.out, SV.out.below hbl (Nat.le_refl _)⟩, grownBy_of_below hbl⟩
         · have hd : decide (3 < (cl.length : Int)) = false := by simp; omega
           have fin := Lib.hid (coupon_yes (S := S) (cpY_yes (l := S.cp) hw hq h3))
           have HOK : Hid (cpnQ cl = true) := by rw [Hid, HCL.out]; exact cpL_ok (by rw [← HCL.out]; omega)
           rw [← HCL.out] at fin
           obtain ⟨⟨g0, g1, g2, g3⟩, q0, q1, q2, q3⟩ := row4 ((hbl.block b hb0).trans HBH.out)
           have OF := Lib.hid (Off.of_owns O9.out hb0)
           clear hq hw hcnt h3
           go_wp2_with (first
             | (go_at_call 88; (with_reducible refine K1.out.mono ?_); rintro e w9 ⟨rfl, h9⟩; replace h9 := h9.symm; subst h9; rw [HQ.out])
             | (go_at_call 88; (with_reducible refine K2.out.mono ?_); rintro e w9 ⟨rfl, h9⟩; replace h9 := h9.symm; subst h9; rw [HH.out]))
           go_ret
           exact ⟨by rw [fin.out]; rfl, by rw [fin.out]; exact ⟨_, _, _, _, SesD.set3 ((hbl.block b hb0).trans HBH.out), ((SV.out.below hbl (Nat.le_refl _)).grown (grown_set _ b 3 _)).coupons (RL.out.grown (grown_set _ b 3 _) OF.out) OF.out HOK.out⟩, grownBy_trans (grownBy_of_below hbl) (grown_set _ b 3 _)⟩
     · have HQ := Lib.hid hq
       have fin := Lib.hid (coupon_no (S := S) (cpY_has (l := S.cp) hq))
       clear hq
       go_wp2_with (go_at_call 88; (with_reducible refine K1.out.mono ?_); rintro e w9 ⟨rfl, h9⟩; replace h9 := h9.symm; subst h9; rw [HQ.out])
       go_ret
       exact ⟨by rw [fin.out]; rfl, by rw [fin.out]; exact ⟨_, _, _, _, (hbl.block b hb0).trans HBH.out, SV.out.below hbl (Nat.le_refl _)⟩, grownBy_of_below hbl⟩
end Go.Proofs.YtijofgaekmahkaaGreatDoor

namespace Go.Proofs.YtijofgaekmahkaaGreatDoor
open Go.RowKit
def subK (left off : List Int) (k : Nat) : List Int := (List.range left.length).map fun j => if j < k then iG left j - iG off j else iG left j
theorem subK_zero (left off : List Int) : subK left off 0 = left := by
 apply List.ext_getElem
 · simp [subK]
 · intro i h1 h2
   simp [subK, iG, List.getD, h2]
theorem subK_end (left off : List Int) : subK left off left.length = subL left off := by
 unfold subK subL
 apply List.map_congr_left
 intro j hj
 rw [if_pos (List.mem_range.1 hj)]
theorem subK_get {left off : List Int} {k : Nat} (hk : k < left.length) : iG (subK left off k) k = iG left k := by
 unfold subK
 rw [iG_range _ hk, if_neg (Nat.lt_irrefl _)]
theorem subK_set {left off : List Int} {k : Nat} : (subK left off k).set k (iG left k - iG off k) = subK left off (k + 1) := by
 apply List.ext_getElem
 · simp [subK]
 · intro i h1 h2
   have hi : i < left.length := by simpa [subK] using h2
   rw [List.getElem_set]
   simp only [subK, List.getElem_map, List.getElem_range]
   by_cases e : k = i
   · subst e; simp
   · by_cases h : i < k
     · rw [if_neg e, if_pos h, if_pos (by omega)]
     · rw [if_neg e, if_neg h, if_neg (by omega)]
theorem subK_keep {left off : List Int} {k : Nat} (hk : k < left.length) (h : iG off k = 0) : subK left off (k + 1) = subK left off k := by
 rw [← subK_set, h, Int.sub_zero]
 apply List.ext_getElem
 · simp
 · intro i h1 h2
   rw [List.getElem_set]
   split
   · rename_i e
     subst e
     rw [← iG_at h2, subK_get hk]
   · rfl
theorem point_ok {s : List Art} {c : List (Int × Int)} {cp : List Int} (hp : vCart s c = true) (hq : cpnQ cp = true) : PtOk (totK s c c.length) (grpL s c) cp := by
 have h8 := (vLines_all (vCart_pr hp).2).2
 refine ⟨by rw [wi_true]; exact totS_bd hp, rfl, fun j hj => ?_, hq⟩
 have h := grp_get s c c.length (g := j) hj
 have hb := cntG_bd hp (j : Int) c.length (Nat.le_refl _)
 unfold grpL
 rw [h, wi_true]
 omega
theorem NtR.set {B n0 g i : Nat} {w : World} {v x : Value} {l : List Nt} (h : NtR B w n0 v l) (hg : g < B) : NtR B (w.setCell ⟨g, i, none⟩ x) n0 v l := by
 rcases h with h | h
 · exact .inl h
 · exact .inr (owns_off h (fun k hk => by have := (h.lt k hk).1; omega) x)
structure Rcm (w2 w5 : World) (w4 : Nat) (lo : Option Addr) (n lcap bo n0 : Nat) (nv : Value) (left : List Int) (nt : List Nt) (W : World) : Prop where
 be : Below w2.heap.size w2 W
 mi : ∀ i, w4 ≤ i → i < w5.heap.size → W.heap[i]? = w5.heap[i]?
 sz : w5.heap.size ≤ W.heap.size
 lf : W.ownsRow w2.heap.size 3 1 (.slice lo n lcap) n (it left)
 nt : NtR w5.heap.size W n0 nv nt
 bx : W.heap[bo]? = some (.cells #[.slice lo n lcap, nv] 76 (0, 0))
structure Rcc (w2 w5 : World) (w4 : Nat) (lo : Option Addr) (bo : Nat) : Prop where
 lo : ∀ g, lo = some ⟨g, 0, none⟩ → w2.heap.size ≤ g ∧ g < bo
 b2 : w2.heap.size ≤ bo
 b4 : bo < w4
 b5 : w4 ≤ w5.heap.size
theorem Rcm.below {w2 w5 W W' : World} {w4 n lcap bo n0 B : Nat} {lo : Option Addr} {nv : Value} {left : List Int} {nt : List Nt} (h : Rcm w2 w5 w4 lo n lcap bo n0 nv left nt W) (c : Rcc w2 w5 w4 lo bo) (hb : Below B W W') (hB : W.heap.size ≤ B) : Rcm w2 w5 w4 lo n lcap bo n0 nv left nt W' := by
 have hs := h.sz
 have h4 := c.b4
 have h5 := c.b5
 have h2 := c.b2
 refine ⟨h.be.trans (hb.mono (by omega)), fun i h1 h2 => (hb.block i (by omega)).trans (h.mi i h1 h2), Nat.le_trans hs hb.size, ownsRow_below h.lf hb hB, h.nt.below hb hB, (hb.block bo (by omega)).trans h.bx⟩
theorem Rcm.left_set {w2 w5 W : World} {w4 n lcap bo n0 g : Nat} {nv : Value} {left : List Int} {nt : List Nt} (h : Rcm w2 w5 w4 (some ⟨g, 0, none⟩) n lcap bo n0 nv left nt W) (c : Rcc w2 w5 w4 (some ⟨g, 0, none⟩) bo) (k : Nat) (x : Int) : Rcm w2 w5 w4 (some ⟨g, 0, none⟩) n lcap bo n0 nv (left.set k x) nt (W.setCell ⟨g, k, none⟩ (.int .i64 x)) := by
 have hg := c.lo g rfl
 have h4 := c.b4
 have h5 := c.b5
 exact ⟨h.be.setCell hg.1 _, fun i h1 h2 => (heap_setCell_other W ⟨g, k, none⟩ i _ (fun e => by simp only at e; omega)).trans (h.mi i h1 h2), by simp only [World.size_setCell]; exact h.sz, (owns_set1 h.lf k x).1, h.nt.set (by omega), heap_set h.bx (by omega)⟩
theorem Rcm.note {w2 w5 W W' : World} {w4 n lcap bo n0 : Nat} {lo : Option Addr} {nv v' : Value} {left : List Int} {nt nt' : List Nt} (h : Rcm w2 w5 w4 lo n lcap bo n0 nv left nt W) (c : Rcc w2 w5 w4 lo bo) (hn : NtR w5.heap.size W' n0 v' nt') (hb : Below w5.heap.size W W') (hk : KeepT W W') : Rcm w2 w5 w4 lo n lcap bo n0 v' left nt' (W'.setCell ⟨bo, 1, none⟩ v') := by
 have h4 := c.b4
 have h5 := c.b5
 have h2 := c.b2
 have hbx := (hb.block bo (by omega)).trans h.bx
 have hlf := hk _ _ _ _ _ _ (by decide) h.lf
 refine ⟨(h.be.trans (hb.mono (by omega))).setCell h2 _, fun i h1 h2 => (heap_setCell_other W' ⟨bo, 1, none⟩ i _ (fun e => by simp only at e; omega)).trans ((hb.block i h2).trans (h.mi i h1 h2)), by simp only [World.size_setCell]; exact Nat.le_trans h.sz hb.size, owns_off hlf (owns_ne_ty hlf hbx (by decide)) _, hn.set (by omega), Joins.block_setCell (i := 1) hbx _⟩
theorem note_rd (w : World) (x : Nt) : Rd (w.alloc (.cells #[.int .i64 x.ln, .int .i64 x.ru, .int .i64 x.am] 80)) 3 (.slice (some ⟨w.heap.size, 0, none⟩) 1 1) [x].length (nts [x]) :=
 ⟨rfl, _, 1, rfl, Nat.le_refl _, by decide, fun _ => ⟨w.heap.size, 0, rfl, by rw [World.size_alloc]; exact Nat.lt_succ_self _, fun j u hu => by rw [Nat.zero_add, cell_of_row _ _ j _ _ _ (heap_alloc_new w _)]; simpa [nts, ntv] using hu⟩⟩
theorem rule_owns {w : World} {g base : Nat} {r : Rl} {v : Value} (h : w.heap[g]? = some (.cells (ruL r v).toArray 43 (0, 0))) (hg : base ≤ g) : w.ownsRow base 43 11 (.slice (some ⟨g, 0, none⟩) 1 1) 1 (ruL r v) :=
 ⟨rfl, .inr ⟨g, 1, _, rfl, hg, h, Nat.le_refl _, by decide, rfl, by rfl⟩⟩
end Go.Proofs.YtijofgaekmahkaaGreatDoor
