/- Joined texts: Walk: the point of a cart, in the program. Rows of rules under stores; plain law: sorting by insertion. Walk: rules in their order, in the reference. Conditions: none. -/
import Derived.Test.YtijofgaekmahkaaGreatDoorM15
import Derived.Laws.IdiomCopy
namespace Go.Proofs.YtijofgaekmahkaaGreatDoor
open Go.RowKit
set_option maxHeartbeats 8000000 in
set_option maxRecDepth 100000 in
theorem implPoint_any (s : List Art) (u : Value) (c : List (Int × Int)) (v : Value) (cp : List Int) (z : Value) (w : World) (hs : Rd w 4 u s.length (ar s)) (hv : Rd w 2 v c.length (pr c)) (hz : Rd w 1 z cp.length (it cp)) (hp : vCart s c = true) (hq : cpnQ cp = true) :
   Calls Tryz.prog 71 #[u, v, z] w fun e w' => ∃ (a1 : Option Addr) (k1 : Nat) (a2 : Option Addr) (k2 : Nat), e = .returned (.tuple #[.agg #[.int .i64 (totK s c c.length), .slice a1 3 k1, .slice a2 cp.length k2], .bool true]) ∧ Rd w' 1 (.slice a1 3 k1) 3 (it (grpL s c)) ∧ Rd w' 1 (.slice a2 cp.length k2) cp.length (it cp) ∧ Below w.heap.size w w' := by
 have HV := Lib.hid hv
 have HS := Lib.hid hs
 have HZ := Lib.hid hz
 have HP := Lib.hid hp
 have HQ := Lib.hid hq
 have hq3 := (cpnQ_pr hq).2
 have HT := Lib.hid (fTot_yes hp)
 obtain ⟨so, scap, rfl, _⟩ := hs.arts
 obtain ⟨co, ccap, rfl, _⟩ := hv.pairs
 obtain ⟨po, pcap, rfl, _, _, hrz⟩ := hz.ints
 obtain ⟨i0, hi, hz0, hz1, hz2⟩ := info_parts Tryz.info3z
 have HI := Lib.hid hi
 have HZ0 := Lib.hid hz0
 have HZ1 := Lib.hid hz1
 have HZ2 := Lib.hid hz2
 have b0 : Below w.heap.size w (w.alloc (.cells #[.int .i64 0, .slice none 0 0, .slice none 0 0] 110)) := (Below.refl _ w).alloc (Nat.le_refl _) _
 have bx := heap_alloc_new w (.cells #[.int .i64 0, .slice none 0 0, .slice none 0 0] 110)
 have hsz : w.heap.size < (w.alloc (.cells #[.int .i64 0, .slice none 0 0, .slice none 0 0] 110)).heap.size := by rw [World.size_alloc]; exact Nat.lt_succ_self _
 obtain ⟨W0, hW0⟩ : ∃ W0, W0 = w.alloc (.cells #[.int .i64 0, .slice none 0 0, .slice none 0 0] 110) := ⟨_, rfl⟩
 rw [← hW0] at b0 bx hsz
 have HW0 := Lib.hid hW0
 have HB0 := Lib.hid b0
 have BX := Lib.hid bx
 have HSZ := Lib.hid hsz
 cases po with
 | none =>
   have hcn : cp.length = 0 := by
     by_cases hn : 0 < cp.length
     · obtain ⟨b, off, h6, _⟩ := hrz hn; cases h6
     · omega
   have hce := List.eq_nil_of_length_eq_zero hcn
   clear hi hz0 hz1 hz2 hs hv hz hp hq hrz b0 bx hsz hW0 hcn hq3
   subst hce
   simp only [List.length_nil]
   go_enter Tryz.func71, Tryz.ntmps71
   go_upto_region 1 with fail
   rw [← HW0.out]
   go_wp2_with (first
     | (go_at_call 61; refine (implCart_any s _ c _ _ (HS.out.below HB0.out (Nat.le_refl _)) (HV.out.below HB0.out (Nat.le_refl _))).mono ?_; rintro e w1 ⟨rfl, x1⟩; rw [HP.out]; have X1 := Lib.hid x1; have B1 := Lib.hid (HB0.out.trans (x1.mono HB0.out.size)); clear x1)
     | (go_at_call 110; refine (couponsOk_any [] _ _ (HZ.out.below B1.out (Nat.le_refl _)) HQ.out).mono ?_; rintro e w9 ⟨rfl, h9⟩; replace h9 := h9.symm; subst h9)
     | (go_at_call 38; refine (implTot_any s _ c _ _ (HS.out.below B1.out (Nat.le_refl _)) (HV.out.below B1.out (Nat.le_refl _))).mono ?_; rintro e w2 ⟨rfl, x2⟩; rw [HT.out]; have X2 := Lib.hid (X1.out.trans (x2.mono X1.out.size)); have B2 := Lib.hid (B1.out.trans (x2.mono B1.out.size)); clear x2)
     | (go_at_call 111; refine (implGroups_any s _ c _ _ (HS.out.below B2.out (Nat.le_refl _)) (HV.out.below B2.out (Nat.le_refl _)) HP.out).mono ?_; rintro e w3 ⟨o3, rfl, h3, x3⟩; obtain ⟨a1, k1, hq3, _⟩ := owns_shape h3; subst hq3; have G3 := Lib.hid (owns_base h3 X2.out.size); have X3 := Lib.hid (X2.out.trans (x3.mono X2.out.size)); have B3 := Lib.hid (B2.out.trans (x3.mono B2.out.size)); clear h3 x3)
     | (at_builtin; refine app_nil rfl (.tmp 24) (.tmp 25) 34 rfl W0.heap.size 3 i0 1 Tryz.underlying34 HI.out _ 0 (it []) rfl (World.ownsRow_made w3 #[] 0 X3.out.size (by simp) (by simp)) pcap rfl ?_; have P4 : Hid ((w3.alloc (.cells #[] 3)).ownsRow W0.heap.size 3 1 (.slice (some ⟨w3.heap.size, 0, none⟩) 0 0) 0 (it [])) := (World.ownsRow_made w3 #[] 0 X3.out.size (by simp) (by simp)); have G4 := Lib.hid (G3.out.alloc (.cells #[] 3)); have X4 := Lib.hid (X3.out.alloc X3.out.size (.cells #[] 3)); have B4 := Lib.hid (B3.out.alloc B3.out.size (.cells #[] 3)); obtain ⟨⟨f0, f1, f2⟩, q0, q1, q2⟩ := row3z ((X4.out.block w.heap.size HSZ.out).trans BX.out)))
   have bx := (X4.out.block w.heap.size HSZ.out).trans BX.out
   refine bodyPost_ret (results_row_tmp (p := 6) (q := 7) (ty := 110) rfl row110 _ _ w.heap.size 110 #[.int .i64 (totK s c c.length), .slice a1 3 k1, .slice (some ⟨w3.heap.size, 0, none⟩) 0 0] rfl rfl (Joins.block_setCell (i := 2) (Joins.block_setCell (i := 1) (Joins.block_setCell (i := 0) bx _) _) _)) rfl ?_
   have hne : ∀ (vv : Value) (bb : Nat), (∀ k, vv.ownBlock = some k → W0.heap.size ≤ k) → ∀ k, vv.ownBlock = some k → k ≠ w.heap.size := fun vv bb h k hk => by have := h k hk; have := HSZ.out; omega
   have n1 := hne _ 0 (fun k hk => (G4.out.lt k hk).1)
   have n2 := hne _ 0 (fun k hk => (P4.out.lt k hk).1)
   exact ⟨a1, k1, (some ⟨w3.heap.size, 0, none⟩), 0, rfl, Rd.of_owns (owns_off (owns_off (owns_off G4.out n1 _) n1 _) n1 _), Rd.of_owns (owns_off (owns_off (owns_off P4.out n2 _) n2 _) n2 _), ((B4.out.setCell (Nat.le_refl _) _).setCell (Nat.le_refl _) _).setCell (Nat.le_refl _) _⟩
 | some ad =>
   have hn : ∀ W : World, Below w.heap.size w W → ∀ j u, (it cp)[j]? = some u → W.cell? (ad.add j) = some u := fun W hW j u hu => by
     obtain ⟨_, ao, cap2, h2, _, _, h5⟩ := HZ.out
     by_cases hn : 0 < cp.length
     · obtain ⟨b, off, h6, h7, h8⟩ := h5 hn
       subst h6
       injection h2 with h2a
       have h2b := Option.some.inj h2a
       subst h2b
       have := (hW.cell (p := ⟨b, off + j, none⟩) h7).trans (h8 j u hu)
       unfold Addr.add
       by_cases hj : j = 0
       · subst hj; simpa using this
       · simpa [hj] using this
     · have hce : cp = [] := List.eq_nil_of_length_eq_zero (by omega)
       rw [hce] at hu
       simp [it] at hu
   have HN := Lib.hid hn
   clear hi hz0 hz1 hz2 hs hv hz hp hq hrz b0 bx hsz hW0 hn
   go_enter Tryz.func71, Tryz.ntmps71
   go_upto_region 1 with fail
   rw [← HW0.out]
   go_wp2_with (first
     | (go_at_call 61; refine (implCart_any s _ c _ _ (HS.out.below HB0.out (Nat.le_refl _)) (HV.out.below HB0.out (Nat.le_refl _))).mono ?_; rintro e w1 ⟨rfl, x1⟩; rw [HP.out]; have X1 := Lib.hid x1; have B1 := Lib.hid (HB0.out.trans (x1.mono HB0.out.size)); clear x1)
     | (go_at_call 110; refine (couponsOk_any cp _ _ (HZ.out.below B1.out (Nat.le_refl _)) HQ.out).mono ?_; rintro e w9 ⟨rfl, h9⟩; replace h9 := h9.symm; subst h9)
     | (go_at_call 38; refine (implTot_any s _ c _ _ (HS.out.below B1.out (Nat.le_refl _)) (HV.out.below B1.out (Nat.le_refl _))).mono ?_; rintro e w2 ⟨rfl, x2⟩; rw [HT.out]; have X2 := Lib.hid (X1.out.trans (x2.mono X1.out.size)); have B2 := Lib.hid (B1.out.trans (x2.mono B1.out.size)); clear x2)
     | (go_at_call 111; refine (implGroups_any s _ c _ _ (HS.out.below B2.out (Nat.le_refl _)) (HV.out.below B2.out (Nat.le_refl _)) HP.out).mono ?_; rintro e w3 ⟨o3, rfl, h3, x3⟩; obtain ⟨a1, k1, hq3, _⟩ := owns_shape h3; subst hq3; have G3 := Lib.hid (owns_base h3 X2.out.size); have X3 := Lib.hid (X2.out.trans (x3.mono X2.out.size)); have B3 := Lib.hid (B2.out.trans (x3.mono B2.out.size)); clear h3 x3)
     | (at_builtin; refine wpList_append_near rfl (.tmp 24) (.tmp 25) 34 rfl w3.heap.size 3 i0 _ 1 8 Tryz.underlying34 HI.out HZ0.out HZ1.out HZ2.out rfl (by decide) _ 0 (it []) rfl (World.ownsRow_made w3 #[] 0 (Nat.le_refl _) (by simp) (by simp)) ad cp.length pcap (it cp) rfl (by simp [it_len]) (fun j u hu => (HN.out (w3.alloc (.cells #[] 3)) (B3.out.alloc B3.out.size (.cells #[] 3))) j u hu) (fun u hu => by obtain ⟨q, _, rfl⟩ := List.mem_map.1 hu; rfl) (by unfold maxLen; omega) (by omega) (by simp) ?_; intro v' W4 h1 h2 h3; have h1' : W4.ownsRow w3.heap.size 3 1 v' cp.length (it cp) := (by have h9 := h1; rw [Nat.zero_add] at h9; exact h9); obtain ⟨a4, k4, hq4, _⟩ := owns_shape h1'; subst hq4; have P4 := Lib.hid (owns_base h1' X3.out.size); have y4 : Below w3.heap.size w3 W4 := below_row ((Below.refl _ w3).alloc (Nat.le_refl _) (.cells #[] 3)) h2 (fun q (hq : some w3.heap.size = some q) => Nat.le_of_eq (Option.some.inj hq)); have G4 := Lib.hid (ownsRow_below G3.out y4 (Nat.le_refl _)); have X4 := Lib.hid (X3.out.trans (y4.mono X3.out.size)); have B4 := Lib.hid (B3.out.trans (y4.mono B3.out.size)); obtain ⟨⟨f0, f1, f2⟩, q0, q1, q2⟩ := row3z ((X4.out.block w.heap.size HSZ.out).trans BX.out); clear h1 h1' h2 h3 y4))
   have bx := (X4.out.block w.heap.size HSZ.out).trans BX.out
   refine bodyPost_ret (results_row_tmp (p := 6) (q := 7) (ty := 110) rfl row110 _ _ w.heap.size 110 #[.int .i64 (totK s c c.length), .slice a1 3 k1, .slice a4 cp.length k4] rfl rfl (Joins.block_setCell (i := 2) (Joins.block_setCell (i := 1) (Joins.block_setCell (i := 0) bx _) _) _)) rfl ?_
   have hne : ∀ (vv : Value) (bb : Nat), (∀ k, vv.ownBlock = some k → W0.heap.size ≤ k) → ∀ k, vv.ownBlock = some k → k ≠ w.heap.size := fun vv bb h k hk => by have := h k hk; have := HSZ.out; omega
   have n1 := hne _ 0 (fun k hk => (G4.out.lt k hk).1)
   have n2 := hne _ 0 (fun k hk => (P4.out.lt k hk).1)
   exact ⟨a1, k1, a4, k4, rfl, Rd.of_owns (owns_off (owns_off (owns_off G4.out n1 _) n1 _) n1 _), Rd.of_owns (owns_off (owns_off (owns_off P4.out n2 _) n2 _) n2 _), ((B4.out.setCell (Nat.le_refl _) _).setCell (Nat.le_refl _) _).setCell (Nat.le_refl _) _⟩
end Go.Proofs.YtijofgaekmahkaaGreatDoor

namespace Go.Proofs.YtijofgaekmahkaaGreatDoor
open Go.RowKit
def setRun (xs : List Value) : Nat → List Value → List Value
 | _, [] => xs
 | s, v :: r => setRun (xs.set s v) (s + 1) r
theorem own_setCells {base e size g n cap : Nat} : ∀ (vs : List Value) (s : Nat) (w : World) (xs : List Value), w.ownsRow base e size (.slice (some ⟨g, 0, none⟩) n cap) n xs →
   (w.setCells g s vs).ownsRow base e size (.slice (some ⟨g, 0, none⟩) n cap) n (setRun xs s vs)
 | [], _, _, _, h => h
 | v :: r, s, _, _, h => own_setCells r (s + 1) _ _ (h.stored s v).1
theorem setRun_append : ∀ (vs p xs : List Value) (s : Nat), setRun (p ++ xs) (p.length + s) vs = p ++ setRun xs s vs
 | [], _, _, _ => rfl
 | v :: r, p, xs, s => by
   rw [setRun, setRun, ← setRun_append r p (xs.set s v) (s + 1), List.set_append_right _ _ (Nat.le_add_right _ _), Nat.add_sub_cancel_left, Nat.add_assoc]
theorem rx_set : ∀ (M : List Rx) (k : Nat) (x : Rx), k < M.length → setRun (rx M) (k * 11) (ruL x.r x.v) = rx (M.set k x)
 | [], k, x, h => by simp at h
 | a :: M, 0, x, _ => by
   have hc : rx (a :: M) = ruL a.r a.v ++ rx M := by simp [rx]
   have hd : rx ((a :: M).set 0 x) = ruL x.r x.v ++ rx M := by simp [rx]
   rw [hc, hd]
   rfl
 | a :: M, k + 1, x, h => by
   have hc : rx (a :: M) = ruL a.r a.v ++ rx M := by simp [rx]
   have hd : rx ((a :: M).set (k + 1) x) = ruL a.r a.v ++ rx (M.set k x) := by simp [rx]
   have hl : (ruL a.r a.v).length = 11 := rfl
   rw [hc, hd, show (k + 1) * 11 = (ruL a.r a.v).length + k * 11 by rw [hl]; omega, setRun_append, rx_set M k x (by simpa using h)]
def put11 (W : World) (g s : Nat) (r : Rl) (v : Value) : World :=
 ((((((((((W.setCell ⟨g, s, none⟩ (.int .i64 r.num)).setCell ⟨g, s + 1, none⟩ (.int .i64 r.lvl)).setCell ⟨g, s + 2, none⟩ (.int .i64 r.rank)).setCell ⟨g, s + 3, none⟩ (.int .i64 r.group)).setCell ⟨g, s + 4, none⟩ (.int .i64 r.kind)).setCell ⟨g, s + 5, none⟩ (.int .i64 r.value)).setCell ⟨g, s + 6, none⟩ (.int .i64 r.cap)).setCell ⟨g, s + 7, none⟩ (.int .i64 r.lo)).setCell ⟨g, s + 8, none⟩ (.int .i64 r.hi)).setCell ⟨g, s + 9, none⟩ v).setCell ⟨g, s + 10, none⟩ (.int .i64 r.coupon)
theorem put11_is (W : World) (g s : Nat) (r : Rl) (v : Value) : put11 W g s r v = W.setCells g s (ruL r v) := rfl
theorem put11_own {W : World} {base g n cap k : Nat} {M : List Rx} (h : W.ownsRow base 43 11 (.slice (some ⟨g, 0, none⟩) n cap) n (rx M)) (x : Rx) (hk : k < M.length) :
   (put11 W g (k * 11) x.r x.v).ownsRow base 43 11 (.slice (some ⟨g, 0, none⟩) n cap) n (rx (M.set k x)) := by
 rw [put11_is, ← rx_set M k x hk]
 exact own_setCells _ _ _ _ h
theorem put11_below {B : Nat} {w W : World} {g s : Nat} {r : Rl} {v : Value} (h : Below B w W) (hg : B ≤ g) : Below B w (put11 W g s r v) := by
 unfold put11
 exact ((((((((((h.setCell hg _).setCell hg _).setCell hg _).setCell hg _).setCell hg _).setCell hg _).setCell hg _).setCell hg _).setCell hg _).setCell hg _).setCell hg _
theorem put11_cell {W : World} {g s : Nat} {r : Rl} {v : Value} {a : Addr} (h : a.block ≠ g) : (put11 W g s r v).cell? a = W.cell? a := by
 rw [put11_is]
 exact World.cell?_setCells_out g _ _ _ _ fun e => absurd e h
theorem put11_size {W : World} {g s : Nat} {r : Rl} {v : Value} : (put11 W g s r v).heap.size = W.heap.size := by
 simp [put11, World.setCell]
theorem put11_box {W : World} {g s b : Nat} {r q : Rl} {v u : Value} (h : RuAt W b q u) (hne : b ≠ g) : RuAt (put11 W g s r v) b q u :=
 ⟨by rw [put11_size]; exact h.1, fun i z hz => (put11_cell hne).trans (h.2 i z hz)⟩
theorem own_cell {W : World} {base g n cap k : Nat} {M : List Rx} (h : W.ownsRow base 43 11 (.slice (some ⟨g, 0, none⟩) n cap) n (rx M)) (hk : k < M.length) (hn : M.length = n) :
   ∀ i u, (ruL (xT M k).r (xT M k).v)[i]? = some u → W.cell? ⟨g, k * 11 + i, none⟩ = some u := fun i u hu => by
 have hi := (List.getElem?_eq_some_iff.1 hu).1
 have hl : (ruL (xT M k).r (xT M k).v).length = 11 := rfl
 have := rx_get M k i u hk hu
 rw [h.cellAt _ (by omega), this]
theorem box_add {W : World} {g : Nat} {r : Rl} {v : Value} (h : RuAt W g r v) : ∀ j u, (ruL r v)[j]? = some u → W.cell? ((⟨g, 0, none⟩ : Addr).add j) = some u := fun j u hu => by
 have h9 := h.2 j u hu
 unfold Addr.add
 by_cases hj : j = 0
 · subst hj; simpa using h9
 · simpa [hj] using h9
def SrtX (M : List Rx) (n j : Nat) : Prop := ∀ a b, a < b → b < n → b ≠ j → befQ (xT M b).r (xT M a).r = false
theorem xT_set (M : List Rx) (k j : Nat) (x : Rx) (hj : j < M.length) : xT (M.set k x) j = if k = j then x else xT M j := by
 unfold xT
 rw [List.getD_eq_getElem?_getD, List.getElem?_set, List.getD_eq_getElem?_getD]
 split
 · rename_i e
   subst e
   rw [if_pos hj]
   rfl
 · rfl
theorem srt_swap {M : List Rx} {n i : Nat} (hn : M.length = n) (h : SrtX M n (i + 1)) (hi : i + 1 < n) (hb : befQ (xT M (i + 1)).r (xT M i).r = true) : SrtX ((M.set (i + 1) (xT M i)).set i (xT M (i + 1))) n i := by
 intro a b hab hbn hbi
 have hbf : befQ (xT M i).r (xT M (i + 1)).r = false := by rw [befQ_iff] at hb; rw [befQ_no]; omega
 have g : ∀ j, j < n → xT ((M.set (i + 1) (xT M i)).set i (xT M (i + 1))) j = if i = j then xT M (i + 1) else if i + 1 = j then xT M i else xT M j := fun j hj => by
   rw [xT_set _ _ _ _ (by rw [List.length_set]; omega), xT_set _ _ _ _ (by omega)]
 rw [g a (by omega), g b hbn, if_neg (fun e => hbi e.symm)]
 by_cases h1 : i + 1 = b
 · rw [if_pos h1]
   by_cases h2 : i = a
   · rw [if_pos h2]; exact hbf
   · rw [if_neg h2, if_neg (by omega)]
     exact h a i (by omega) (by omega) (by omega)
 · rw [if_neg h1]
   by_cases h2 : i = a
   · rw [if_pos h2]
     exact h (i + 1) b (by omega) hbn (by omega)
   · rw [if_neg h2]
     by_cases h3 : i + 1 = a
     · rw [if_pos h3]
       exact h i b (by omega) hbn (by omega)
     · rw [if_neg h3]
       exact h a b hab hbn (by omega)
theorem swap_perm {M : List Rx} {i : Nat} (hi : i + 1 < M.length) : ((M.set (i + 1) (xT M i)).set i (xT M (i + 1))).Perm M := by
 have e1 : xT M i = M[i] := by simp [xT, List.getD, show i < M.length by omega]
 have e2 : xT M (i + 1) = M[i + 1] := by simp [xT, List.getD, hi]
 rw [e1, e2]
 exact List.set_set_perm hi (by omega)
theorem srt_end {M : List Rx} {n j : Nat} (h : SrtX M n j) (hj : j < n) (hb : ∀ i, j = i + 1 → befQ (xT M (i + 1)).r (xT M i).r = false) : SrtX M n n := by
 intro a b hab hbn _
 by_cases e : b = j
 · subst e
   obtain ⟨i, rfl⟩ : ∃ i, b = i + 1 := ⟨b - 1, by omega⟩
   have h1 := hb i rfl
   by_cases e2 : a = i
   · subst e2; exact h1
   · have h2 := h a i (by omega) (by omega) (by omega)
     rw [befQ_no] at *; omega
 · exact h a b hab hbn e
theorem srt_app {M : List Rx} {n : Nat} (hn : M.length = n) (h : SrtX M n n) (x : Rx) : SrtX (M ++ [x]) (n + 1) n := by
 intro a b hab hbn hne
 have g : ∀ j, j < n → xT (M ++ [x]) j = xT M j := fun j hj => by
   unfold xT
   rw [List.getD_eq_getElem?_getD, List.getElem?_append_left (by omega), List.getD_eq_getElem?_getD]
 rw [g a (by omega), g b (by omega)]
 exact h a b hab (by omega) (by omega)
theorem srt_pw {M : List Rx} (h : SrtX M M.length M.length) : (rls M).Pairwise fun x y => befQ y x = false := by
 rw [rls, List.pairwise_map, List.pairwise_iff_getElem]
 intro i j hi hj hij
 have e : ∀ k (hk : k < M.length), xT M k = M[k] := fun k hk => by simp [xT, List.getD, hk]
 have := h i j hij hj (by omega)
 rw [e i hi, e j hj] at this
 exact this
theorem take_snoc {l : List Rx} {k : Nat} (hk : k < l.length) : l.take (k + 1) = l.take k ++ [xT l k] := by
 have e : xT l k = l[k] := by simp [xT, List.getD, hk]
 rw [List.take_add_one, e]
 simp [hk]
end Go.Proofs.YtijofgaekmahkaaGreatDoor

namespace Go.Proofs.YtijofgaekmahkaaGreatDoor
open Go.RowKit
set_option maxHeartbeats 16000000 in
set_option maxRecDepth 100000 in
theorem inOrder_any (l : List Rx) (v : Value) (w : World) (hv : RdR w v l) (hrs : okRs (rls l) = true) :
   Calls Tryz.prog 165 #[v] w fun e w' => ∃ (o : Value) (L : List Rx), e = .returned o ∧ rls L = ordL (rls l) ∧ L.Perm l ∧ RdR w' o L ∧ Below w.heap.size w w' := by
 have HV := Lib.hid hv
 have HRS := Lib.hid hrs
 have hshp := hv.shp
 have HS := Lib.hid hshp
 have hsix : l.length ≤ 6 := by have := (okRs_pr hrs).2.2; rw [rls_len] at this; exact this
 obtain ⟨i0, hi, hz0, hz1, hz2⟩ := info_parts Tryz.info43z
 have HI := Lib.hid hi
 have HZ0 := Lib.hid hz0
 have HZ1 := Lib.hid hz1
 have HZ2 := Lib.hid hz2
 clear hi hz0 hz1 hz2
 have O0 := Lib.hid (World.ownsRow_made w #[] 0 (Nat.le_refl _) (by simp) (by simp) : (w.alloc (.cells #[] 43)).ownsRow w.heap.size 43 11 (.slice (some ⟨w.heap.size, 0, none⟩) 0 0) 0 (rx []))
 have B0 : Below w.heap.size w (w.alloc (.cells #[] 43)) := (Below.refl _ w).alloc (Nat.le_refl _) _
 have HB0 := Lib.hid B0
 obtain ⟨ao, cap, rfl, hcap, hcm, hr⟩ := hv.open
 have HR := Lib.hid hr
 clear hrs hshp B0 hr hv
 go_enter Tryz.func165, Tryz.ntmps165
 go_wp2
 go_loopw [3, 4] (fun o_ i_ wr => ∃ (k : Nat) (M : List Rx), k ≤ l.length ∧ i_ = .int .i64 k ∧ Hid (M.Perm (l.take k)) ∧ Hid (SrtX M k k) ∧ Hid (wr.ownsRow w.heap.size 43 11 o_ k (rx M)) ∧ Below w.heap.size w wr) (fun _ i_ _ => l.length - (intOf i_).toNat)
 case atStart => exact ⟨0, [], Nat.zero_le _, rfl, List.Perm.refl _, fun a b h1 h2 => absurd h2 (Nat.not_lt_zero _), O0, HB0.out⟩
 case round =>
   obtain ⟨k, M, hk, rfl, HM, HT, OM, hbl⟩ := hrel
   obtain ⟨so, scap, hso, _⟩ := owns_shape OM.out
   subst hso
   by_cases hlt : k < l.length
   · obtain ⟨b, off, rfl, hb, hcell⟩ := HR.out (by omega)
     have hml : M.length = k := by have := HM.out.length_eq; rw [List.length_take] at this; omega
     have fk := hcell k hlt
     have hx := xT_mem hlt
     obtain ⟨po, pn, pcap, hpe⟩ := HS.out _ hx
     obtain ⟨x, hxe⟩ : ∃ x, x = xT l k := ⟨_, rfl⟩
     rw [← hxe] at fk hpe
     rw [hpe] at fk
     have HXE := Lib.hid hxe
     have HPE := Lib.hid hpe
     have hbw : b < wr.heap.size := Nat.lt_of_lt_of_le hb hbl.size
     have hk0 : (0 : Int) ≤ (k : Int) := by omega
     have c0 := (hbl.cell (p := ⟨b, off + k*11, none⟩) hb).trans (fk 0 _ rfl)
     have c1 := (hbl.cell (p := ⟨b, off + k*11+1, none⟩) hb).trans (fk 1 _ rfl)
     have c2 := (hbl.cell (p := ⟨b, off + k*11+2, none⟩) hb).trans (fk 2 _ rfl)
     have c3 := (hbl.cell (p := ⟨b, off + k*11+3, none⟩) hb).trans (fk 3 _ rfl)
     have c4 := (hbl.cell (p := ⟨b, off + k*11+4, none⟩) hb).trans (fk 4 _ rfl)
     have c5 := (hbl.cell (p := ⟨b, off + k*11+5, none⟩) hb).trans (fk 5 _ rfl)
     have c6 := (hbl.cell (p := ⟨b, off + k*11+6, none⟩) hb).trans (fk 6 _ rfl)
     have c7 := (hbl.cell (p := ⟨b, off + k*11+7, none⟩) hb).trans (fk 7 _ rfl)
     have c8 := (hbl.cell (p := ⟨b, off + k*11+8, none⟩) hb).trans (fk 8 _ rfl)
     have c9 := (hbl.cell (p := ⟨b, off + k*11+9, none⟩) hb).trans (fk 9 _ rfl)
     have c10 := (hbl.cell (p := ⟨b, off + k*11+10, none⟩) hb).trans (fk 10 _ rfl)
     have bx := box11 wr x.r (.slice po pn pcap) 43
     have hb2 := hbl.alloc hbl.size (.cells #[.int .i64 x.r.num, .int .i64 x.r.lvl, .int .i64 x.r.rank, .int .i64 x.r.group, .int .i64 x.r.kind, .int .i64 x.r.value, .int .i64 x.r.cap, .int .i64 x.r.lo, .int .i64 x.r.hi, .slice po pn pcap, .int .i64 x.r.coupon] 43)
     have o2 := OM.out.alloc (.cells #[.int .i64 x.r.num, .int .i64 x.r.lvl, .int .i64 x.r.rank, .int .i64 x.r.group, .int .i64 x.r.kind, .int .i64 x.r.value, .int .i64 x.r.cap, .int .i64 x.r.lo, .int .i64 x.r.hi, .slice po pn pcap, .int .i64 x.r.coupon] 43)
     have BX := Lib.hid bx
     have HB2 := Lib.hid hb2
     have O2 := Lib.hid o2
     have MT : Hid ((M ++ [x]).Perm (l.take (k + 1))) := (by rw [Hid, take_snoc hlt, HXE.out]; exact HM.out.append_right _)
     have ST := Lib.hid (srt_app hml HT.out x)
     clear hcell hx hpe hxe fk bx hb2 o2 hml
     go_upto_region 6 with (at_builtin; go_loud (refine wpList_append_near rfl (.tmp 14) (.tmp 19) 51 rfl w.heap.size 43 i0 _ 11 104 Tryz.underlying51 HI.out HZ0.out HZ1.out HZ2.out rfl (by decide) _ k (rx M) rfl O2.out ⟨wr.heap.size, 0, none⟩ 1 1 (ruL x.r (.slice po pn pcap)) rfl rfl (box_add BX.out) ruL_one (by unfold maxLen; omega) (by omega) HB2.out.size ?_; intro v' W1 h1 h2 h3; have h4 : W1.ownsRow w.heap.size 43 11 v' (k + 1) (rx (M ++ [x])) := (by rw [rx_append]; have e9 : rx [x] = ruL x.r (.slice po pn pcap) := (by rw [← HPE.out]; simp [rx]); rw [e9]; exact h1); have B1 := Lib.hid (below_row HB2.out h2 (fun q hq => (O2.out.lt q hq).1)); obtain ⟨so2, sc2, hso, hsg⟩ := owns_shape h4; obtain ⟨g, hg9, hg8⟩ := hsg (Nat.succ_pos _); subst hg9; subst hso; have O3 := Lib.hid h4; clear h1 h2 h3 h4 hsg))
     clear HM HT OM O2 BX HB2 hbl c0 c1 c2 c3 c4 c5 c6 c7 c8 c9 c10
     have hgw := (O3.out.lt g rfl).2
     have hk9 : IntKind.i64.wrap (((k + 1 : Nat) : Int) - 1) = (k : Int) := by rw [IntWalk.i64_in _ (by omega)]; omega
     go_wp2
     go_loopw [5] (fun j_ w2 => ∃ (j : Nat) (M2 : List Rx), j ≤ k ∧ j_ = .int .i64 j ∧ Hid (M2.Perm (l.take (k + 1))) ∧ Hid (SrtX M2 (k + 1) j) ∧ Hid (w2.ownsRow w.heap.size 43 11 (.slice (some ⟨g, 0, none⟩) (k + 1) sc2) (k + 1) (rx M2)) ∧ Below w.heap.size w w2) (fun j_ _ => (intOf j_).toNat)
     case atStart => exact ⟨k, M ++ [x], Nat.le_refl _, by go_num, MT, ST, O3, B1.out⟩
     case round =>
       clear MT ST O3 B1 hgw
       obtain ⟨j, M2, hj, rfl, MT, ST, OM, hbl⟩ := hrel
       have hml : M2.length = k + 1 := by have := MT.out.length_eq; rw [List.length_take] at this; omega
       have HML := Lib.hid hml
       clear hml
       by_cases hj0 : j = 0
       · have hz : decide ((0 : Int) < (j : Int)) = false := by rw [decide_eq_false_iff_not]; omega
         have hz' : decide (0 < j) = false := by rw [decide_eq_false_iff_not]; omega
         have fin := Lib.hid (srt_end ST.out (by omega) (fun i hi => by omega))
         clear hj0
         go_upto_region 7 with fail
         go_quiet (fail)
         go_wp2
         go_roundw
         case rel => exact ⟨k + 1, M2, by omega, by go_num, MT, fin, OM, ⟨hbl.os, hbl.tape, hbl.output, hbl.size, hbl.block⟩⟩
         case measure => simp [intOf]; omega
       · obtain ⟨i, rfl⟩ : ∃ i, j = i + 1 := ⟨j - 1, by omega⟩
         have e9 : ((i + 1 : Nat) : Int) = (i : Int) + 1 := by omega
         rw [e9]
         have hz : decide ((0 : Int) < (i : Int) + 1) = true := by rw [decide_eq_true_eq]; omega
         have hij : (i : Int) + 1 - 1 = (i : Int) := by omega
         have hij2 : IntKind.i64.wrap ((i : Int) + 1 - 1) = (i : Int) := by rw [IntWalk.i64_in _ (by omega)]; omega
         have hij3 : IntKind.i64.wrap (i : Int) = (i : Int) := IntWalk.i64_in _ (by omega)
         have hjk : (i : Int) + 1 < (k : Int) + 1 := by omega
         have hik : (i : Int) < (k : Int) + 1 := by omega
         have hj1 : (0 : Int) ≤ (i : Int) + 1 := by omega
         have hi1 : (0 : Int) ≤ (i : Int) := by omega
         have hi2 : (i : Int) ≤ (k : Int) + 1 := by omega
         have hi3 : (0 : Int) ≤ (i : Int) + 1 - 1 := by omega
         have hi4 : (i : Int) + 1 - 1 < (k : Int) + 1 := by omega
         have fx := own_cell OM.out (k := i + 1) (by rw [HML.out]; omega) HML.out
         have fy := own_cell OM.out (k := i) (by rw [HML.out]; omega) HML.out
         have hmx : xT M2 (i + 1) ∈ l := List.mem_of_mem_take (MT.out.mem_iff.1 (xT_mem (by rw [HML.out]; omega)))
         have hmy : xT M2 i ∈ l := List.mem_of_mem_take (MT.out.mem_iff.1 (xT_mem (by rw [HML.out]; omega)))
         obtain ⟨po, pn, pcap, hpx⟩ := HS.out _ hmx
         obtain ⟨qo, qn, qcap, hpy⟩ := HS.out _ hmy
         obtain ⟨x, hxe⟩ : ∃ x, x = xT M2 (i + 1) := ⟨_, rfl⟩
         obtain ⟨y, hye⟩ : ∃ y, y = xT M2 i := ⟨_, rfl⟩
         rw [← hxe] at fx hpx
         rw [← hye] at fy hpy
         rw [hpx] at fx
         rw [hpy] at fy
         have HXE := Lib.hid hxe
         have HYE := Lib.hid hye
         have HPX := Lib.hid hpx
         have HPY := Lib.hid hpy
         have hgw := (OM.out.lt g rfl).2
         have hgb := (OM.out.lt g rfl).1
         have KP := Lib.hid (show ∀ w' : World, Below wr.heap.size wr w' → w'.cell? ⟨g, (i+1)*11, none⟩ = some (.int .i64 x.r.num) ∧ w'.cell? ⟨g, (i+1)*11+1, none⟩ = some (.int .i64 x.r.lvl) ∧ w'.cell? ⟨g, (i+1)*11+2, none⟩ = some (.int .i64 x.r.rank) ∧ w'.cell? ⟨g, (i+1)*11+3, none⟩ = some (.int .i64 x.r.group) ∧ w'.cell? ⟨g, (i+1)*11+4, none⟩ = some (.int .i64 x.r.kind) ∧ w'.cell? ⟨g, (i+1)*11+5, none⟩ = some (.int .i64 x.r.value) ∧ w'.cell? ⟨g, (i+1)*11+6, none⟩ = some (.int .i64 x.r.cap) ∧ w'.cell? ⟨g, (i+1)*11+7, none⟩ = some (.int .i64 x.r.lo) ∧ w'.cell? ⟨g, (i+1)*11+8, none⟩ = some (.int .i64 x.r.hi) ∧ w'.cell? ⟨g, (i+1)*11+9, none⟩ = some (.slice po pn pcap) ∧ w'.cell? ⟨g, (i+1)*11+10, none⟩ = some (.int .i64 x.r.coupon) ∧ w'.cell? ⟨g, i*11, none⟩ = some (.int .i64 y.r.num) ∧ w'.cell? ⟨g, i*11+1, none⟩ = some (.int .i64 y.r.lvl) ∧ w'.cell? ⟨g, i*11+2, none⟩ = some (.int .i64 y.r.rank) ∧ w'.cell? ⟨g, i*11+3, none⟩ = some (.int .i64 y.r.group) ∧ w'.cell? ⟨g, i*11+4, none⟩ = some (.int .i64 y.r.kind) ∧ w'.cell? ⟨g, i*11+5, none⟩ = some (.int .i64 y.r.value) ∧ w'.cell? ⟨g, i*11+6, none⟩ = some (.int .i64 y.r.cap) ∧ w'.cell? ⟨g, i*11+7, none⟩ = some (.int .i64 y.r.lo) ∧ w'.cell? ⟨g, i*11+8, none⟩ = some (.int .i64 y.r.hi) ∧ w'.cell? ⟨g, i*11+9, none⟩ = some (.slice qo qn qcap) ∧ w'.cell? ⟨g, i*11+10, none⟩ = some (.int .i64 y.r.coupon) ∧ Below wr.heap.size wr w' from fun w' h => ⟨(h.cell (p := ⟨g, (i+1)*11, none⟩) hgw).trans (fx 0 _ rfl), (h.cell (p := ⟨g, (i+1)*11+1, none⟩) hgw).trans (fx 1 _ rfl), (h.cell (p := ⟨g, (i+1)*11+2, none⟩) hgw).trans (fx 2 _ rfl), (h.cell (p := ⟨g, (i+1)*11+3, none⟩) hgw).trans (fx 3 _ rfl), (h.cell (p := ⟨g, (i+1)*11+4, none⟩) hgw).trans (fx 4 _ rfl), (h.cell (p := ⟨g, (i+1)*11+5, none⟩) hgw).trans (fx 5 _ rfl), (h.cell (p := ⟨g, (i+1)*11+6, none⟩) hgw).trans (fx 6 _ rfl), (h.cell (p := ⟨g, (i+1)*11+7, none⟩) hgw).trans (fx 7 _ rfl), (h.cell (p := ⟨g, (i+1)*11+8, none⟩) hgw).trans (fx 8 _ rfl), (h.cell (p := ⟨g, (i+1)*11+9, none⟩) hgw).trans (fx 9 _ rfl), (h.cell (p := ⟨g, (i+1)*11+10, none⟩) hgw).trans (fx 10 _ rfl), (h.cell (p := ⟨g, i*11, none⟩) hgw).trans (fy 0 _ rfl), (h.cell (p := ⟨g, i*11+1, none⟩) hgw).trans (fy 1 _ rfl), (h.cell (p := ⟨g, i*11+2, none⟩) hgw).trans (fy 2 _ rfl), (h.cell (p := ⟨g, i*11+3, none⟩) hgw).trans (fy 3 _ rfl), (h.cell (p := ⟨g, i*11+4, none⟩) hgw).trans (fy 4 _ rfl), (h.cell (p := ⟨g, i*11+5, none⟩) hgw).trans (fy 5 _ rfl), (h.cell (p := ⟨g, i*11+6, none⟩) hgw).trans (fy 6 _ rfl), (h.cell (p := ⟨g, i*11+7, none⟩) hgw).trans (fy 7 _ rfl), (h.cell (p := ⟨g, i*11+8, none⟩) hgw).trans (fy 8 _ rfl), (h.cell (p := ⟨g, i*11+9, none⟩) hgw).trans (fy 9 _ rfl), (h.cell (p := ⟨g, i*11+10, none⟩) hgw).trans (fy 10 _ rfl), h⟩)
         have b0 : Below wr.heap.size wr wr.drew := (Below.refl _ wr).drew
         have B0 := Lib.hid b0
         have G0 := Lib.hid (before_any x.r y.r po qo pn pcap qn qcap wr.drew)
         unfold ruV at G0
         clear hxe hye hpx hpy hmx hmy fx fy b0 hj0
         go_upto_region 7 with fail
         go_cut [37] from 24 to 37 (fun f_ wx => f_ = .bool (befQ x.r y.r) ∧ Below wr.heap.size wr wx)
         case first =>
           go_region_held3 (fun w' => w'.cell? ⟨g, (i+1)*11, none⟩ = some (.int .i64 x.r.num) ∧ w'.cell? ⟨g, (i+1)*11+1, none⟩ = some (.int .i64 x.r.lvl) ∧ w'.cell? ⟨g, (i+1)*11+2, none⟩ = some (.int .i64 x.r.rank) ∧ w'.cell? ⟨g, (i+1)*11+3, none⟩ = some (.int .i64 x.r.group) ∧ w'.cell? ⟨g, (i+1)*11+4, none⟩ = some (.int .i64 x.r.kind) ∧ w'.cell? ⟨g, (i+1)*11+5, none⟩ = some (.int .i64 x.r.value) ∧ w'.cell? ⟨g, (i+1)*11+6, none⟩ = some (.int .i64 x.r.cap) ∧ w'.cell? ⟨g, (i+1)*11+7, none⟩ = some (.int .i64 x.r.lo) ∧ w'.cell? ⟨g, (i+1)*11+8, none⟩ = some (.int .i64 x.r.hi) ∧ w'.cell? ⟨g, (i+1)*11+9, none⟩ = some (.slice po pn pcap) ∧ w'.cell? ⟨g, (i+1)*11+10, none⟩ = some (.int .i64 x.r.coupon) ∧ w'.cell? ⟨g, i*11, none⟩ = some (.int .i64 y.r.num) ∧ w'.cell? ⟨g, i*11+1, none⟩ = some (.int .i64 y.r.lvl) ∧ w'.cell? ⟨g, i*11+2, none⟩ = some (.int .i64 y.r.rank) ∧ w'.cell? ⟨g, i*11+3, none⟩ = some (.int .i64 y.r.group) ∧ w'.cell? ⟨g, i*11+4, none⟩ = some (.int .i64 y.r.kind) ∧ w'.cell? ⟨g, i*11+5, none⟩ = some (.int .i64 y.r.value) ∧ w'.cell? ⟨g, i*11+6, none⟩ = some (.int .i64 y.r.cap) ∧ w'.cell? ⟨g, i*11+7, none⟩ = some (.int .i64 y.r.lo) ∧ w'.cell? ⟨g, i*11+8, none⟩ = some (.int .i64 y.r.hi) ∧ w'.cell? ⟨g, i*11+9, none⟩ = some (.slice qo qn qcap) ∧ w'.cell? ⟨g, i*11+10, none⟩ = some (.int .i64 y.r.coupon) ∧ Below wr.heap.size wr w')
             (first
               | assumption
               | exact KP.out _ B0.out
               | exact KP.out _ b9)
             ((go_at_call 197; (with_reducible refine G0.out.mono ?_); rintro e w9 ⟨rfl, x9⟩; have b9 : Below wr.heap.size wr w9 := B0.out.trans (x9.mono B0.out.size)))
           all_goals go_wp2
           all_goals go_meet
           all_goals exact ⟨rfl, b9⟩
         case rest =>
           obtain ⟨rfl, bc⟩ := hcut
           have hbx := hbl.trans (bc.mono hbl.size)
           have HBX := Lib.hid hbx
           have OX := Lib.hid (ownsRow_below OM.out bc (Nat.le_refl _))
           clear hbl hbx
           cases hc : befQ x.r y.r
           · have fin := Lib.hid (srt_end ST.out (by omega) (fun i2 hi2 => by obtain rfl : i2 = i := (by omega); rw [← HYE.out, ← HXE.out]; exact hc))
             clear hc
             go_wp2
             go_roundw
             case rel => exact ⟨k + 1, M2, by omega, by go_num, MT, fin, OX, HBX.out⟩
             case measure => simp [intOf]; omega
           · have hsw : Hid (SrtX ((M2.set (i + 1) y).set i x) (k + 1) i) := (by have h7 := srt_swap HML.out ST.out (by omega) (by rw [← HYE.out, ← HXE.out]; exact hc); rw [← HYE.out, ← HXE.out] at h7; exact h7)
             have hpm : Hid (((M2.set (i + 1) y).set i x).Perm (l.take (k + 1))) := (by have h7 := swap_perm (M := M2) (i := i) (by rw [HML.out]; omega); rw [← HYE.out, ← HXE.out] at h7; exact h7.trans MT.out)
             clear hc
             obtain ⟨c0, c1, c2, c3, c4, c5, c6, c7, c8, c9, c10, d0, d1, d2, d3, d4, d5, d6, d7, d8, d9, d10, _⟩ := KP.out _ bc
             have hgx : g < wc.heap.size := Nat.lt_of_lt_of_le hgw bc.size
             have bx := box11 wc x.r (.slice po pn pcap) 43
             have hb2 := HBX.out.alloc HBX.out.size (.cells #[.int .i64 x.r.num, .int .i64 x.r.lvl, .int .i64 x.r.rank, .int .i64 x.r.group, .int .i64 x.r.kind, .int .i64 x.r.value, .int .i64 x.r.cap, .int .i64 x.r.lo, .int .i64 x.r.hi, .slice po pn pcap, .int .i64 x.r.coupon] 43)
             have bd : Below wc.heap.size wc (wc.alloc (.cells #[.int .i64 x.r.num, .int .i64 x.r.lvl, .int .i64 x.r.rank, .int .i64 x.r.group, .int .i64 x.r.kind, .int .i64 x.r.value, .int .i64 x.r.cap, .int .i64 x.r.lo, .int .i64 x.r.hi, .slice po pn pcap, .int .i64 x.r.coupon] 43)) := (Below.refl _ wc).alloc (Nat.le_refl _) _
             have o2 := ownsRow_below OX.out bd (Nat.le_refl _)
             have hne : wc.heap.size ≠ g := by omega
             have kp2 := KP.out _ (bc.alloc bc.size (.cells #[.int .i64 x.r.num, .int .i64 x.r.lvl, .int .i64 x.r.rank, .int .i64 x.r.group, .int .i64 x.r.kind, .int .i64 x.r.value, .int .i64 x.r.cap, .int .i64 x.r.lo, .int .i64 x.r.hi, .slice po pn pcap, .int .i64 x.r.coupon] 43))
             obtain ⟨W1, hW1⟩ : ∃ W1, W1 = wc.alloc (.cells #[.int .i64 x.r.num, .int .i64 x.r.lvl, .int .i64 x.r.rank, .int .i64 x.r.group, .int .i64 x.r.kind, .int .i64 x.r.value, .int .i64 x.r.cap, .int .i64 x.r.lo, .int .i64 x.r.hi, .slice po pn pcap, .int .i64 x.r.coupon] 43) := ⟨_, rfl⟩
             rw [← hW1] at bx hb2 o2 kp2
             have HW1 := Lib.hid hW1
             have HNE := Lib.hid hne
             have HB2 := Lib.hid hb2
             have O2 := Lib.hid o2
             have BX := Lib.hid bx
             have KP2 := Lib.hid kp2
             clear hW1 bx hb2 bd o2 hne kp2
             go_upto_region 10 with fail
             rw [← HW1.out]
             clear c0 d0 c1 d1 c2 d2 c3 d3 c4 d4 c5 d5 c6 d6 c7 d7 c8 d8 c9 d9 c10 d10 HW1
             obtain ⟨c0, c1, c2, c3, c4, c5, c6, c7, c8, c9, c10, d0, d1, d2, d3, d4, d5, d6, d7, d8, d9, d10, _⟩ := KP2.out
             have z0 := O2.out.frozenAt ((i+1)*11)
             have z1 := O2.out.frozenAt ((i+1)*11+1)
             have z2 := O2.out.frozenAt ((i+1)*11+2)
             have z3 := O2.out.frozenAt ((i+1)*11+3)
             have z4 := O2.out.frozenAt ((i+1)*11+4)
             have z5 := O2.out.frozenAt ((i+1)*11+5)
             have z6 := O2.out.frozenAt ((i+1)*11+6)
             have z7 := O2.out.frozenAt ((i+1)*11+7)
             have z8 := O2.out.frozenAt ((i+1)*11+8)
             have z9 := O2.out.frozenAt ((i+1)*11+9)
             have z10 := O2.out.frozenAt ((i+1)*11+10)
             have hs1 : g < W1.heap.size := (O2.out.lt g rfl).2
             have o3 := put11_own O2.out y (k := i + 1) (by rw [HML.out]; omega)
             rw [HPY.out] at o3
             have bx3 := put11_box (g := g) (s := (i + 1) * 11) (r := y.r) (v := .slice qo qn qcap) BX.out HNE.out
             have b3 := put11_below (s := (i + 1) * 11) (r := y.r) (v := .slice qo qn qcap) HB2.out hgb
             obtain ⟨W2, hW2⟩ : ∃ W2, W2 = put11 W1 g ((i + 1) * 11) y.r (.slice qo qn qcap) := ⟨_, rfl⟩
             rw [← hW2] at o3 bx3 b3
             unfold put11 at hW2
             have HW2 := Lib.hid hW2
             have O3 := Lib.hid o3
             have BX3 := Lib.hid bx3
             have B3 := Lib.hid b3
             clear hW2 o3 bx3 b3
             go_upto_region 11 with fail
             rw [← HW2.out]
             clear c0 d0 z0 c1 d1 z1 c2 d2 z2 c3 d3 z3 c4 d4 z4 c5 d5 z5 c6 d6 z6 c7 d7 z7 c8 d8 z8 c9 d9 z9 c10 d10 z10 HW2
             have hy3 : xT (M2.set (i + 1) y) i = y := by rw [xT_set _ _ _ _ (by rw [HML.out]; omega), if_neg (by omega), ← HYE.out]
             have fy3 := own_cell O3.out (k := i) (by rw [List.length_set, HML.out]; omega) (by rw [List.length_set, HML.out])
             rw [hy3, HPY.out] at fy3
             have c0 := BX3.out.c0
             have z0 := O3.out.frozenAt (i*11)
             have d0 : W2.cell? ⟨g, i*11, none⟩ = _ := fy3 0 _ rfl
             have c1 := BX3.out.c1
             have z1 := O3.out.frozenAt (i*11+1)
             have d1 : W2.cell? ⟨g, i*11+1, none⟩ = _ := fy3 1 _ rfl
             have c2 := BX3.out.c2
             have z2 := O3.out.frozenAt (i*11+2)
             have d2 : W2.cell? ⟨g, i*11+2, none⟩ = _ := fy3 2 _ rfl
             have c3 := BX3.out.c3
             have z3 := O3.out.frozenAt (i*11+3)
             have d3 : W2.cell? ⟨g, i*11+3, none⟩ = _ := fy3 3 _ rfl
             have c4 := BX3.out.c4
             have z4 := O3.out.frozenAt (i*11+4)
             have d4 : W2.cell? ⟨g, i*11+4, none⟩ = _ := fy3 4 _ rfl
             have c5 := BX3.out.c5
             have z5 := O3.out.frozenAt (i*11+5)
             have d5 : W2.cell? ⟨g, i*11+5, none⟩ = _ := fy3 5 _ rfl
             have c6 := BX3.out.c6
             have z6 := O3.out.frozenAt (i*11+6)
             have d6 : W2.cell? ⟨g, i*11+6, none⟩ = _ := fy3 6 _ rfl
             have c7 := BX3.out.c7
             have z7 := O3.out.frozenAt (i*11+7)
             have d7 : W2.cell? ⟨g, i*11+7, none⟩ = _ := fy3 7 _ rfl
             have c8 := BX3.out.c8
             have z8 := O3.out.frozenAt (i*11+8)
             have d8 : W2.cell? ⟨g, i*11+8, none⟩ = _ := fy3 8 _ rfl
             have c9 := BX3.out.c9
             have z9 := O3.out.frozenAt (i*11+9)
             have d9 : W2.cell? ⟨g, i*11+9, none⟩ = _ := fy3 9 _ rfl
             have c10 := BX3.out.c10
             have z10 := O3.out.frozenAt (i*11+10)
             have d10 : W2.cell? ⟨g, i*11+10, none⟩ = _ := fy3 10 _ rfl
             clear fy3 hy3
             have hs2 : g < W2.heap.size := (O3.out.lt g rfl).2
             have o4 := put11_own O3.out x (k := i) (by rw [List.length_set, HML.out]; omega)
             rw [HPX.out] at o4
             have b4 := put11_below (s := i * 11) (r := x.r) (v := .slice po pn pcap) B3.out hgb
             obtain ⟨W3, hW3⟩ : ∃ W3, W3 = put11 W2 g (i * 11) x.r (.slice po pn pcap) := ⟨_, rfl⟩
             rw [← hW3] at o4 b4
             unfold put11 at hW3
             have HW3 := Lib.hid hW3
             have O4 := Lib.hid o4
             have B4 := Lib.hid b4
             clear hW3 o4 b4
             go_upto_region 8 with fail
             rw [← HW3.out]
             clear c0 d0 z0 c1 d1 z1 c2 d2 z2 c3 d3 z3 c4 d4 z4 c5 d5 z5 c6 d6 z6 c7 d7 z7 c8 d8 z8 c9 d9 z9 c10 d10 z10 HW3
             go_wp2
             go_roundw
             case rel => exact ⟨i, _, by omega, by go_num, hpm, hsw, O4, B4.out⟩
             case measure => simp [intOf]
   · have hk9 : k = l.length := by omega
     have hle : decide ((k : Int) < (l.length : Int)) = false := by simp; omega
     have fin : Hid (rls M = ordL (rls l)) := (by have hp := HM.out; rw [hk9, List.take_length] at hp; have hs := HT.out; rw [hk9, ← hp.length_eq] at hs; exact sorted_ordL HRS.out (hp.map _) (srt_pw hs))
     have hp : M.Perm l := by have hp := HM.out; rw [hk9, List.take_length] at hp; exact hp
     have HP := Lib.hid hp
     have HK9 := Lib.hid hk9
     clear hp hk9
     go_wp2
     go_ret
     refine ⟨_, M, rfl, fin.out, HP.out, ⟨?_, fun x hx => (HV.out.2 x (HP.out.mem_iff.1 hx)).below hbl (Nat.le_refl _)⟩, hbl⟩
     rw [HP.out.length_eq, ← HK9.out]
     exact Rd.of_owns OM.out
end Go.Proofs.YtijofgaekmahkaaGreatDoor
