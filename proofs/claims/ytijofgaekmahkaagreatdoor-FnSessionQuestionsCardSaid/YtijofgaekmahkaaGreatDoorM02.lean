/- Joined texts: Adding and taking pieces, and how often parts are in pieces, as plain functions on lists. No program. Totals and gains as plain functions on lists. No program. Small laws on rows of numbers that a call owns: reading, storing, copying. Walks: amounts, sums and totals of carts. append to a row of the call's own, told where the new row lies. Plain laws on rules and their texts; no program. Conditions: none. -/
import Derived.Test.YtijofgaekmahkaaGreatDoorM01
import Derived.Laws.AppendOwnNone
import Derived.StillTailTactics
import Derived.Lib.MinMax
import Derived.Deep.RegionHeld3
import Derived.Deep.AppendLies
import Derived.Lib.ItoaNum
import Derived.Lib.Join
namespace Go.Proofs.YtijofgaekmahkaaGreatDoor
def ltL (c : List (Int × Int)) (a : Int) : List (Int × Int) := c.filter fun p => decide (p.1 < a)
def gtL (c : List (Int × Int)) (a : Int) : List (Int × Int) := c.filter fun p => decide (a < p.1)
def eqN (c : List (Int × Int)) (a : Int) : Int := ((c.filter fun p => decide (p.1 = a)).map Prod.snd).sum
def addL (c : List (Int × Int)) (a n : Int) : List (Int × Int) := ltL c a ++ [(a, n + eqN c a)] ++ gtL c a
def addOk (s : List Art) (c : List (Int × Int)) (a n : Int) : Bool := (vCart s c && wi a 0 (s.length - 1) && wi n 1 20) && vLines s.length (addL c a n)
def addR (s : List Art) (c : List (Int × Int)) (a n : Int) : List (Int × Int) := if addOk s c a n then addL c a n else []
def pP (l : List (Int × Int)) (k : Nat) : Int × Int := (pA l k, pB l k)
theorem take_pP {l : List (Int × Int)} {k : Nat} (hk : k < l.length) : l.take (k + 1) = l.take k ++ [pP l k] := by
 rw [List.take_succ_eq_append_getElem hk]
 unfold pP pA pB
 rw [List.getD_eq_getElem?_getD, List.getElem?_eq_getElem hk]
 rfl
theorem ltL_yes {l : List (Int × Int)} {a : Int} {k : Nat} (hk : k < l.length) (h : pA l k < a) : ltL (l.take (k + 1)) a = ltL (l.take k) a ++ [pP l k] := by
 rw [take_pP hk]; unfold ltL; rw [List.filter_append]; simp [pP, h]
theorem ltL_no {l : List (Int × Int)} {a : Int} {k : Nat} (hk : k < l.length) (h : ¬ pA l k < a) : ltL (l.take (k + 1)) a = ltL (l.take k) a := by
 rw [take_pP hk]; unfold ltL; rw [List.filter_append]; simp [pP]; omega
theorem gtL_yes {l : List (Int × Int)} {a : Int} {k : Nat} (hk : k < l.length) (h : a < pA l k) : gtL (l.take (k + 1)) a = gtL (l.take k) a ++ [pP l k] := by
 rw [take_pP hk]; unfold gtL; rw [List.filter_append]; simp [pP, h]
theorem gtL_no {l : List (Int × Int)} {a : Int} {k : Nat} (hk : k < l.length) (h : ¬ a < pA l k) : gtL (l.take (k + 1)) a = gtL (l.take k) a := by
 rw [take_pP hk]; unfold gtL; rw [List.filter_append]; simp [pP]; omega
theorem eqN_yes {l : List (Int × Int)} {a : Int} {k : Nat} (hk : k < l.length) (h : pA l k = a) : eqN (l.take (k + 1)) a = eqN (l.take k) a + pB l k := by
 rw [take_pP hk]; unfold eqN; rw [List.filter_append]; simp [pP, h]
theorem eqN_no {l : List (Int × Int)} {a : Int} {k : Nat} (hk : k < l.length) (h : ¬ pA l k = a) : eqN (l.take (k + 1)) a = eqN (l.take k) a := by
 rw [take_pP hk]; unfold eqN; rw [List.filter_append]; simp [pP, h]
theorem fil_zero (l : List (Int × Int)) (a : Int) : ltL (l.take 0) a = [] ∧ gtL (l.take 0) a = [] ∧ eqN (l.take 0) a = 0 := by simp [ltL, gtL, eqN]
theorem fil_len (l : List (Int × Int)) (a : Int) (k : Nat) : (ltL (l.take k) a).length ≤ k ∧ (gtL (l.take k) a).length ≤ k := by
 have h1 : (ltL (l.take k) a).length ≤ (l.take k).length := List.length_filter_le _ _
 have h2 : (gtL (l.take k) a).length ≤ (l.take k).length := List.length_filter_le _ _
 have h3 : (l.take k).length ≤ k := by rw [List.length_take]; omega
 omega
theorem eqN_bd {n : Int} {l : List (Int × Int)} (h : vLines n l = true) (a : Int) : ∀ k, k ≤ l.length → 0 ≤ eqN (l.take k) a ∧ eqN (l.take k) a ≤ 20 * k
 | 0, _ => by rw [(fil_zero l a).2.2]; omega
 | k + 1, hk => by
   have h1 := eqN_bd h a k (by omega)
   have h2 := lnOk_pr ((vLines_all h).1 k (by omega))
   by_cases e : pA l k = a
   · rw [eqN_yes (by omega) e]; omega
   · rw [eqN_no (by omega) e]; omega
def addI (l : List (Int × Int)) (a n : Int) (k : Nat) (d : Bool) : List (Int × Int) := if d then addL (l.take k) a n else l.take k
theorem lt_all {l : List (Int × Int)} {a : Int} : ∀ k, k ≤ l.length → (∀ j, j < k → pA l j < a) → ltL (l.take k) a = l.take k ∧ gtL (l.take k) a = [] ∧ eqN (l.take k) a = 0
 | 0, _, _ => by simp [ltL, gtL, eqN]
 | k + 1, hk, h => by
   have ih := lt_all k (by omega) (fun j hj => h j (by omega))
   have hk2 := h k (by omega)
   rw [ltL_yes (by omega) hk2, gtL_no (by omega) (by omega), eqN_no (by omega) (by omega), ih.1, ih.2.1, ih.2.2, take_pP (by omega)]
   exact ⟨rfl, rfl, rfl⟩
theorem addI_done {n : Int} {l : List (Int × Int)} (hv : vLines n l = true) {a m : Int} {k : Nat} (hk : k < l.length) (h : ∃ j, j < k ∧ a ≤ pA l j) : a < pA l k ∧ addI l a m (k + 1) true = addI l a m k true ++ [pP l k] := by
 obtain ⟨j, hj, ha⟩ := h
 have := ln_asc hv k hk j hj
 refine ⟨by omega, ?_⟩
 simp only [addI, if_true]
 unfold addL
 rw [ltL_no hk (by omega), gtL_yes hk (by omega), eqN_no hk (by omega), ← List.append_assoc]
theorem addI_gt {l : List (Int × Int)} {a m : Int} {k : Nat} (hk : k < l.length) (h : ∀ j, j < k → pA l j < a) (hg : a < pA l k) : addI l a m (k + 1) true = addI l a m k false ++ [(a, m)] ++ [pP l k] := by
 have h1 := lt_all k (by omega) h
 simp only [addI, if_true]
 unfold addL
 rw [ltL_no hk (by omega), gtL_yes hk hg, eqN_no hk (by omega), h1.1, h1.2.1, h1.2.2]
 simp
theorem addI_eq {l : List (Int × Int)} {a m : Int} {k : Nat} (hk : k < l.length) (h : ∀ j, j < k → pA l j < a) (hg : pA l k = a) : addI l a m (k + 1) true = addI l a m k false ++ [(a, pB l k + m)] := by
 have h1 := lt_all k (by omega) h
 simp only [addI, if_true]
 unfold addL
 rw [ltL_no hk (by omega), gtL_no hk (by omega), eqN_yes hk hg, h1.1, h1.2.1, h1.2.2]
 simp [Int.add_comm]
theorem addI_lt {l : List (Int × Int)} {a m : Int} {k : Nat} (hk : k < l.length) : addI l a m (k + 1) false = addI l a m k false ++ [pP l k] := by
 simp only [addI]
 exact take_pP hk
theorem addI_end {l : List (Int × Int)} {a m : Int} : addI l a m l.length true = addL l a m := by simp [addI]
theorem addI_end_no {l : List (Int × Int)} {a m : Int} (h : ∀ j, j < l.length → pA l j < a) : addI l a m l.length false ++ [(a, m)] = addL l a m := by
 have h1 := lt_all l.length (Nat.le_refl _) h
 rw [List.take_length] at h1
 simp only [addI]
 unfold addL
 rw [h1.1, h1.2.1, h1.2.2]
 simp
theorem addOk_pr {s : List Art} {c : List (Int × Int)} {a n : Int} (h : addOk s c a n = true) : vCart s c = true ∧ 0 ≤ a ∧ a < s.length ∧ 1 ≤ n ∧ n ≤ 20 ∧ vCart s (addL c a n) = true := by
 simp only [addOk, Bool.and_eq_true, wi_true] at h
 exact ⟨h.1.1.1, h.1.1.2.1, by omega, h.1.2.1, h.1.2.2, vCart_y (vCart_pr h.1.1.1).1 h.2⟩
def takeL (c : List (Int × Int)) (a n : Int) : List (Int × Int) := c.flatMap fun p => if p.1 = a then (if n < p.2 then [(a, p.2 - n)] else []) else [p]
def hasA (c : List (Int × Int)) (a : Int) : Bool := c.any fun p => decide (p.1 = a)
def fewA (c : List (Int × Int)) (a n : Int) : Bool := c.any fun p => decide (p.1 = a) && decide (p.2 < n)
def takeOk (s : List Art) (c : List (Int × Int)) (a n : Int) : Bool := (vCart s c && decide (1 ≤ n)) && (hasA c a && !fewA c a n)
theorem takeL_zero (c : List (Int × Int)) (a n : Int) : takeL (c.take 0) a n = [] ∧ hasA (c.take 0) a = false ∧ fewA (c.take 0) a n = false := by simp [takeL, hasA, fewA]
theorem takeL_ne {l : List (Int × Int)} {a n : Int} {k : Nat} (hk : k < l.length) (h : ¬ pA l k = a) : takeL (l.take (k + 1)) a n = takeL (l.take k) a n ++ [pP l k] ∧ hasA (l.take (k + 1)) a = hasA (l.take k) a ∧ fewA (l.take (k + 1)) a n = fewA (l.take k) a n := by
 rw [take_pP hk]; unfold takeL hasA fewA; rw [List.flatMap_append, List.any_append, List.any_append]; simp [pP, h]
theorem takeL_more {l : List (Int × Int)} {a n : Int} {k : Nat} (hk : k < l.length) (h : pA l k = a) (h2 : n < pB l k) : takeL (l.take (k + 1)) a n = takeL (l.take k) a n ++ [(a, pB l k - n)] ∧ hasA (l.take (k + 1)) a = true ∧ fewA (l.take (k + 1)) a n = fewA (l.take k) a n := by
 rw [take_pP hk]; unfold takeL hasA fewA; rw [List.flatMap_append, List.any_append, List.any_append]; simp [pP, h, h2]; omega
theorem takeL_all {l : List (Int × Int)} {a n : Int} {k : Nat} (hk : k < l.length) (h : pA l k = a) (h2 : pB l k = n) : takeL (l.take (k + 1)) a n = takeL (l.take k) a n ∧ hasA (l.take (k + 1)) a = true ∧ fewA (l.take (k + 1)) a n = fewA (l.take k) a n := by
 rw [take_pP hk]; unfold takeL hasA fewA; rw [List.flatMap_append, List.any_append, List.any_append]; simp [pP, h, h2]
theorem takeL_few {l : List (Int × Int)} {a n : Int} {k : Nat} (hk : k < l.length) (h : pA l k = a) (h2 : pB l k < n) : fewA l a n = true := by
 have e : fewA l a n = (fewA (l.take (k + 1)) a n || fewA (l.drop (k + 1)) a n) := by
   unfold fewA; rw [← List.any_append, List.take_append_drop]
 rw [e, take_pP hk]
 unfold fewA
 rw [List.any_append]
 simp [pP, h, h2]
end Go.Proofs.YtijofgaekmahkaaGreatDoor

namespace Go.Proofs.YtijofgaekmahkaaGreatDoor
open Go.RowKit
def sumT (l : List Int) : Nat → Int
 | 0 => 0
 | k + 1 => sumT l k + iG l k
theorem sumT_succ (l : List Int) (k : Nat) : sumT l (k + 1) = sumT l k + iG l k := rfl
theorem sumT_bd {l : List Int} (h : ∀ j, j < l.length → 0 ≤ iG l j ∧ iG l j ≤ 1000000) : ∀ k, k ≤ l.length → 0 ≤ sumT l k ∧ sumT l k ≤ 1000000 * k
 | 0, _ => by simp [sumT]
 | k + 1, hk => by
   have := sumT_bd h k (by omega)
   have := h k (by omega)
   unfold sumT
   omega
def amt (s : List Art) (c : List (Int × Int)) (k : Nat) : Int := (aT s (pA c k).toNat).p * pB c k
def amK (s : List Art) (c : List (Int × Int)) : Nat → List Int
 | 0 => []
 | k + 1 => amK s c k ++ [amt s c k]
def totK (s : List Art) (c : List (Int × Int)) : Nat → Int
 | 0 => 0
 | k + 1 => totK s c k + amt s c k
theorem amK_len (s : List Art) (c : List (Int × Int)) : ∀ k, (amK s c k).length = k
 | 0 => rfl
 | k + 1 => by unfold amK; rw [List.length_append, amK_len s c k]; rfl
theorem amK_get (s : List Art) (c : List (Int × Int)) : ∀ n j, j < n → iG (amK s c n) j = amt s c j
 | 0, j, h => absurd h (Nat.not_lt_zero _)
 | n + 1, j, h => by
   unfold amK
   have hl := amK_len s c n
   unfold iG
   by_cases e : j = n
   · subst e
     rw [List.getD_eq_getElem?_getD, List.getElem?_append_right (by omega), hl, Nat.sub_self]; rfl
   · have ih := amK_get s c n j (by omega)
     unfold iG at ih
     rw [List.getD_eq_getElem?_getD, List.getElem?_append_left (by omega), ← List.getD_eq_getElem?_getD]; exact ih
theorem sumT_am (s : List Art) (c : List (Int × Int)) (n : Nat) : ∀ k, k ≤ n → sumT (amK s c n) k = totK s c k
 | 0, _ => rfl
 | k + 1, hk => by unfold sumT totK; rw [sumT_am s c n k (by omega), amK_get s c n k (by omega)]
theorem amt_bd {s : List Art} {c : List (Int × Int)} (h : vCart s c = true) {k : Nat} (hk : k < c.length) : 1 ≤ amt s c k ∧ amt s c k ≤ 100000 := by
 have h1 := art_in h hk
 have h2 := atOk_pr h1.2.2.2.2.2
 have h3 := mul_bd (a := (aT s (pA c k).toNat).p) (b := pB c k) (m := 5000) (n := 20) (by omega) (by omega) (by omega) (by omega)
 have h4 : 1 * 1 ≤ (aT s (pA c k).toNat).p * pB c k := Int.mul_le_mul (by omega) (by omega) (by omega) (by omega)
 unfold amt
 omega
theorem totK_bd {s : List Art} {c : List (Int × Int)} (h : vCart s c = true) : ∀ k, k ≤ c.length → 0 ≤ totK s c k ∧ totK s c k ≤ 100000 * k
 | 0, _ => by simp [totK]
 | k + 1, hk => by
   have h1 := amt_bd h (k := k) (by omega)
   have h2 := totK_bd h k (by omega)
   unfold totK
   omega
def fTot (s : List Art) (c : List (Int × Int)) : Int := if vCart s c then totK s c c.length else -1
theorem fTot_no {s : List Art} {c : List (Int × Int)} (h : vCart s c = false) : fTot s c = -1 := by simp [fTot, h]
theorem fTot_yes {s : List Art} {c : List (Int × Int)} (h : vCart s c = true) : fTot s c = totK s c c.length := by simp [fTot, h]
end Go.Proofs.YtijofgaekmahkaaGreatDoor

namespace Go.Proofs.YtijofgaekmahkaaGreatDoor
open Go.RowKit
theorem below_row {w a b : World} {row : Option Nat} (h : Below w.heap.size w a) (hg : a.grownBy b row) (hr : ∀ k, row = some k → w.heap.size ≤ k) : Below w.heap.size w b :=
 below_of_grownBy (grownBy_new (grownBy_of_below h) hg hr)
theorem owns_apart {w w' : World} {b1 e sz n1 : Nat} {v1 v2 : Value} {xs : List Value} (h : w.ownsRow b1 e sz v1 n1 xs) (hg : w.grownBy w' v2.ownBlock) (hne : ∀ k k', v1.ownBlock = some k → v2.ownBlock = some k' → k ≠ k') : w'.ownsRow b1 e sz v1 n1 xs :=
 h.kept hg (by
   cases hv : v1.ownBlock with
   | none => exact .inl rfl
   | some k => right; intro e; exact hne k k hv e.symm rfl)
theorem owns_at1 {w : World} {base e g n cap : Nat} {m : List Int} (h : w.ownsRow base e 1 (.slice (some ⟨g, 0, none⟩) n cap) n (it m)) (k : Nat) (hk : k < n) :
   w.cell? ⟨g, k, none⟩ = some (.int .i64 (iG m k)) ∧ w.frozen? ⟨g, k, none⟩ = false := by
 have hl : m.length = n := by have := h.1; rw [it_len] at this; omega
 exact ⟨(h.cellAt k (by omega)).trans (it_get m k (by omega)), h.frozenAt _⟩
theorem owns_set1 {w : World} {base e g n cap : Nat} {m : List Int} (h : w.ownsRow base e 1 (.slice (some ⟨g, 0, none⟩) n cap) n (it m)) (k : Nat) (a : Int) :
   (w.setCell ⟨g, k, none⟩ (.int .i64 a)).ownsRow base e 1 (.slice (some ⟨g, 0, none⟩) n cap) n (it (m.set k a)) ∧ w.grownBy (w.setCell ⟨g, k, none⟩ (.int .i64 a)) (some g) := by
 rw [← it_set]
 exact h.stored _ _
end Go.Proofs.YtijofgaekmahkaaGreatDoor

namespace Go.Proofs.YtijofgaekmahkaaGreatDoor
open Go.RowKit
theorem Tryz.info3c : (Tryz.prog.info? 3).map (fun i => (i.zero, i.size, i.bytes)) = some (some (.int .i64 0), 1, 8) := by kernel_rfl
set_option maxHeartbeats 1000000 in
theorem total_any (l : List Int) (v : Value) (w : World) (hv : Rd w 1 v l.length (it l)) (hl : l.length ≤ 1000000) (hb : ∀ j, j < l.length → 0 ≤ iG l j ∧ iG l j ≤ 1000000) :
   Calls Tryz.prog 69 #[v] w fun e w' => e = .returned (.int .i64 (sumT l l.length)) ∧ w' = w := by
 obtain ⟨ao, cap, rfl, _, _, hr⟩ := hv.ints
 have HR := Lib.hid hr
 have HB := Lib.hid hb
 clear hr hv hb
 go_enter Tryz.func69, Tryz.ntmps69
 go_wp2
 go_loop [3, 8] (fun s i => ∃ k : Nat, k ≤ l.length ∧ i = .int .i64 k ∧ s = .int .i64 (sumT l k)) (fun _ i => l.length - (intOf i).toNat)
 case atStart => exact ⟨0, Nat.zero_le _, rfl, rfl⟩
 case round =>
   obtain ⟨k, hk, rfl, rfl⟩ := hrel
   by_cases hlt : k < l.length
   · obtain ⟨b, off, rfl, hb, hcell⟩ := HR.out (by omega)
     have h0 := hcell k hlt
     have h1 := HB.out k hlt
     obtain ⟨h11, h12⟩ := h1
     have h2 := sumT_bd HB.out k hk
     obtain ⟨h21, h22⟩ := h2
     have fin := Lib.hid (sumT_succ l k)
     clear hcell
     generalize iG l k = x at *
     go_wp2
     go_round
     case rel => exact ⟨k+1, by omega, by go_num, by rw [fin.out]⟩
     case measure => simp [intOf]; omega
   · obtain rfl : k = l.length := by omega
     go_wp2
     go_ret
     exact ⟨rfl, rfl⟩
set_option maxHeartbeats 1000000 in
theorem ssum_any (l : List Int) (v : Value) (w : World) (hv : Rd w 1 v l.length (it l)) (hl : l.length ≤ 1000000) (hb : ∀ j, j < l.length → 0 ≤ iG l j ∧ iG l j ≤ 1000000) :
   Calls Tryz.prog 91 #[v] w fun e w' => e = .returned (.int .i64 (sumT l l.length)) ∧ w' = w := by
 obtain ⟨ao, cap, rfl, _, _, hr⟩ := hv.ints
 have HR := Lib.hid hr
 have HB := Lib.hid hb
 clear hr hv hb
 go_enter Tryz.func91, Tryz.ntmps91
 go_wp2
 go_loop [3, 4] (fun s i => ∃ k : Nat, k ≤ l.length ∧ i = .int .i64 k ∧ s = .int .i64 (sumT l k)) (fun _ i => l.length - (intOf i).toNat)
 case atStart => exact ⟨0, Nat.zero_le _, rfl, rfl⟩
 case round =>
   obtain ⟨k, hk, rfl, rfl⟩ := hrel
   by_cases hlt : k < l.length
   · obtain ⟨b, off, rfl, hb, hcell⟩ := HR.out (by omega)
     have h0 := hcell k hlt
     have h1 := HB.out k hlt
     obtain ⟨h11, h12⟩ := h1
     have h2 := sumT_bd HB.out k hk
     obtain ⟨h21, h22⟩ := h2
     have fin := Lib.hid (sumT_succ l k)
     clear hcell
     generalize iG l k = x at *
     go_wp2
     go_round
     case rel => exact ⟨k+1, by omega, by go_num, by rw [fin.out]⟩
     case measure => simp [intOf]; omega
   · obtain rfl : k = l.length := by omega
     go_wp2
     go_ret
     exact ⟨rfl, rfl⟩
set_option maxHeartbeats 4000000 in
set_option maxRecDepth 100000 in
theorem implAmounts_any (s : List Art) (u : Value) (c : List (Int × Int)) (v : Value) (w : World) (hs : Rd w 4 u s.length (ar s)) (hv : Rd w 2 v c.length (pr c)) (hp : vCart s c = true) :
   Calls Tryz.prog 70 #[u, v] w fun e w' => ∃ o, e = .returned o ∧ w'.ownsRow w.heap.size 3 1 o (amK s c c.length).length (it (amK s c c.length)) ∧ Below w.heap.size w w' := by
 have HV := Lib.hid hv
 have HS := Lib.hid hs
 have hm := hs.len
 have hm2 := hv.len
 unfold maxLen at hm hm2
 obtain ⟨so, scap, rfl, _, _, hrs⟩ := hs.arts
 obtain ⟨co, ccap, rfl, _, _, hrc⟩ := hv.pairs
 have HRS := Lib.hid hrs
 have HRC := Lib.hid hrc
 clear hv hs hrs hrc
 obtain ⟨i0, hi, hz0, hz1, hz2⟩ := info_parts Tryz.info3c
 have HI := Lib.hid hi
 have HZ0 := Lib.hid hz0
 have HZ1 := Lib.hid hz1
 have HZ2 := Lib.hid hz2
 clear hi hz0 hz1 hz2
 have HOK := Lib.hid hp
 have O0 := Lib.hid (World.ownsRow_made w #[] 0 (Nat.le_refl _) (by simp) (by simp) : (w.alloc (.cells #[] 3)).ownsRow w.heap.size 3 1 (.slice (some ⟨w.heap.size, 0, none⟩) 0 0) 0 [])
 go_enter Tryz.func70, Tryz.ntmps70
 go_wp2_with (go_at_call 61; refine (implCart_any s _ c _ _ (HS.out.below ((Below.refl _ _).alloc (Nat.le_refl _) _) (Nat.le_refl _)) (HV.out.below ((Below.refl _ _).alloc (Nat.le_refl _) _) (Nat.le_refl _))).mono ?_; rintro e w1 ⟨rfl, hb1⟩; have B1 : Below w.heap.size w w1 := (((Below.refl _ _).alloc (Nat.le_refl _) _).trans (hb1.mono (by simp))); have O1 := Lib.hid (ownsRow_below O0.out hb1 (Nat.le_refl _)))
 go_loopw [5, 16] (fun o_ i_ wr => ∃ k : Nat, k ≤ c.length ∧ i_ = .int .i64 k ∧ Hid (wr.ownsRow w.heap.size 3 1 o_ (amK s c k).length (it (amK s c k))) ∧ Below w.heap.size w wr) (fun _ i_ _ => c.length - (intOf i_).toNat)
 case atStart => exact ⟨0, Nat.zero_le _, rfl, O1, B1⟩
 case round =>
   clear O1 B1 hp hb1
   obtain ⟨k, hk, rfl, O, hbl⟩ := hrel
   have hlen := amK_len s c k
   have hc8 := (vLines_all (vCart_pr HOK.out).2).2
   by_cases hlt : k < c.length
   · obtain ⟨h4, h5, h6, h7, h8, h9⟩ := art_in HOK.out hlt
     obtain ⟨b, off, rfl, hb, hcell⟩ := HRC.out (by omega)
     obtain ⟨sb, soff, rfl, hsb, hscell⟩ := HRS.out (by omega)
     obtain ⟨a, ha⟩ := Int.eq_ofNat_of_zero_le h5
     rw [ha, Int.toNat_natCast] at h4 h9
     have g0 := (hbl.cell (p := ⟨b, off + k*2, none⟩) hb).trans (hcell k hlt).1
     have g1 := (hbl.cell (p := ⟨b, off + k*2+1, none⟩) hb).trans (hcell k hlt).2
     have g3 := (hbl.cell (p := ⟨sb, soff + a*4, none⟩) hsb).trans (hscell a h4).1
     have hbw : b < wr.heap.size := Nat.lt_of_lt_of_le hb hbl.size
     have hsbw : sb < wr.heap.size := Nat.lt_of_lt_of_le hsb hbl.size
     have hwa := amt_bd HOK.out hlt
     have hwe : amt s c k = (aT s a).p * pB c k := by unfold amt; rw [ha, Int.toNat_natCast]
     have hst : Hid (amK s c (k + 1) = amK s c k ++ [amt s c k]) := rfl
     rw [hwe] at hwa hst
     rw [ha] at g0
     have HLEN := Lib.hid hlen
     clear hwe ha hcell hscell h5 h6 h7 h8 h9 hlen
     obtain ⟨x, hx⟩ : ∃ x, x = (aT s a).p := ⟨_, rfl⟩
     obtain ⟨y, hy⟩ : ∃ y, y = pB c k := ⟨_, rfl⟩
     rw [← hx, ← hy] at hst hwa
     rw [← hx] at g3
     rw [← hy] at g1
     clear hx hy
     obtain ⟨hw3, hw4⟩ := hwa
     have e1 : IntKind.i64.wrap (x * y) = x * y := IntWalk.i64_in _ (by omega)
     have ha0 : (0 : Int) ≤ (a : Int) := by omega
     have ha1 : (a : Int) < (s.length : Int) := by omega
     have hk0 : (0 : Int) ≤ (k : Int) := by omega
     have hk1 : (k : Int) < (c.length : Int) := by omega
     have bl1 := (hbl.alloc hbl.size (.cells #[.int .i64 a, .int .i64 y] 82))
     have ob1 := Lib.hid (O.out.alloc (.cells #[.int .i64 a, .int .i64 y] 82))
     go_wp2
     have q0 : (wr.alloc (.cells #[.int .i64 a, .int .i64 y] 82)).cell? ⟨wr.heap.size, 0, none⟩ = some (.int .i64 a) := cell_of_row _ _ _ _ _ _ (heap_alloc_new wr _)
     have q1 : (wr.alloc (.cells #[.int .i64 a, .int .i64 y] 82)).cell? ⟨wr.heap.size, 1, none⟩ = some (.int .i64 y) := cell_of_row _ _ _ _ _ _ (heap_alloc_new wr _)
     go_region_held3 (fun w' => w'.cell? ⟨wr.heap.size, 0, none⟩ = some (.int .i64 a) ∧ w'.cell? ⟨wr.heap.size, 1, none⟩ = some (.int .i64 y) ∧ w'.cell? ⟨sb, soff + a*4, none⟩ = some (.int .i64 x))
       (first
         | go_keep
         | (go_split_ands
            refine ⟨?_, ?_, ?_⟩
            · (rw [hgrow.cell_far _ (by simp; omega) (by intro hh; have := (O.out.lt _ hh.symm); dsimp only at this; omega)]; assumption)
            · (rw [hgrow.cell_far _ (by simp; omega) (by intro hh; have := (O.out.lt _ hh.symm); dsimp only at this; omega)]; assumption)
            · (rw [hgrow.cell_far _ (by simp; omega) (by intro hh; have := (O.out.lt _ hh.symm); dsimp only at this; omega)]; assumption)))
       ((refine step_append_lies _ (by rfl) _ _ _ (by rfl) w.heap.size 3 i0 _ 1 8 Tryz.underlying34 HI.out HZ0.out HZ1.out HZ2.out rfl (by omega) _ _ (it (amK s c k)) (by rfl) ((ob1.out.alloc _).drew)
           ⟨wr.heap.size + 1, 0, none⟩ 1 1 [.int .i64 (x * y)] (by rfl) (by rfl) (World.news_of_block (cs := #[.int .i64 (x * y)]) (t := 3) (fr := (0, 0)) (by have h9 := heap_alloc_new (wr.alloc (.cells #[.int .i64 a, .int .i64 y] 82)) (.cells #[.int .i64 (x * y)] 3); simp only [World.size_alloc] at h9; exact h9)) (by simp [Value.oneCell'])
           (by omega) (by rw [HLEN.out]; unfold maxLen; omega) (by rw [HLEN.out]; omega) (by simp; have := hbl.size; omega) (wr.heap.size + 2) (by simp) ?_; intro gg cap w9 hown9 hgrow hat hltg))
     have bl9 : Below w.heap.size w w9 := below_row ((bl1.alloc bl1.size _).drew) hgrow (fun k hk => (O.out.lt k hk).1)
     have o9' : w9.ownsRow w.heap.size 3 1 (.slice (some ⟨gg, 0, none⟩) ((amK s c k).length + 1) cap) (amK s c (k + 1)).length (it (amK s c (k + 1))) := by
       rw [hst.out, List.length_append, List.length_singleton]; simpa [it] using hown9
     have o9 := Lib.hid o9'
     clear hown9 hgrow hat hltg o9'
     go_wp2
     go_roundw
     case rel => exact ⟨k+1, by omega, by go_num, o9, bl9⟩
     case measure => simp [intOf]; omega
   · obtain rfl : k = c.length := by omega
     go_wp2
     go_ret
     exact ⟨_, rfl, O.out, hbl⟩
set_option maxHeartbeats 4000000 in
set_option maxRecDepth 100000 in
theorem specAmounts_any (s : List Art) (u : Value) (c : List (Int × Int)) (v : Value) (w : World) (hs : Rd w 4 u s.length (ar s)) (hv : Rd w 2 v c.length (pr c)) (hp : vCart s c = true) :
   Calls Tryz.prog 92 #[u, v] w fun e w' => ∃ o, e = .returned o ∧ w'.ownsRow w.heap.size 3 1 o (amK s c c.length).length (it (amK s c c.length)) ∧ Below w.heap.size w w' := by
 have HV := Lib.hid hv
 have HS := Lib.hid hs
 have hm := hs.len
 have hm2 := hv.len
 unfold maxLen at hm hm2
 obtain ⟨so, scap, rfl, _, _, hrs⟩ := hs.arts
 obtain ⟨co, ccap, rfl, _, _, hrc⟩ := hv.pairs
 have HRS := Lib.hid hrs
 have HRC := Lib.hid hrc
 clear hv hs hrs hrc
 obtain ⟨i0, hi, hz0, hz1, hz2⟩ := info_parts Tryz.info3c
 have HI := Lib.hid hi
 have HZ0 := Lib.hid hz0
 have HZ1 := Lib.hid hz1
 have HZ2 := Lib.hid hz2
 clear hi hz0 hz1 hz2
 have HOK := Lib.hid hp
 have O0 := Lib.hid (World.ownsRow_made w #[] 0 (Nat.le_refl _) (by simp) (by simp) : (w.alloc (.cells #[] 3)).ownsRow w.heap.size 3 1 (.slice (some ⟨w.heap.size, 0, none⟩) 0 0) 0 [])
 have B0 : Below w.heap.size w (w.alloc (.cells #[] 3)) := (Below.refl _ _).alloc (Nat.le_refl _) _
 go_enter Tryz.func92, Tryz.ntmps92
 go_wp2
 go_loopw [5, 6] (fun o_ i_ wr => ∃ k : Nat, k ≤ c.length ∧ i_ = .int .i64 k ∧ Hid (wr.ownsRow w.heap.size 3 1 o_ (amK s c k).length (it (amK s c k))) ∧ Below w.heap.size w wr) (fun _ i_ _ => c.length - (intOf i_).toNat)
 case atStart => exact ⟨0, Nat.zero_le _, rfl, O0, B0⟩
 case round =>
   clear O0 B0 hp
   obtain ⟨k, hk, rfl, O, hbl⟩ := hrel
   have hlen := amK_len s c k
   have hc8 := (vLines_all (vCart_pr HOK.out).2).2
   by_cases hlt : k < c.length
   · obtain ⟨h4, h5, h6, h7, h8, h9⟩ := art_in HOK.out hlt
     obtain ⟨b, off, rfl, hb, hcell⟩ := HRC.out (by omega)
     obtain ⟨sb, soff, rfl, hsb, hscell⟩ := HRS.out (by omega)
     obtain ⟨a, ha⟩ := Int.eq_ofNat_of_zero_le h5
     rw [ha, Int.toNat_natCast] at h4 h9
     have g0 := (hbl.cell (p := ⟨b, off + k*2, none⟩) hb).trans (hcell k hlt).1
     have g1 := (hbl.cell (p := ⟨b, off + k*2+1, none⟩) hb).trans (hcell k hlt).2
     have g3 := (hbl.cell (p := ⟨sb, soff + a*4, none⟩) hsb).trans (hscell a h4).1
     have hbw : b < wr.heap.size := Nat.lt_of_lt_of_le hb hbl.size
     have hsbw : sb < wr.heap.size := Nat.lt_of_lt_of_le hsb hbl.size
     have hwa := amt_bd HOK.out hlt
     have hwe : amt s c k = (aT s a).p * pB c k := by unfold amt; rw [ha, Int.toNat_natCast]
     have hst : Hid (amK s c (k + 1) = amK s c k ++ [amt s c k]) := rfl
     rw [hwe] at hwa hst
     rw [ha] at g0
     have HLEN := Lib.hid hlen
     clear hwe ha hcell hscell h5 h6 h7 h8 h9 hlen
     obtain ⟨x, hx⟩ : ∃ x, x = (aT s a).p := ⟨_, rfl⟩
     obtain ⟨y, hy⟩ : ∃ y, y = pB c k := ⟨_, rfl⟩
     rw [← hx, ← hy] at hst hwa
     rw [← hx] at g3
     rw [← hy] at g1
     clear hx hy
     obtain ⟨hw3, hw4⟩ := hwa
     have e1 : IntKind.i64.wrap (x * y) = x * y := IntWalk.i64_in _ (by omega)
     have ha0 : (0 : Int) ≤ (a : Int) := by omega
     have ha1 : (a : Int) < (s.length : Int) := by omega
     have hk0 : (0 : Int) ≤ (k : Int) := by omega
     have hk1 : (k : Int) < (c.length : Int) := by omega
     have bl1 := hbl
     have ob1 := Lib.hid O.out
     go_wp2
     have hk' : (k : Int) < (c.length : Int) := hk1
     go_region_held3 (fun w' => w'.cell? ⟨b, off + k*2, none⟩ = some (.int .i64 a) ∧ w'.cell? ⟨b, off + k*2+1, none⟩ = some (.int .i64 y) ∧ w'.cell? ⟨sb, soff + a*4, none⟩ = some (.int .i64 x))
       (first
         | go_keep
         | (go_split_ands
            refine ⟨?_, ?_, ?_⟩
            · (rw [hgrow.cell_far _ (by simp; omega) (by intro hh; have := (O.out.lt _ hh.symm).1; dsimp only at this; omega)]; assumption)
            · (rw [hgrow.cell_far _ (by simp; omega) (by intro hh; have := (O.out.lt _ hh.symm).1; dsimp only at this; omega)]; assumption)
            · (rw [hgrow.cell_far _ (by simp; omega) (by intro hh; have := (O.out.lt _ hh.symm).1; dsimp only at this; omega)]; assumption)))
       ((refine step_append_lies _ (by rfl) _ _ _ (by rfl) w.heap.size 3 i0 _ 1 8 Tryz.underlying34 HI.out HZ0.out HZ1.out HZ2.out rfl (by omega) _ _ (it (amK s c k)) (by rfl) ((ob1.out.alloc _).drew)
           ⟨wr.heap.size, 0, none⟩ 1 1 [.int .i64 (x * y)] (by rfl) (by rfl) (World.news_of_block (cs := #[.int .i64 (x * y)]) (t := 3) (fr := (0, 0)) (heap_alloc_new wr (.cells #[.int .i64 (x * y)] 3))) (by simp [Value.oneCell'])
           (by omega) (by rw [HLEN.out]; unfold maxLen; omega) (by rw [HLEN.out]; omega) (by simp; have := hbl.size; omega) (wr.heap.size + 1) (by simp) ?_; intro gg cap w9 hown9 hgrow hat hltg))
     have bl9 : Below w.heap.size w w9 := below_row ((bl1.alloc bl1.size _).drew) hgrow (fun k hk => (O.out.lt k hk).1)
     have o9' : w9.ownsRow w.heap.size 3 1 (.slice (some ⟨gg, 0, none⟩) ((amK s c k).length + 1) cap) (amK s c (k + 1)).length (it (amK s c (k + 1))) := by
       rw [hst.out, List.length_append, List.length_singleton]; simpa [it] using hown9
     have o9 := Lib.hid o9'
     clear hown9 hgrow hat hltg o9'
     go_wp2
     go_roundw
     case rel => exact ⟨k+1, by omega, by go_num, o9, bl9⟩
     case measure => simp [intOf]; omega
   · obtain rfl : k = c.length := by omega
     go_wp2
     go_ret
     exact ⟨_, rfl, O.out, hbl⟩
end Go.Proofs.YtijofgaekmahkaaGreatDoor

namespace Go.Proofs.YtijofgaekmahkaaGreatDoor
open Go.RowKit
def Near (w : World) (v v' : Value) : Prop := v'.ownBlock = v.ownBlock ∨ ∃ g, v'.ownBlock = some g ∧ w.heap.size ≤ g
theorem run_append_near {P : Program} (w : World) (base : Nat) (t ty e : TypeId) (i : TypeInfo) (z : Value) (size bytes : Nat) (ht : P.underlying t = some (.slice e)) (hi : P.info? e = some i) (hz : i.zero = some z)
   (hsize : i.size = size) (hby : i.bytes = bytes) (hzs : z.cells.size = size) (hsz : 0 < size) (v : Value) (n : Nat) (xs : List Value) (hown : w.ownsRow base e size v n xs)
   (a : Addr) (m c : Nat) (news : List Value) (hl : news.length = m * size) (hnews : ∀ j u, news[j]? = some u → w.cell? (a.add j) = some u) (h1 : ∀ u ∈ news, u.oneCell' = true)
   (h63 : n + m ≤ maxLen) (hbytes : (n + m) * bytes ≤ 140737488355328) (hbase : base ≤ w.heap.size) :
   ∃ v' w', (Builtin.append_ #[t, t] ty #[v, .slice (some a) m c]).run P w = .ok v' w' ∧ w'.ownsRow base e size v' (n + m) (xs ++ news) ∧ w.grownBy w' v.ownBlock ∧ Near w v v' := by
 obtain ⟨v', w', hr, h2, h3, _⟩ := run_append_own (P := P) w base t ty e i z size bytes ht hi hz hsize hby hzs hsz v n xs hown a m c news hl hnews h1 h63 hbytes hbase
 refine ⟨v', w', hr, h2, h3, ?_⟩
 rcases hown.2 with ⟨rfl, rfl⟩ | ⟨g, cap, cur, rfl, hbg, hg, hnc, hcm, hcs, htake⟩
 · have hx : xs = [] := List.eq_nil_of_length_eq_zero (by simpa using hown.1)
   subst hx
   obtain ⟨v2, w2, hr2, k2, _, _⟩ := run_append_own (P := P) w w.heap.size t ty e i z size bytes ht hi hz hsize hby hzs hsz (.slice none 0 0) 0 [] ⟨by simp, .inl ⟨rfl, rfl⟩⟩ a m c news hl hnews h1 h63 hbytes (Nat.le_refl _)
   rw [hr] at hr2
   simp only [Result.ok.injEq] at hr2
   obtain ⟨rfl, rfl⟩ := hr2
   cases hv : v'.ownBlock with
   | none => exact .inl hv
   | some k => exact .inr ⟨k, hv, (k2.lt k hv).1⟩
 · subst hsize
   subst hby
   by_cases hroom : n + m ≤ cap
   · have hfit : n * i.size + news.length ≤ cur.size := by rw [hl, hcs, ← Nat.add_mul]; exact Nat.mul_le_mul_right _ hroom
     have hr2 := run_append_room (P := P) w t ty e i ht hi g n cap cur hg a m c news hl hnews h1 hroom hfit
     rw [hr] at hr2
     simp only [Result.ok.injEq] at hr2
     obtain ⟨rfl, _⟩ := hr2
     exact .inl rfl
   · have holds : ∀ j u, xs[j]? = some u → w.cell? ((⟨g, 0, none⟩ : Addr).add j) = some u := hown.cells (g := g) rfl
     have hsmall : n + m ≤ 9223372036854775807 := by simp only [maxLen] at h63; omega
     have hr2 := run_append_grow (P := P) w t ty e i z ht hi hz ⟨g, 0, none⟩ n cap xs hown.1 holds a m c news hl hnews (by omega) (by omega) (growslice_fits (by omega) hbytes)
     rw [hr] at hr2
     simp only [Result.ok.injEq] at hr2
     obtain ⟨rfl, _⟩ := hr2
     exact .inr ⟨_, rfl, Nat.le_refl _⟩
theorem wpList_append_near {P : Program} {w : World} {ops : Array Oper} {rest : List Oper} {o : Oper} {a : Act} {Q : Exit → Act → World → Prop} (hgd : o.guard = none) (s x : Operand) (t : TypeId)
   (ho : o.op = .call { callee := .builtin .append, args := #[s, x], argTypes := #[t, t] })
   (base : Nat) (e : TypeId) (i : TypeInfo) (z : Value) (size bytes : Nat) (ht : P.underlying t = some (.slice e)) (hi : P.info? e = some i) (hz : i.zero = some z)
   (hsize : i.size = size) (hby : i.bytes = bytes) (hzs : z.cells.size = size) (hsz : 0 < size) (v : Value) (n : Nat) (xs : List Value) (hs : a.eval s = v) (hown : w.ownsRow base e size v n xs)
   (ad : Addr) (m c : Nat) (news : List Value) (hx : a.eval x = .slice (some ad) m c) (hl : news.length = m * size) (hnews : ∀ j u, news[j]? = some u → w.cell? (ad.add j) = some u) (h1 : ∀ u ∈ news, u.oneCell' = true)
   (h63 : n + m ≤ maxLen) (hbytes : (n + m) * bytes ≤ 140737488355328) (hbase : base ≤ w.heap.size)
   (h : ∀ v' w', w'.ownsRow base e size v' (n + m) (xs ++ news) → w.grownBy w' v.ownBlock → Near w v v' → wpList P ops Q rest (a.put o.dst v') w') : wpList P ops Q (o :: rest) a w :=
 wpList_plain hgd fun _ hK => by
   obtain ⟨v', w', hr, h2, h3, h4⟩ := run_append_near (P := P) w base t o.type e i z size bytes ht hi hz hsize hby hzs hsz v n xs hown ad m c news hl hnews h1 h63 hbytes hbase
   unfold Oper.wp execOp
   simp only [ho, resolve, invoke, builtin, Sem.run_bind, Sem.run_pure, Result.andThen_ok, List.map_toArray, List.map_cons, List.map_nil, hs, hx, hr]
   exact hK _ _ (h v' w' h2 h3 h4)
theorem app_near {P : Program} {w : World} {ops : Array Oper} {rest : List Oper} {o : Oper} {a : Act} {Q : Exit → Act → World → Prop} (hgd : o.guard = none) (s x : Operand) (t : TypeId)
   (ho : o.op = .call { callee := .builtin .append, args := #[s, x], argTypes := #[t, t] }) (base : Nat) (e t2 : TypeId) (i : TypeInfo) (z : Value) (ht : P.underlying t = some (.slice e)) (hi : P.info? e = some i) (hz : i.zero = some z)
   (hs : i.size = 2) (hby : i.bytes = 16) (hzs : z.cells.size = 2) (v : Value) (l : List (Int × Int)) (p q : Int) (hv : a.eval s = v) (hown : w.ownsRow base e 2 v l.length (pr l))
   (hx : a.eval x = .slice (some ⟨w.heap.size, 0, none⟩) 1 1) (hlen : l.length ≤ 1099511627776) (hbase : base ≤ w.heap.size)
   (h : ∀ v' w1, w1.ownsRow base e 2 v' (l ++ [(p, q)]).length (pr (l ++ [(p, q)])) → (w.alloc (.cells #[.int .i64 p, .int .i64 q] t2)).grownBy w1 v.ownBlock → Near w v v' → wpList P ops Q rest (a.put o.dst v') w1) :
   wpList P ops Q (o :: rest) a (w.alloc (.cells #[.int .i64 p, .int .i64 q] t2)) := by
 refine wpList_append_near hgd s x t ho base e i z 2 16 ht hi hz hs hby hzs (by decide) v l.length (pr l) hv (hown.alloc _) ⟨w.heap.size, 0, none⟩ 1 1 [.int .i64 p, .int .i64 q] hx rfl (cell_two_new w _ _ t2) (by
   intro u hu
   rcases List.mem_cons.1 hu with rfl | hu
   · rfl
   · rcases List.mem_cons.1 hu with rfl | hu
     · rfl
     · cases hu) (by unfold maxLen; omega) (by omega) (by simp; omega) ?_
 intro v' w1 h1 h2 h3
 refine h v' w1 ?_ h2 ?_
 · rw [List.length_append, pr_append]
   exact h1
 · rcases h3 with h3 | ⟨g, h3, h4⟩
   · exact .inl h3
   · exact .inr ⟨g, h3, by simp at h4; omega⟩
end Go.Proofs.YtijofgaekmahkaaGreatDoor

namespace Go.Proofs.YtijofgaekmahkaaGreatDoor
open Go.RowKit
structure Rl where
 num : Int
 lvl : Int
 rank : Int
 group : Int
 kind : Int
 value : Int
 cap : Int
 lo : Int
 hi : Int
 counts : List (Int × Int)
 coupon : Int
def okSp (a b : Int) : Bool := wi a 0 1000000 && wi b a 1000000
def okCn (c : List (Int × Int)) : Bool := (List.range c.length).all (fun k => okSp (pA c k) (pB c k)) && decide (c.length = 3)
def okGd (r : Rl) : Bool := okSp r.lo r.hi && okCn r.counts && wi r.coupon 0 9
def okVal (k v : Int) : Bool := if k = 1 then wi v 1 1000 else if k = 2 then wi v 1 1000000 else if k = 3 then wi v 2 20 else false
def okRu (r : Rl) : Bool := wi r.num 1 99 && wi r.lvl 0 3 && wi r.rank 0 9 && wi r.group (-1) 2 && wi r.cap 0 1000000 && okGd r && okVal r.kind r.value
def dec (n : Int) : List UInt8 := Go.Lib.decDigits n.toNat
def spW (a b : Int) : List UInt8 := dec a ++ 45 :: dec b
def kindW (k : Int) : List UInt8 := if k = 1 then [112, 101, 114, 109, 105, 108, 108, 101] else if k = 2 then [97, 109, 111, 117, 110, 116] else [102, 114, 101, 101]
def wLevel : List UInt8 := [108, 101, 118, 101, 108]
def wRank : List UInt8 := [114, 97, 110, 107]
def wGroup : List UInt8 := [103, 114, 111, 117, 112]
def wCap : List UInt8 := [99, 97, 112]
def wTotal : List UInt8 := [116, 111, 116, 97, 108]
def wCount : List UInt8 := [99, 111, 117, 110, 116]
def wCoupon : List UInt8 := [99, 111, 117, 112, 111, 110]
def allSp (a b : Int) : Bool := decide (a = 0) && decide (b = 1000000)
def headW (r : Rl) : List (List UInt8) := [wLevel, dec r.lvl, wRank, dec r.rank, kindW r.kind, dec r.value]
def grpW (r : Rl) : List (List UInt8) := if r.group = -1 then [] else [wGroup, dec r.group]
def capW (r : Rl) : List (List UInt8) := if r.cap = 0 then [] else [wCap, dec r.cap]
def totW (r : Rl) : List (List UInt8) := if allSp r.lo r.hi then [] else [wTotal, spW r.lo r.hi]
def cntW (c : List (Int × Int)) : Nat → List (List UInt8)
 | 0 => []
 | k + 1 => cntW c k ++ (if allSp (pA c k) (pB c k) then [] else [wCount, dec k, spW (pA c k) (pB c k)])
def cpnW (r : Rl) : List (List UInt8) := if r.coupon = 0 then [] else [wCoupon, dec r.coupon]
def restW (r : Rl) : List (List UInt8) := headW r ++ grpW r ++ capW r ++ totW r ++ cntW r.counts r.counts.length ++ cpnW r
def tl (ws : List (List UInt8)) : List UInt8 := ws.flatMap fun w => 32 :: w
def textR (r : Rl) : List UInt8 := dec r.num ++ tl (restW r)
theorem tl_nil : tl [] = [] := rfl
theorem tl_append (a b : List (List UInt8)) : tl (a ++ b) = tl a ++ tl b := by simp [tl, List.flatMap_append]
theorem tl_cons (w : List UInt8) (ws : List (List UInt8)) : tl (w :: ws) = 32 :: w ++ tl ws := by simp [tl]
theorem join_tl (x : List UInt8) (r : List (List UInt8)) : Go.Lib.join (x :: r) [32] = x ++ tl r := by
 rw [Go.Lib.join_cons]
 rfl
end Go.Proofs.YtijofgaekmahkaaGreatDoor
