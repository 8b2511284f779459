/- Walks: the best choice of bundles in the program. Conditions: none. -/
import Derived.Test.YtomapdedajdkkabBJ
import Derived.Laws.EntriesVeiled
namespace Go.Proofs.Ytomapdedajdkkab
open Go.RowKit

theorem try_0 (s : List Art) (B : List Bn) (W : World) (so lo : Option Addr) (scap lcap : Nat) (S L M N Bb Hb Tb gH gN cH cN : Nat) (hok : ∀ k, k < B.length → bOkT s B k = true) (hB3 : B.length ≤ 3) (hs10 : s.length ≤ 10) (O : Ord W.heap.size S L M N Bb Hb Tb gH gN) (hsW : Rd W 4 (.slice so s.length scap) s.length (ar s)) (hlW : RdB W (.slice lo B.length lcap) B)
    (h now : List Int) (w : World) (E : Env W (.slice so s.length scap) (.slice lo B.length lcap) S L M N Bb Hb Tb gH gN cH cN s.length B.length w h now [] (-1)) (hoh : okH h) (hl : h.length = s.length) :
    Calls Try.prog 60 #[.int .i64 0, .int .i64 0, .pointer (some ⟨L, 0, none⟩), .pointer (some ⟨M, 0, none⟩), .pointer (some ⟨N, 0, none⟩), .pointer (some ⟨Bb, 0, none⟩), .pointer (some ⟨S, 0, none⟩), .pointer (some ⟨Hb, 0, none⟩), .pointer (some ⟨Tb, 0, none⟩)] w fun e w' => e = .returned (.tuple #[]) ∧ ∃ now', Env W (.slice so s.length scap) (.slice lo B.length lcap) S L M N Bb Hb Tb gH gN cH cN s.length B.length w' h now' (bestQ s (qsB B) h).2 (bestQ s (qsB B) h).1 := by
  have hb := (bestQ_fits (qsB B) h (okQ_all hok) hl hoh).2.2.1
  have hu : upd (-1, []) (0 + (bestQ s ((qsB B).drop 0) h).1) (now.take 0 ++ (bestQ s ((qsB B).drop 0) h).2) = bestQ s (qsB B) h := by
    unfold upd
    rw [List.drop_zero, if_pos (by show (-1 : Int) < _; omega), List.take_zero, List.nil_append, Int.zero_add]
  have hc := implTry_any s B W so lo scap lcap S L M N Bb Hb Tb gH gN cH cN hok hB3 hs10 O hsW hlW B.length 0 0 (-1) h now [] w (by omega) E hoh (Int.le_refl _) (by omega)
  rw [hu] at hc
  refine Calls.mono (show Calls Try.prog 60 #[.int .i64 0, .int .i64 0, .pointer (some ⟨L, 0, none⟩), .pointer (some ⟨M, 0, none⟩), .pointer (some ⟨N, 0, none⟩), .pointer (some ⟨Bb, 0, none⟩), .pointer (some ⟨S, 0, none⟩), .pointer (some ⟨Hb, 0, none⟩), .pointer (some ⟨Tb, 0, none⟩)] w _ from hc) ?_
  rintro e w' ⟨rfl, now', _, E'⟩
  exact ⟨rfl, now', E'⟩

theorem bestPost_new {s : List Art} {c : List (Int × Int)} {B : List Bn} {w w1 : World} (h : fBest s c B = []) (hb : Below w.heap.size w w1) : BestPost s c B w (.returned (.slice (some ⟨w1.heap.size, 0, none⟩) 0 0)) (w1.alloc (.cells #[] 3)) := by
  refine ⟨_, rfl, ?_, hb.alloc hb.size _⟩
  rw [h]
  exact World.ownsRow_made w1 #[] 0 hb.size (by simp) (by simp)

set_option maxHeartbeats 8000000 in
set_option maxRecDepth 100000 in
theorem implBB_any (s : List Art) (u : Value) (c : List (Int × Int)) (cv : Value) (B : List Bn) (lv : Value) (w : World) (hs : Rd w 4 u s.length (ar s)) (hc : Rd w 2 cv c.length (pr c)) (hl : RdB w lv B) :
    Calls Try.prog 21 #[u, cv, lv] w (BestPost s c B w) := by
  obtain ⟨so, scap, rfl, _⟩ := hs.arts
  obtain ⟨co, ccap, rfl, _⟩ := hc.pairs
  obtain ⟨lo, lcap, rfl, _⟩ := hl.open
  have HS := Lib.hid hs
  have HC := Lib.hid hc
  have HL := Lib.hid hl
  have b0 : Below w.heap.size w ((w.alloc (.cells #[(.slice so s.length scap)] 29)).alloc (.cells #[(.slice lo B.length lcap)] 39)) := ((Below.refl _ _).alloc (Nat.le_refl _) _).alloc (by simp) _
  have i0S : ((w.alloc (.cells #[(.slice so s.length scap)] 29)).alloc (.cells #[(.slice lo B.length lcap)] 39)).heap[w.heap.size]? = some (.cells #[(.slice so s.length scap)] 29 (0, 0)) := by rw [Below.heap_alloc _ _ _ (by simp)]; exact heap_alloc_new w _
  have i0L : ((w.alloc (.cells #[(.slice so s.length scap)] 29)).alloc (.cells #[(.slice lo B.length lcap)] 39)).heap[w.heap.size + 1]? = some (.cells #[(.slice lo B.length lcap)] 39 (0, 0)) := by have h := heap_alloc_new (w.alloc (.cells #[(.slice so s.length scap)] 29)) (.cells #[(.slice lo B.length lcap)] 39); rw [World.size_alloc] at h; exact h
  have z0 : ((w.alloc (.cells #[(.slice so s.length scap)] 29)).alloc (.cells #[(.slice lo B.length lcap)] 39)).heap.size = w.heap.size + 2 := by simp
  have B0 := Lib.hid b0
  have IS := Lib.hid i0S
  have IL := Lib.hid i0L
  have q0 := cell_of_one i0S
  have q1 := cell_of_one i0L
  clear hs hc hl b0 i0S i0L
  cases hcc : vCart s c
  · have fin := Lib.hid (fBest_c (B := B) hcc)
    go_enter Try.func21, Try.ntmps21
    go_wp2_with (go_at_call 57; (with_reducible refine (implCart_any s _ c _ _ (HS.out.below B0.out (Nat.le_refl _)) (HC.out.below B0.out (Nat.le_refl _))).mono ?_); rintro e w1 ⟨rfl, hb1⟩)
    go_ret
    exact bestPost_new fin.out (B0.out.trans (hb1.mono B0.out.size))
  have HCC := Lib.hid hcc
  have hzz : w.heap.size ≤ ((w.alloc (.cells #[(.slice so s.length scap)] 29)).alloc (.cells #[(.slice lo B.length lcap)] 39)).heap.size := B0.out.size
  cases hvb : vBn s B
  · have fin := Lib.hid (fBest_b (c := c) hvb)
    go_enter Try.func21, Try.ntmps21
    go_wp2_with (first | (go_at_call 57; (with_reducible refine (implCart_any s _ c _ _ (HS.out.below B0.out (Nat.le_refl _)) (HC.out.below B0.out (Nat.le_refl _))).mono ?_); rintro e w1 ⟨rfl, hb1⟩; have b1 := B0.out.trans (hb1.mono hzz); have p0 := (hb1.cell (p := ⟨w.heap.size, 0, none⟩) (by rw [z0]; exact Nat.lt_add_of_pos_right (by decide))).trans q0; have p1 := (hb1.cell (p := ⟨w.heap.size + 1, 0, none⟩) (by rw [z0]; exact Nat.lt_succ_self _)).trans q1) | (go_at_call 58; (with_reducible refine (implBundles_any s _ B _ _ (HS.out.below b1 (Nat.le_refl _)) (HL.out.below b1 (Nat.le_refl _))).mono ?_); rintro e w2 ⟨rfl, hb2⟩))
    go_ret
    exact bestPost_new fin.out (b1.trans (hb2.mono b1.size))
  obtain ⟨hsh, hok, hB3⟩ := vBn_pr hvb
  have hs10 := (vShop_all hsh).2.2
  have hs1 := (vShop_all hsh).2.1
  have HOK := Lib.hid hok
  have fin := Lib.hid (fBest_y hcc hvb)
  have HVL := Lib.hid (vCart_pr hcc).2
  obtain ⟨t0, hi, hz0, hz1, hz2⟩ := info_parts Try.info3b
  have HI := Lib.hid hi
  have HZ0 := Lib.hid hz0
  have HZ1 := Lib.hid hz1
  have HZ2 := Lib.hid hz2
  clear hi hz0 hz1 hz2 hcc hvb hok hsh
  go_enter Try.func21, Try.ntmps21
  go_wp2_with fail
  refine (implCart_any s _ c _ _ (HS.out.below B0.out (Nat.le_refl _)) (HC.out.below B0.out (Nat.le_refl _))).mono ?_
  rintro e w1 ⟨rfl, hb1⟩
  rw [HCC.out]
  have b1 := B0.out.trans (hb1.mono hzz)
  have p0 := (hb1.cell (p := ⟨w.heap.size, 0, none⟩) (by rw [z0]; exact Nat.lt_add_of_pos_right (by decide))).trans q0
  have p1 := (hb1.cell (p := ⟨w.heap.size + 1, 0, none⟩) (by rw [z0]; exact Nat.lt_succ_self _)).trans q1
  have IS1 := Lib.hid ((hb1.block w.heap.size (by rw [z0]; exact Nat.lt_add_of_pos_right (by decide))).trans IS.out)
  have IL1 := Lib.hid ((hb1.block (w.heap.size + 1) (by rw [z0]; exact Nat.lt_succ_self _)).trans IL.out)
  clear hb1 q0 q1
  go_wp2_with fail
  refine (implBundles_any s _ B _ _ (HS.out.below b1 (Nat.le_refl _)) (HL.out.below b1 (Nat.le_refl _))).mono ?_
  rintro e w2 ⟨rfl, hb2⟩
  rw [show vBn s B = true from vBn_mk (vCart_pr HCC.out).1 HOK.out hB3]
  have b2 := b1.trans (hb2.mono b1.size)
  have hl1 := lt_of_block IL1.out
  have IS2 := Lib.hid ((hb2.block w.heap.size (lt_of_block IS1.out)).trans IS1.out)
  have IL2 := Lib.hid ((hb2.block (w.heap.size + 1) hl1).trans IL1.out)
  have p2 := cell_of_one IS2.out
  have p3 := cell_of_one IL2.out
  have hz2 := hb2.size
  clear hb2 p0 p1 IS1 IL1 b1 IS IL
  go_wp2_with fail
  refine (implPieces_any s.length c _ _ (HC.out.below b2 (Nat.le_refl _)) HVL.out (by omega)).mono ?_
  rintro e w3 ⟨hv, rfl, ho3, hb3⟩
  obtain ⟨ha, cH, rfl, hsh⟩ := owns_shape ho3
  obtain ⟨gH, rfl, hgH⟩ := hsh (by omega)
  have b3 := b2.trans (hb3.mono b2.size)
  have IS3 := Lib.hid ((hb3.block w.heap.size (lt_of_block IS2.out)).trans IS2.out)
  have IL3 := Lib.hid ((hb3.block (w.heap.size + 1) (lt_of_block IL2.out)).trans IL2.out)
  have HO3 := Lib.hid ho3
  have hgH3 := (ho3.lt gH rfl).2
  have hl2 := lt_of_block IL2.out
  have p4 := cell_of_one IL3.out
  have hz3 := lt_of_block IL3.out
  clear hb3 p2 p3 IS2 IL2 b2 ho3 hsh
  have e34 : Below w3.heap.size w3 ((((w3.alloc (.cells #[.slice (some ⟨gH, 0, none⟩) s.length cH] 42)).alloc (.cells #[] 3)).alloc (.cells #[.slice (some ⟨w3.heap.size + 1, 0, none⟩) 0 0] 42)).alloc (.cells #[.int .i64 (-1)] 3)) := (((((Below.refl _ _).alloc (Nat.le_refl _) _).alloc (by simp) _).alloc (by simp; omega) _).alloc (by simp; omega) _)
  have p5 : ((((w3.alloc (.cells #[.slice (some ⟨gH, 0, none⟩) s.length cH] 42)).alloc (.cells #[] 3)).alloc (.cells #[.slice (some ⟨w3.heap.size + 1, 0, none⟩) 0 0] 42)).alloc (.cells #[.int .i64 (-1)] 3)).cell? ⟨w.heap.size + 1, 0, none⟩ = some (.slice lo B.length lcap) := (e34.cell (p := ⟨w.heap.size + 1, 0, none⟩) hz3).trans p4
  have z4 : ((((w3.alloc (.cells #[.slice (some ⟨gH, 0, none⟩) s.length cH] 42)).alloc (.cells #[] 3)).alloc (.cells #[.slice (some ⟨w3.heap.size + 1, 0, none⟩) 0 0] 42)).alloc (.cells #[.int .i64 (-1)] 3)).heap.size = w3.heap.size + 1 + 1 + 1 + 1 := by simp
  go_wp2_with (refine wpList_make_full _ rfl _ _ 42 rfl w.heap.size 3 t0 _ 1 Try.underlying42 HI.out HZ0.out HZ1.out _ _ _ _ B.length rfl rfl rfl rfl (by rw [HZ2.out]; omega) (by unfold maxLen; omega) (by rw [z4]; omega) ?_; intro w4 hown hgr; have k5 : ((w4.alloc (.cells #[(.slice (some ⟨w3.heap.size + 1 + 1 + 1 + 1, 0, none⟩) B.length B.length)] 42)).alloc (.cells #[.nilFunc] 87)).heap[w4.heap.size + 1]? = some (.cells #[.nilFunc] 87 (0, 0)) := (by have h := heap_alloc_new (w4.alloc (.cells #[(.slice (some ⟨w3.heap.size + 1 + 1 + 1 + 1, 0, none⟩) B.length B.length)] 42)) (.cells #[.nilFunc] 87); rw [World.size_alloc] at h; exact h); have c5 := cell_of_one k5; have f5 := free_of_one k5)
  have b44 := below_of_grownBy hgr
  have z44 := b44.size
  rw [z4] at z44
  have eb : Below ((((w3.alloc (.cells #[.slice (some ⟨gH, 0, none⟩) s.length cH] 42)).alloc (.cells #[] 3)).alloc (.cells #[.slice (some ⟨w3.heap.size + 1, 0, none⟩) 0 0] 42)).alloc (.cells #[.int .i64 (-1)] 3)).heap.size ((((w3.alloc (.cells #[.slice (some ⟨gH, 0, none⟩) s.length cH] 42)).alloc (.cells #[] 3)).alloc (.cells #[.slice (some ⟨w3.heap.size + 1, 0, none⟩) 0 0] 42)).alloc (.cells #[.int .i64 (-1)] 3)) ((w4.alloc (.cells #[(.slice (some ⟨w3.heap.size + 1 + 1 + 1 + 1, 0, none⟩) B.length B.length)] 42)).alloc (.cells #[(.func (Fn.func 60) #[] #[.pointer (some ⟨w.heap.size + 1, 0, none⟩), .pointer (some ⟨w3.heap.size + 1 + 1 + 1, 0, none⟩), .pointer (some ⟨w4.heap.size, 0, none⟩), .pointer (some ⟨w3.heap.size + 1 + 1, 0, none⟩), .pointer (some ⟨w.heap.size, 0, none⟩), .pointer (some ⟨w3.heap.size, 0, none⟩), .pointer (some ⟨w4.heap.size + 1, 0, none⟩)])] 87)) := b44.trans ((((Below.refl w4.heap.size w4).alloc (Nat.le_refl _) _).alloc (by simp) _).mono b44.size)
  have e36 : Below w3.heap.size w3 ((w4.alloc (.cells #[(.slice (some ⟨w3.heap.size + 1 + 1 + 1 + 1, 0, none⟩) B.length B.length)] 42)).alloc (.cells #[(.func (Fn.func 60) #[] #[.pointer (some ⟨w.heap.size + 1, 0, none⟩), .pointer (some ⟨w3.heap.size + 1 + 1 + 1, 0, none⟩), .pointer (some ⟨w4.heap.size, 0, none⟩), .pointer (some ⟨w3.heap.size + 1 + 1, 0, none⟩), .pointer (some ⟨w.heap.size, 0, none⟩), .pointer (some ⟨w3.heap.size, 0, none⟩), .pointer (some ⟨w4.heap.size + 1, 0, none⟩)])] 87)) := e34.trans (eb.mono e34.size)
  have hln : (((((w3.alloc (.cells #[.slice (some ⟨gH, 0, none⟩) s.length cH] 42)).alloc (.cells #[] 3)).alloc (.cells #[.slice (some ⟨w3.heap.size + 1, 0, none⟩) 0 0] 42)).alloc (.cells #[.int .i64 (-1)] 3))).heap.size = w3.heap.size + 1 + 1 + 1 + 1 := z4
  have jH : ((((w3.alloc (.cells #[.slice (some ⟨gH, 0, none⟩) s.length cH] 42)).alloc (.cells #[] 3)).alloc (.cells #[.slice (some ⟨w3.heap.size + 1, 0, none⟩) 0 0] 42)).alloc (.cells #[.int .i64 (-1)] 3)).heap[w3.heap.size]? = some (.cells #[.slice (some ⟨gH, 0, none⟩) s.length cH] 42 (0, 0)) := by
    rw [Below.heap_alloc _ _ _ (by simp; omega), Below.heap_alloc _ _ _ (by simp; omega), Below.heap_alloc _ _ _ (by simp)]; exact heap_alloc_new w3 _
  have jB : ((((w3.alloc (.cells #[.slice (some ⟨gH, 0, none⟩) s.length cH] 42)).alloc (.cells #[] 3)).alloc (.cells #[.slice (some ⟨w3.heap.size + 1, 0, none⟩) 0 0] 42)).alloc (.cells #[.int .i64 (-1)] 3)).heap[w3.heap.size + 1 + 1]? = some (.cells #[.slice (some ⟨w3.heap.size + 1, 0, none⟩) 0 0] 42 (0, 0)) := by
    rw [Below.heap_alloc _ _ _ (by simp)]
    have h := heap_alloc_new ((w3.alloc (.cells #[.slice (some ⟨gH, 0, none⟩) s.length cH] 42)).alloc (.cells #[] 3)) (.cells #[.slice (some ⟨w3.heap.size + 1, 0, none⟩) 0 0] 42)
    rw [World.size_alloc, World.size_alloc] at h; exact h
  have jM : ((((w3.alloc (.cells #[.slice (some ⟨gH, 0, none⟩) s.length cH] 42)).alloc (.cells #[] 3)).alloc (.cells #[.slice (some ⟨w3.heap.size + 1, 0, none⟩) 0 0] 42)).alloc (.cells #[.int .i64 (-1)] 3)).heap[w3.heap.size + 1 + 1 + 1]? = some (.cells #[.int .i64 (-1)] 3 (0, 0)) := by
    have h := heap_alloc_new (((w3.alloc (.cells #[.slice (some ⟨gH, 0, none⟩) s.length cH] 42)).alloc (.cells #[] 3)).alloc (.cells #[.slice (some ⟨w3.heap.size + 1, 0, none⟩) 0 0] 42)) (.cells #[.int .i64 (-1)] 3)
    rw [World.size_alloc, World.size_alloc, World.size_alloc] at h; exact h
  have jN : ((w4.alloc (.cells #[(.slice (some ⟨w3.heap.size + 1 + 1 + 1 + 1, 0, none⟩) B.length B.length)] 42)).alloc (.cells #[(.func (Fn.func 60) #[] #[.pointer (some ⟨w.heap.size + 1, 0, none⟩), .pointer (some ⟨w3.heap.size + 1 + 1 + 1, 0, none⟩), .pointer (some ⟨w4.heap.size, 0, none⟩), .pointer (some ⟨w3.heap.size + 1 + 1, 0, none⟩), .pointer (some ⟨w.heap.size, 0, none⟩), .pointer (some ⟨w3.heap.size, 0, none⟩), .pointer (some ⟨w4.heap.size + 1, 0, none⟩)])] 87)).heap[w4.heap.size]? = some (.cells #[(.slice (some ⟨w3.heap.size + 1 + 1 + 1 + 1, 0, none⟩) B.length B.length)] 42 (0, 0)) := by
    rw [Below.heap_alloc _ _ _ (by simp)]; exact heap_alloc_new w4 _
  have jT : ((w4.alloc (.cells #[(.slice (some ⟨w3.heap.size + 1 + 1 + 1 + 1, 0, none⟩) B.length B.length)] 42)).alloc (.cells #[(.func (Fn.func 60) #[] #[.pointer (some ⟨w.heap.size + 1, 0, none⟩), .pointer (some ⟨w3.heap.size + 1 + 1 + 1, 0, none⟩), .pointer (some ⟨w4.heap.size, 0, none⟩), .pointer (some ⟨w3.heap.size + 1 + 1, 0, none⟩), .pointer (some ⟨w.heap.size, 0, none⟩), .pointer (some ⟨w3.heap.size, 0, none⟩), .pointer (some ⟨w4.heap.size + 1, 0, none⟩)])] 87)).heap[w4.heap.size + 1]? = some (.cells #[(.func (Fn.func 60) #[] #[.pointer (some ⟨w.heap.size + 1, 0, none⟩), .pointer (some ⟨w3.heap.size + 1 + 1 + 1, 0, none⟩), .pointer (some ⟨w4.heap.size, 0, none⟩), .pointer (some ⟨w3.heap.size + 1 + 1, 0, none⟩), .pointer (some ⟨w.heap.size, 0, none⟩), .pointer (some ⟨w3.heap.size, 0, none⟩), .pointer (some ⟨w4.heap.size + 1, 0, none⟩)])] 87 (0, 0)) := by have h := heap_alloc_new (w4.alloc (.cells #[(.slice (some ⟨w3.heap.size + 1 + 1 + 1 + 1, 0, none⟩) B.length B.length)] 42)) (.cells #[(.func (Fn.func 60) #[] #[.pointer (some ⟨w.heap.size + 1, 0, none⟩), .pointer (some ⟨w3.heap.size + 1 + 1 + 1, 0, none⟩), .pointer (some ⟨w4.heap.size, 0, none⟩), .pointer (some ⟨w3.heap.size + 1 + 1, 0, none⟩), .pointer (some ⟨w.heap.size, 0, none⟩), .pointer (some ⟨w3.heap.size, 0, none⟩), .pointer (some ⟨w4.heap.size + 1, 0, none⟩)])] 87); rw [World.size_alloc] at h; exact h
  have rB : ((((w3.alloc (.cells #[.slice (some ⟨gH, 0, none⟩) s.length cH] 42)).alloc (.cells #[] 3)).alloc (.cells #[.slice (some ⟨w3.heap.size + 1, 0, none⟩) 0 0] 42)).alloc (.cells #[.int .i64 (-1)] 3)).ownsRow w.heap.size 3 1 (.slice (some ⟨w3.heap.size + 1, 0, none⟩) 0 0) ([] : List Int).length (it []) := by
    have h := World.ownsRow_made (base := w.heap.size) (e := 3) (size := 1) (w3.alloc (.cells #[.slice (some ⟨gH, 0, none⟩) s.length cH] 42)) #[] 0 (by simp; omega) (by simp) (by simp)
    rw [World.size_alloc] at h
    exact (h.alloc _).alloc _
  have rN : w4.ownsRow w.heap.size 3 1 (.slice (some ⟨w3.heap.size + 1 + 1 + 1 + 1, 0, none⟩) B.length B.length) B.length (it (List.replicate B.length 0)) := by
    rw [← made_itP]; rw [z4] at hown; exact hown
  have hgN := (rN.lt (w3.heap.size + 1 + 1 + 1 + 1) rfl).2
  have hord : Ord w.heap.size w.heap.size (w.heap.size + 1) (w3.heap.size + 1 + 1 + 1) w4.heap.size (w3.heap.size + 1 + 1) w3.heap.size (w4.heap.size + 1) gH (w3.heap.size + 1 + 1 + 1 + 1) := by unfold Ord; omega
  have hoff : ∀ k, (Value.slice (some ⟨w3.heap.size + 1, 0, none⟩) 0 0).ownBlock = some k → k ≠ gH ∧ k ≠ w3.heap.size + 1 + 1 + 1 + 1 ∧ k ≠ w3.heap.size + 1 + 1 + 1 ∧ k ≠ w3.heap.size + 1 + 1 := fun k hk => by
    simp only [Value.ownBlock, Option.some.injEq] at hk; omega
  have E : Env w (.slice so s.length scap) (.slice lo B.length lcap) w.heap.size (w.heap.size + 1) (w3.heap.size + 1 + 1 + 1) w4.heap.size (w3.heap.size + 1 + 1) w3.heap.size (w4.heap.size + 1) gH (w3.heap.size + 1 + 1 + 1 + 1) cH B.length s.length B.length ((w4.alloc (.cells #[(.slice (some ⟨w3.heap.size + 1 + 1 + 1 + 1, 0, none⟩) B.length B.length)] 42)).alloc (.cells #[(.func (Fn.func 60) #[] #[.pointer (some ⟨w.heap.size + 1, 0, none⟩), .pointer (some ⟨w3.heap.size + 1 + 1 + 1, 0, none⟩), .pointer (some ⟨w4.heap.size, 0, none⟩), .pointer (some ⟨w3.heap.size + 1 + 1, 0, none⟩), .pointer (some ⟨w.heap.size, 0, none⟩), .pointer (some ⟨w3.heap.size, 0, none⟩), .pointer (some ⟨w4.heap.size + 1, 0, none⟩)])] 87)) (hvL s.length c) (List.replicate B.length 0) [] (-1) :=
    ⟨b3.trans (e36.mono b3.size), (e36.block _ (lt_of_block IS3.out)).trans IS3.out, (e36.block _ (lt_of_block IL3.out)).trans IL3.out, jT, (eb.block _ (lt_of_block jH)).trans jH, jN, (eb.block _ (lt_of_block jM)).trans jM,
      ⟨_, (eb.block _ (lt_of_block jB)).trans jB, ownsRow_below rB eb (Nat.le_refl _), hoff⟩, owns_base (ownsRow_below HO3.out e36 (Nat.le_refl _)) (by omega),
      ownsRow_below rN (((Below.refl w4.heap.size w4).alloc (Nat.le_refl _) _).alloc (by simp) _) (Nat.le_refl _)⟩
  refine (try_0 s B w so lo scap lcap w.heap.size (w.heap.size + 1) (w3.heap.size + 1 + 1 + 1) w4.heap.size (w3.heap.size + 1 + 1) w3.heap.size (w4.heap.size + 1) gH (w3.heap.size + 1 + 1 + 1 + 1) cH B.length HOK.out hB3 hs10 hord HS.out HL.out (hvL s.length c) (List.replicate B.length 0) _ E (okH_hvL HCC.out) (hvL_len _ _)).mono ?_
  rintro e w5 ⟨rfl, now', E'⟩
  obtain ⟨vb, v1, v2, _⟩ := E'.iB
  obtain ⟨va, vcap, rfl, _⟩ := owns_shape v2
  have cB := cell_of_one v1
  have V2 := Lib.hid v2
  have EO := Lib.hid E'.old
  clear E E' eb e36 jH jB jM jN jT rB rN hown hgr k5 c5 f5 b44 v1 v2
  go_wp2
  go_ret
  exact ⟨_, rfl, by rw [fin.out]; exact V2.out, EO.out⟩

end Go.Proofs.Ytomapdedajdkkab
