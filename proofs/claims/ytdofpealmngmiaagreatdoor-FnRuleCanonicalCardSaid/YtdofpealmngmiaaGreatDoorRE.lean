/- Walks: what the package's variables hold; numbers and spans as text in the program. Conditions: none. -/
import Derived.Test.YtdofpealmngmiaaGreatDoorRD
import Derived.Test.YtdofpealmngmiaaGreatDoorQT
import Derived.Test.YtdofpealmngmiaaGreatDoorShelf
import Derived.Lib.SmallJoins
import Derived.Laws.StructEq
namespace Go.Proofs.YtdofpealmngmiaaGreatDoor
open Go.RowKit

/-- the text of a rule, "" if it is not valid -/
def fmtR (r : Rl) : List UInt8 := if okRu r then textR r else []

set_option maxHeartbeats 1000000 in
theorem specFormat_any (r : Rl) (v : Value) (w : World) (hv : Rd w 2 v r.counts.length (pr r.counts)) :
    Calls Tryz.prog 11 #[ruV r v] w fun e w' => e = .returned (.string ⟨(fmtR r).toArray⟩) ∧ Below w.heap.size w w' := by
  have HV := Lib.hid hv
  obtain ⟨ao, cap, rfl, _, _, _⟩ := hv.pairs
  clear hv
  have B0 := RuAt.box w r (.slice ao r.counts.length cap) 30
  cases hok : okRu r
  · have fin : Hid (fmtR r = []) := by show fmtR r = []; unfold fmtR; rw [hok]; rfl
    unfold ruV
    go_enter Tryz.func11, Tryz.ntmps11
    go_wp2_with (go_at_call 26; refine (specRule_in r _ _ (HV.out.below ((Below.refl _ w).alloc (Nat.le_refl _) _) (Nat.le_refl _))).mono ?_; rintro e w1 ⟨rfl, b1⟩)
    go_ret
    exact ⟨by rw [fin.out]; rfl, ((Below.refl _ w).alloc (Nat.le_refl _) _).trans (b1.mono (by rw [World.size_alloc]; exact Nat.le_succ _))⟩
  · have fin : Hid (fmtR r = textR r) := by show fmtR r = _; unfold fmtR; rw [hok]; rfl
    unfold ruV
    go_enter Tryz.func11, Tryz.ntmps11
    go_wp2_with (first | (go_at_call 26; refine (specRule_in r _ _ (HV.out.below ((Below.refl _ w).alloc (Nat.le_refl _) _) (Nat.le_refl _))).mono ?_; rintro e w1 ⟨rfl, b1⟩; have B1 := B0.below b1 (Nat.le_refl _); have c0 := B1.c0; have c1 := B1.c1; have c2 := B1.c2; have c3 := B1.c3; have c4 := B1.c4; have c5 := B1.c5; have c6 := B1.c6; have c7 := B1.c7; have c8 := B1.c8; have c9 := B1.c9; have c10 := B1.c10; have hv1 := Lib.hid (HV.out.below (((Below.refl _ w).alloc (Nat.le_refl _) _).trans (b1.mono (by rw [World.size_alloc]; exact Nat.le_succ _))) (Nat.le_refl _))) | (go_at_call 27; refine (formatRule_any r _ _ hv1.out hok).mono ?_; rintro e w2 ⟨rfl, b2⟩))
    go_ret
    exact ⟨by rw [fin.out]; rfl, ((Below.refl _ w).alloc (Nat.le_refl _) _).trans ((b1.trans (b2.mono b1.size)).mono (by rw [World.size_alloc]; exact Nat.le_succ _))⟩

/-! ### What the package's variables hold -/
theorem gTab : Tryz.prog.globalNamed "internal/strconv.uint64pow10" = some 3 := by kernel_rfl
/-- at the start: the table of the library, the names of the kinds, the span of all numbers -/
def Env0 (W : World) : Prop := Lib.TabIs Tryz.prog W "internal/strconv.uint64pow10" .u64 Lib.pow10Tab ∧ 7 < W.heap.size ∧
  (∃ bm, W.cell? ⟨1, 0, none⟩ = some (.map (some bm)) ∧ ∀ W', Below W.heap.size W W' → ∀ k : Int, k = 1 ∨ k = 2 ∨ k = 3 → (Instr.lookup 49 (.map (some bm)) (.int .i64 k) false).run Tryz.prog W' = .ok (.string ⟨(kindW k).toArray⟩) W') ∧
  W.cell? ⟨0, 0, none⟩ = some (.int .i64 0) ∧ W.cell? ⟨0, 1, none⟩ = some (.int .i64 1000000)
/-- .. and whatever new blocks there are since -/
def Env (W : World) : Prop := ∃ W0, Env0 W0 ∧ Below W0.heap.size W0 W
theorem Env.below {W W' : World} (h : Env W) (hb : Below W.heap.size W W') : Env W' := by
  obtain ⟨W0, h0, b0⟩ := h
  exact ⟨W0, h0, b0.trans (hb.mono b0.size)⟩
theorem Env.tab {W : World} (h : Env W) : Lib.TabIs Tryz.prog W "internal/strconv.uint64pow10" .u64 Lib.pow10Tab := by
  obtain ⟨W0, h0, b0⟩ := h
  exact Joins.tab_stays gTab h0.1 b0 (Nat.le_refl _)
theorem Env.size {W : World} (h : Env W) : 7 < W.heap.size := by
  obtain ⟨W0, h0, b0⟩ := h
  exact Nat.lt_of_lt_of_le h0.2.1 b0.size
theorem Env.all {W : World} (h : Env W) : W.cell? ⟨0, 0, none⟩ = some (.int .i64 0) ∧ W.cell? ⟨0, 1, none⟩ = some (.int .i64 1000000) := by
  obtain ⟨W0, h0, b0⟩ := h
  have := h0.2.1
  exact ⟨(b0.cell (p := ⟨0, 0, none⟩) (by show 0 < _; omega)).trans h0.2.2.2.1, (b0.cell (p := ⟨0, 1, none⟩) (by show 0 < _; omega)).trans h0.2.2.2.2⟩
theorem Env.kinds {W : World} (h : Env W) : ∃ bm, W.cell? ⟨1, 0, none⟩ = some (.map (some bm)) ∧ ∀ W', Below W.heap.size W W' → ∀ k : Int, k = 1 ∨ k = 2 ∨ k = 3 → (Instr.lookup 49 (.map (some bm)) (.int .i64 k) false).run Tryz.prog W' = .ok (.string ⟨(kindW k).toArray⟩) W' := by
  obtain ⟨W0, h0, b0⟩ := h
  have := h0.2.1
  obtain ⟨bm, hc, hl⟩ := h0.2.2.1
  exact ⟨bm, (b0.cell (p := ⟨1, 0, none⟩) (by show 1 < _; omega)).trans hc, fun W' hb => hl W' (b0.trans (hb.mono b0.size))⟩

theorem below_grow (w : World) (k : Nat) (os : Array Obj) : Below w.heap.size w (Sort.grow (w.drewN k) os) :=
  ⟨rfl, rfl, rfl, by show w.heap.size ≤ (w.heap ++ os).size; rw [Array.size_append]; exact Nat.le_add_right _ _, fun j hj => by show (w.heap ++ os)[j]? = _; rw [Array.getElem?_append_left hj]⟩

theorem itoa_run (n : Int) (w : World) (hE : Env w) (h0 : 0 ≤ n) (h1 : n ≤ 1000000) :
    Calls Tryz.prog 29 #[.int .i64 n] w fun e w' => e = .returned (.string ⟨(dec n).toArray⟩) ∧ Below w.heap.size w w' := by
  refine (Tryz.strconv_Itoa n (by omega) (by omega) w hE.tab).mono ?_
  rintro e w' ⟨rfl, k, os, rfl⟩
  obtain ⟨m, rfl⟩ := Int.eq_ofNat_of_zero_le h0
  rw [Lib.itoa_nonneg]
  exact ⟨rfl, below_grow w k os⟩

set_option maxHeartbeats 1000000 in
theorem implSpanText_any (a b : Int) (w : World) (hE : Env w) (ha0 : 0 ≤ a) (ha1 : a ≤ 1000000) (hb0 : 0 ≤ b) (hb1 : b ≤ 1000000) :
    Calls Tryz.prog 30 #[.agg #[.int .i64 a, .int .i64 b]] w fun e w' => e = .returned (.string ⟨(spW a b).toArray⟩) ∧ Below w.heap.size w w' := by
  have la := dec_short ha0 (by omega)
  have lb := dec_short hb0 (by omega)
  have A1 := add_to (x := dec a) (y := [45]) rfl (by simp; omega)
  have A2 := add_to (x := dec a ++ [45]) (y := dec b) (z := spW a b) (by simp [spW]) (by simp [spW]; omega)
  have hE1 := hE.below ((Below.refl _ w).alloc (Nat.le_refl _) (.cells #[.int .i64 a, .int .i64 b] 25))
  have H : ∀ x : Later (w.alloc (.cells #[.int .i64 a, .int .i64 b] 25)), ∀ y : Int, 0 ≤ y → y ≤ 1000000 → Calls Tryz.prog 29 #[.int .i64 y] x.wld fun e w' => e = .returned (.string ⟨(dec y).toArray⟩) ∧ ∃ z : Later (w.alloc (.cells #[.int .i64 a, .int .i64 b] 25)), w' = z.wld :=
    fun x y h0 h1 => Calls.later_of (itoa_run y _ (hE1.below x.below) h0 h1)
  have Ha := Lib.hid (fun x => H x a ha0 ha1)
  have Hb := Lib.hid (fun x => H x b hb0 hb1)
  clear H la lb ha0 ha1 hb0 hb1 hE hE1
  go_enter Tryz.func30, Tryz.ntmps30
  go_wp2
  refine wp_region_later (by kernel_rfl) (by kernel_rfl) ?_
  repeat (go_big_quiet_step ((go_at_call 29; first | (with_reducible exact Ha.out _) | (with_reducible exact Hb.out _))))
  refine wpQuiet_nil ?_
  rintro _ ⟨x, rfl⟩
  go_wp2
  go_ret
  exact ⟨rfl, ((Below.refl _ w).alloc (Nat.le_refl _) _).trans (x.below.mono (by rw [World.size_alloc]; exact Nat.le_succ _))⟩

end Go.Proofs.YtdofpealmngmiaaGreatDoor
