/- Walks: how often a bundle is in a cart, both texts. Conditions: none. -/
import Derived.Test.YtomapdedajdkkabCZ
import Derived.Test.YtomapdedajdkkabCV
import Derived.Deep.RegionHeld3
namespace Go.Proofs.Ytomapdedajdkkab
open Go.RowKit

def fTimes (s : List Art) (c b : List (Int × Int)) (p : Int) : Int := if vCart s c && bOk s b p then tmN (hvL s.length c) b b.length else -1
theorem fTimes_c {s : List Art} {c b : List (Int × Int)} {p : Int} (h : vCart s c = false) : fTimes s c b p = -1 := by simp [fTimes, h]
theorem fTimes_b {s : List Art} {c b : List (Int × Int)} {p : Int} (h : bOk s b p = false) : fTimes s c b p = -1 := by simp [fTimes, h]
theorem fTimes_y {s : List Art} {c b : List (Int × Int)} {p : Int} (h : vCart s c = true) (h2 : bOk s b p = true) : fTimes s c b p = tmN (hvL s.length c) b b.length := by simp [fTimes, h, h2]

set_option maxHeartbeats 4000000 in
set_option maxRecDepth 100000 in
theorem implTimesIn_any (s : List Art) (u : Value) (c : List (Int × Int)) (v : Value) (b : List (Int × Int)) (x : Value) (p : Int) (w : World) (hs : Rd w 4 u s.length (ar s)) (hv : Rd w 2 v c.length (pr c)) (hx : Rd w 2 x b.length (pr b)) :
    Calls Try.prog 24 #[u, v, .agg #[x, .int .i64 p]] w fun e w' => e = .returned (.int .i64 (fTimes s c b p)) ∧ Below w.heap.size w w' := by
  have HV := Lib.hid hv
  have HS := Lib.hid hs
  have HX := Lib.hid hx
  have hm := hs.len
  have hm2 := hv.len
  have hm3 := hx.len
  unfold maxLen at hm hm2 hm3
  obtain ⟨so, scap, rfl, _⟩ := hs.arts
  obtain ⟨co, ccap, rfl, _⟩ := hv.pairs
  obtain ⟨bo, bcap, rfl, _⟩ := hx.pairs
  have b0 : Below w.heap.size w (w.alloc (.cells #[.slice bo b.length bcap, .int .i64 p] 33)) := (Below.refl _ _).alloc (Nat.le_refl _) _
  have q0 : (w.alloc (.cells #[.slice bo b.length bcap, .int .i64 p] 33)).cell? ⟨w.heap.size, 0, none⟩ = some (.slice bo b.length bcap) := cell_of_row _ _ _ _ _ _ (heap_alloc_new w _)
  have q1 : (w.alloc (.cells #[.slice bo b.length bcap, .int .i64 p] 33)).cell? ⟨w.heap.size, 1, none⟩ = some (.int .i64 p) := cell_of_row _ _ _ _ _ _ (heap_alloc_new w _)
  have VB := Lib.hid (hv.below b0 (Nat.le_refl _))
  have SB := Lib.hid (hs.below b0 (Nat.le_refl _))
  have XB := Lib.hid (hx.below b0 (Nat.le_refl _))
  have zb : w.heap.size < (w.alloc (.cells #[.slice bo b.length bcap, .int .i64 p] 33)).heap.size := by simp
  clear hv hs hx
  cases hp : vCart s c
  · have fin : Hid (fTimes s c b p = -1) := fTimes_c hp
    go_enter Try.func24, Try.ntmps24
    go_wp2_with (go_at_call 57; (with_reducible refine (implCart_any s _ c _ _ SB.out VB.out).mono ?_); rintro e w1 ⟨rfl, hb1⟩; have b1 := hb1; have c1 := (b1.cell (p := ⟨w.heap.size, 0, none⟩) zb).trans q0; have d1 := (b1.cell (p := ⟨w.heap.size, 1, none⟩) zb).trans q1)
    go_ret
    exact ⟨by rw [fin.out] <;> rfl, b0.trans (b1.mono b0.size)⟩
  · cases hq : bOk s b p
    · have fin : Hid (fTimes s c b p = -1) := fTimes_b hq
      go_enter Try.func24, Try.ntmps24
      go_wp2_with (first | (go_at_call 57; (with_reducible refine (implCart_any s _ c _ _ SB.out VB.out).mono ?_); rintro e w1 ⟨rfl, hb1⟩; have b1 := hb1; have c1 := (b1.cell (p := ⟨w.heap.size, 0, none⟩) zb).trans q0; have d1 := (b1.cell (p := ⟨w.heap.size, 1, none⟩) zb).trans q1) | (go_at_call 52; (with_reducible refine (implBundle_any s _ b _ p _ (SB.out.below b1 (Nat.le_refl _)) (XB.out.below b1 (Nat.le_refl _))).mono ?_); rintro e w2 ⟨rfl, hb2⟩; have b2 := b1.trans (hb2.mono b1.size); have c2 := (b2.cell (p := ⟨w.heap.size, 0, none⟩) zb).trans q0; have d2 := (b2.cell (p := ⟨w.heap.size, 1, none⟩) zb).trans q1))
      go_ret
      exact ⟨by rw [fin.out] <;> rfl, b0.trans (b2.mono b0.size)⟩
    · have fin := Lib.hid (fTimes_y hp hq)
      have hsh9 := (vShop_all (vCart_pr hp).1).2
      have hpl := (vCart_pr hp).2
      have hbp := (vCart_pr (bOk_pr hq).1).2
      have hsl : s.length ≤ 1000000 := by omega
      have hcl : b.length ≤ 1000000 := by have := (vLines_all hbp).2; omega
      have hhl : (hvL s.length c).length ≤ 1000000 := by rw [hvL_len]; exact hsl
      have hh : ∀ j, j < (hvL s.length c).length → 0 ≤ iG (hvL s.length c) j ∧ iG (hvL s.length c) j ≤ 1000000 := fun j hj => by
        rw [hvL_len] at hj
        rw [hvL_get c hj]
        have := eqN_bd hpl (j : Int) c.length (Nat.le_refl _)
        rw [List.take_length] at this
        have := (vLines_all hpl).2
        omega
      have hqq : ∀ k, k < b.length → 0 ≤ pA b k ∧ pA b k < (hvL s.length c).length ∧ 1 ≤ pB b k ∧ pB b k ≤ 20 := fun k hk => by
        rw [hvL_len]
        have := lnOk_pr ((vLines_all hbp).1 k hk)
        omega
      go_enter Try.func24, Try.ntmps24
      go_wp2_with (first | (go_at_call 57; (with_reducible refine (implCart_any s _ c _ _ SB.out VB.out).mono ?_); rintro e w1 ⟨rfl, hb1⟩; have b1 := hb1; have c1 := (b1.cell (p := ⟨w.heap.size, 0, none⟩) zb).trans q0; have d1 := (b1.cell (p := ⟨w.heap.size, 1, none⟩) zb).trans q1) | (go_at_call 52; (with_reducible refine (implBundle_any s _ b _ p _ (SB.out.below b1 (Nat.le_refl _)) (XB.out.below b1 (Nat.le_refl _))).mono ?_); rintro e w2 ⟨rfl, hb2⟩; have b2 := b1.trans (hb2.mono b1.size); have c2 := (b2.cell (p := ⟨w.heap.size, 0, none⟩) zb).trans q0; have d2 := (b2.cell (p := ⟨w.heap.size, 1, none⟩) zb).trans q1))
      have BD := b2.drew
      have zw : w.heap.size < w2.drew.heap.size := Nat.lt_of_lt_of_le zb b2.size
      go_region_held3 (fun w' => w'.cell? ⟨w.heap.size, 0, none⟩ = some (.slice bo b.length bcap) ∧ w'.cell? ⟨w.heap.size, 1, none⟩ = some (.int .i64 p))
        (first
          | exact ⟨(bb.cell (p := ⟨w.heap.size, 0, none⟩) zw).trans c2, (bb.cell (p := ⟨w.heap.size, 1, none⟩) zw).trans d2⟩
          | exact ⟨c2, d2⟩
          | (go_keep; done))
        ((first
          | (go_at_call 59; (with_reducible refine (implPieces_any s.length c _ _ (VB.out.below BD (Nat.le_refl _)) hpl hsl).mono ?_); rintro e wp ⟨o, rfl, ho, bb⟩)
          | (go_at_call 61; (with_reducible refine (implTimes_any (hvL s.length c) _ b _ _ (by rw [hvL_len]; exact Rd.of_owns ho) (XB.out.below (BD.trans (bb.mono BD.size)) (Nat.le_refl _)) hh hqq hhl hcl).mono ?_); rintro e wt ⟨rfl, hbt⟩; have bb := bb.trans (hbt.mono bb.size))))
      go_wp2
      go_ret
      exact ⟨by rw [fin.out] <;> rfl, b0.trans ((BD.trans (bb.mono BD.size)).mono b0.size)⟩

end Go.Proofs.Ytomapdedajdkkab
