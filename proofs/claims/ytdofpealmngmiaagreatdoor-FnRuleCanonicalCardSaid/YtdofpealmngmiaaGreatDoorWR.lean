/- Walks: the reader of the generators. Conditions: none. -/
import Derived.Test.YtdofpealmngmiaaGreatDoorRdr
namespace Go.Proofs.YtdofpealmngmiaaGreatDoor
open Go.RowKit

theorem ret_ii {x y : Int} {p : Int → Prop} {w : World} {q : World → Prop} (h : Ending.returned (.int .i64 x) = .returned (.int .i64 y)) (hp : p y) (hq : q w) : ∃ m, Ending.returned (.int .i64 x) = .returned (.int .i64 m) ∧ p m ∧ q w := ⟨y, h, hp, hq⟩

theorem iG_mem {l : List Int} {k : Nat} (h : k < l.length) : iG l k ∈ l := by
  unfold iG; rw [List.getD_eq_getElem?_getD, List.getElem?_eq_getElem h]; exact List.getElem_mem h

/-- What a pick leaves. -/
def PickPost (n : Int) (w : World) (R u : Nat) (e : Ending) (w' : World) : Prop :=
  ∃ m : Int, e = .returned (.int .i64 m) ∧ 0 ≤ m ∧ (1 ≤ n → m < n) ∧ RdrStep w R (u + 1) w'

theorem Rdr.stored {w : World} {R u : Nat} {bs : List Int} {ao : Option Addr} {cap p : Nat} (h : w.heap[R]? = some (.cells #[.slice ao bs.length cap, .int .i64 p] 63 (0, 0))) (hp : p ≤ u) (hl : bs.length ≤ 2000)
    (hx : ∀ x ∈ bs, 0 ≤ x ∧ x ≤ 255) (hb : 0 < bs.length → ∃ b off, ao = some ⟨b, off, none⟩ ∧ b < R ∧ ∀ k, k < bs.length → w.cell? ⟨b, off + k, none⟩ = some (.int .u8 (iG bs k))) :
    RdrStep w R (u + 1) (w.setCell ⟨R, 1, none⟩ (.int .i64 ((p : Int) + 1))) := by
  have h2 := heap_setCell_same w R 1 _ _ (.int .i64 ((p : Int) + 1)) h
  refine ⟨⟨bs, ao, cap, p + 1, ?_, by omega, hl, hx, fun hn => ?_⟩, ⟨rfl, rfl, rfl, by simp [World.setCell], fun k _ hk => heap_setCell_other w ⟨R, 1, none⟩ k _ (fun e => hk (by simp [e]))⟩⟩
  · rw [h2]; simp
  · obtain ⟨b, off, e, hlt, hc⟩ := hb hn
    refine ⟨b, off, e, hlt, fun k hk => ?_⟩
    rw [← hc k hk]
    exact World.cell?_of_block (heap_setCell_other w ⟨R, 1, none⟩ b _ (by simp; omega))

set_option maxHeartbeats 1000000 in
theorem pick_any (R u : Nat) (n : Int) (w : World) (h : Rdr w R u) (hu : u ≤ 1099511627776) :
    Calls Tryz.prog 13 #[.pointer (some ⟨R, 0, none⟩), .int .i64 n] w (PickPost n w R u) := by
  obtain ⟨bs, ao, cap, p, hh, hp, hlen, hx, hb⟩ := h
  have fin := Lib.hid (Rdr.stored hh hp hlen hx hb)
  have c0 : w.cell? ⟨R, 0, none⟩ = some (.slice ao bs.length cap) := by rw [cell_of_row w R 0 _ _ _ hh]; rfl
  have c1 : w.cell? ⟨R, 1, none⟩ = some (.int .i64 p) := by rw [cell_of_row w R 1 _ _ _ hh]; rfl
  have f1 : w.frozen? ⟨R, 1, none⟩ = false := frozen_of_row w R 1 _ _ hh
  have HB := Lib.hid hb
  have HX := Lib.hid hx
  clear hb hx hh
  have hpu : p ≤ 1099511627776 := by omega
  by_cases hn : n < 1
  · go_enter Tryz.func13, Tryz.ntmps13
    go_wp2
    go_ret
    exact ⟨0, rfl, by omega, fun h => by omega, fin.out⟩
  · by_cases he : bs.length = 0
    · have he2 : ((bs.length : Int) == 0) = true := by simp [he]
      have HE := Lib.hid he
      clear he
      go_enter Tryz.func13, Tryz.ntmps13
      go_wp2
      go_ret
      exact ⟨0, rfl, by omega, fun h => by omega, fin.out⟩
    · have he2 : ((bs.length : Int) == 0) = false := by rw [beq_eq_false_iff_ne]; omega
      have he3 : 0 < bs.length := by omega
      clear he
      obtain ⟨b, off, rfl, hbR, hc⟩ := HB.out he3
      have HC := Lib.hid hc
      clear hc
      by_cases hk : p < bs.length
      · have g0 := HC.out p hk
        have hx0 : 0 ≤ iG bs p ∧ iG bs p ≤ 255 := HX.out _ (iG_mem hk)
        obtain ⟨hx1, hx2⟩ := hx0
        go_enter Tryz.func13, Tryz.ntmps13
        go_wp2
        go_ret
        exact ⟨_, rfl, Int.emod_nonneg _ (by omega), fun h => Int.emod_lt_of_pos _ (by omega), fin.out⟩
      · have he4 : ¬ bs = [] := by rintro rfl; simp at he3
        have q1 : p % bs.length < bs.length := Nat.mod_lt _ he3
        have q2 : (p * 7 + 3) % bs.length < bs.length := Nat.mod_lt _ he3
        have g1 := HC.out _ q1
        have g2 := HC.out _ q2
        have x1 : 0 ≤ iG bs (p % bs.length) ∧ iG bs (p % bs.length) ≤ 255 := HX.out _ (iG_mem q1)
        have x2 : 0 ≤ iG bs ((p * 7 + 3) % bs.length) ∧ iG bs ((p * 7 + 3) % bs.length) ≤ 255 := HX.out _ (iG_mem q2)
        generalize iG bs (p % bs.length) = a at g1 x1
        generalize iG bs ((p * 7 + 3) % bs.length) = c at g2 x2
        obtain ⟨x11, x12⟩ := x1
        obtain ⟨x21, x22⟩ := x2
        have e1 : (p : Int).tmod (bs.length : Int) = ((p % bs.length : Nat) : Int) := by rw [Int.tmod_eq_emod_of_nonneg (Int.natCast_nonneg _)]; exact (Int.natCast_emod _ _).symm
        have e5 : ((p : Int) * 7 + 3).tmod (bs.length : Int) = (((p * 7 + 3) % bs.length : Nat) : Int) := by rw [Int.tmod_eq_emod_of_nonneg (by omega)]; exact (Int.natCast_emod (p * 7 + 3) bs.length).symm
        have e0 : (p : Int).tdiv (bs.length : Int) = ((p / bs.length : Nat) : Int) := by rw [Int.tdiv_eq_ediv_of_nonneg (Int.natCast_nonneg _)]; exact (Int.natCast_ediv _ _).symm
        have d0 : p / bs.length ≤ p := Nat.div_le_self _ _
        generalize p / bs.length = dv at e0 d0
        have E0 := Lib.hid e0
        have E1 := Lib.hid e1
        have E5 := Lib.hid e5
        clear e0 e1 e5
        have y0 : 0 ≤ a * 131 + c * 1117 + (p : Int) * 29 + (dv : Int) * 53 ∧ a * 131 + c * 1117 + (p : Int) * 29 + (dv : Int) * 53 ≤ 9223372036854775807 := by omega
        have e2 : IntKind.i64.wrap (a * 131) = a * 131 := IntWalk.i64_in _ (by omega)
        have e3 : IntKind.i64.wrap ((p : Int) * 7) = (p : Int) * 7 := IntWalk.i64_in _ (by omega)
        have e4 : IntKind.i64.wrap ((p : Int) * 7 + 3) = (p : Int) * 7 + 3 := IntWalk.i64_in _ (by omega)
        have e6 : IntKind.i64.wrap (c * 1117) = c * 1117 := IntWalk.i64_in _ (by omega)
        have e7 : IntKind.i64.wrap (a * 131 + c * 1117) = a * 131 + c * 1117 := IntWalk.i64_in _ (by omega)
        have e8 : IntKind.i64.wrap ((p : Int) * 29) = (p : Int) * 29 := IntWalk.i64_in _ (by omega)
        have e9 : IntKind.i64.wrap (a * 131 + c * 1117 + (p : Int) * 29) = a * 131 + c * 1117 + (p : Int) * 29 := IntWalk.i64_in _ (by omega)
        have e10 : IntKind.i64.wrap (dv : Int) = (dv : Int) := IntWalk.i64_in _ (by omega)
        have e11 : IntKind.i64.wrap ((dv : Int) * 53) = (dv : Int) * 53 := IntWalk.i64_in _ (by omega)
        have e12 : IntKind.i64.wrap (a * 131 + c * 1117 + (p : Int) * 29 + (dv : Int) * 53) = a * 131 + c * 1117 + (p : Int) * 29 + (dv : Int) * 53 := IntWalk.i64_in _ ⟨by omega, y0.2⟩
        have n1 : 0 ≤ (p : Int) % (bs.length : Int) := Int.emod_nonneg _ (by omega)
        have n2 : (p : Int) % (bs.length : Int) < (bs.length : Int) := Int.emod_lt_of_pos _ (by omega)
        have n3 : 0 ≤ ((p : Int) * 7 + 3) % (bs.length : Int) := Int.emod_nonneg _ (by omega)
        have n4 : ((p : Int) * 7 + 3) % (bs.length : Int) < (bs.length : Int) := Int.emod_lt_of_pos _ (by omega)
        have e0 := E0.out
        have e1 := E1.out
        have e5 := E5.out
        go_enter Tryz.func13, Tryz.ntmps13
        go_wp2
        go_quiet (fail)
        clear e0 e1 e5 e2 e3 e4 e6 e7 e8 e9 e10 e11 e12
        have xb := xor_nonneg (a * 131 + c * 1117 + (p : Int) * 29 + (dv : Int) * 53) ((a * 131 + c * 1117 + (p : Int) * 29 + (dv : Int) * 53) / 64) (by omega) (by omega) (by omega) (by omega)
        go_wp2
        go_ret
        exact ⟨_, rfl, Int.emod_nonneg _ (by omega), fun _ => Int.emod_lt_of_pos _ (by omega), fin.out.drewN _⟩

/-- What is handed back by a choice among some numbers. -/
def OnePost (l : List Int) (w : World) (R u : Nat) (e : Ending) (w' : World) : Prop :=
  ∃ x : Int, x ∈ l ∧ e = .returned (.int .i64 x) ∧ RdrStep w R (u + 1) w'

theorem lit_cell (w : World) (l : List Int) (t k : Nat) (hk : k < l.length) : (w.alloc (.cells (it l).toArray t)).cell? ⟨w.heap.size, k, none⟩ = some (.int .i64 (iG l k)) := by
  rw [cell_of_row _ w.heap.size k _ _ _ (heap_alloc_new w _)]
  rw [List.getElem?_toArray]
  exact it_get l k hk

theorem lit_step {w w4 : World} {R u : Nat} (l : List Int) (t : Nat) (h : RdrStep ((w.alloc (.cells (it l).toArray t)).drew) R u w4) (hR : R < w.heap.size) : ∀ k, k < l.length → w4.cell? ⟨w.heap.size, k, none⟩ = some (.int .i64 (iG l k)) := fun k hk =>
  (World.cell?_of_block (a := ⟨w.heap.size, k, none⟩) (h.2.block w.heap.size (by simp) (by simp; omega))).trans (lit_cell w l t k hk)

set_option maxHeartbeats 1000000 in
theorem one_gen (R u g : Nat) (l : List Int) (W : World) (h : Rdr W R u) (hu : u ≤ 1099511627776) (hg : g ≠ R) (hsz : g < W.heap.size) (hl : 0 < l.length) (hl2 : l.length ≤ 1000000)
    (hc : ∀ k, k < l.length → W.cell? ⟨g, k, none⟩ = some (.int .i64 (iG l k))) :
    Calls Tryz.prog 35 #[.pointer (some ⟨R, 0, none⟩), .slice (some ⟨g, 0, none⟩) l.length l.length] W (OnePost l W R u) := by
  have HC := Lib.hid hc
  clear hc
  have hl3 : 1 ≤ (l.length : Int) := by omega
  go_enter Tryz.func35, Tryz.ntmps35
  go_wp2_with fail
  refine (pick_any R _ _ _ h hu).mono ?_
  rintro e w2 ⟨m, rfl, h0, h1, hs2⟩
  have hlt := h1 hl3
  obtain ⟨k, rfl⟩ := Int.eq_ofNat_of_zero_le h0
  have hk : k < l.length := by omega
  have g0 : w2.cell? ⟨g, k, none⟩ = some (.int .i64 (iG l k)) := (World.cell?_of_block (a := ⟨g, k, none⟩) (hs2.2.block g hsz (by simp; omega))).trans (HC.out k hk)
  clear h1 h0 hlt
  go_wp2
  go_ret
  exact ⟨_, iG_mem hk, rfl, hs2⟩

theorem one_lit (R u : Nat) (l : List Int) (w : World) (t : Nat) (h : Rdr w R u) (hu : u ≤ 1099511627776) (hl : 0 < l.length) (hl2 : l.length ≤ 1000000) :
    Calls Tryz.prog 35 #[.pointer (some ⟨R, 0, none⟩), .slice (some ⟨w.heap.size, 0, none⟩) l.length l.length] (w.alloc (.cells (it l).toArray t)) (OnePost l w R u) := by
  have hs : RdrStep w R u (w.alloc (.cells (it l).toArray t)) := (RdrStep.refl h).alloc _
  have hR := h.lt
  exact (one_gen R u w.heap.size l _ hs.1 hu (by omega) (by simp) hl hl2 (fun k hk => lit_cell w l t k hk)).mono fun e w' ⟨x, h1, h2, h3⟩ => ⟨x, h1, h2, hs.trans h3⟩

set_option maxHeartbeats 1000000 in
theorem newReader_any (z : List Int) (v : Value) (w : World) (hv : Rd w 1 v z.length (z.map (Value.int .u8))) (hz : ∀ x ∈ z, 0 ≤ x ∧ x ≤ 255) :
    Calls Tryz.prog 10 #[v] w fun e w' => e = .returned (.pointer (some ⟨w.heap.size, 0, none⟩)) ∧ Rdr w' w.heap.size 0 ∧ Below w.heap.size w w' := by
  obtain ⟨_, ao, cap, rfl, hl, hc, hr⟩ := hv
  have HR := Lib.hid hr
  clear hr
  unfold maxLen at hc
  by_cases h2 : z.length ≤ 2000
  · go_enter Tryz.func10, Tryz.ntmps10
    go_wp2
    go_ret
    refine ⟨rfl, ⟨z, ao, cap, 0, heap_alloc_new _ _, Nat.le_refl _, h2, hz, fun hn => ?_⟩, (Below.refl _ _).alloc (Nat.le_refl _) _⟩
    obtain ⟨b, off, e, hlt, hcc⟩ := HR.out hn
    refine ⟨b, off, e, hlt, fun k hk => ?_⟩
    rw [World.cell?_of_block (w := w) (Below.heap_alloc w _ b hlt)]
    exact hcc k _ (by simp [iG, hk])
  · have h3 : 2000 < z.length := by omega
    obtain ⟨b, off, rfl, hlt, hcc⟩ := HR.out (by omega)
    go_enter Tryz.func10, Tryz.ntmps10
    go_wp2
    go_ret
    have ht : (z.take 2000).length = 2000 := by rw [List.length_take]; omega
    refine ⟨rfl, ⟨z.take 2000, some ⟨b, off, none⟩, cap, 0, by rw [ht]; exact heap_alloc_new _ _, Nat.le_refl _, by omega, fun x hx => hz x (List.mem_of_mem_take hx), fun hn => ?_⟩, (Below.refl _ _).alloc (Nat.le_refl _) _⟩
    refine ⟨b, off, rfl, hlt, fun k hk => ?_⟩
    rw [World.cell?_of_block (w := w) (Below.heap_alloc w _ b hlt)]
    exact hcc k _ (by rw [ht] at hk; simp [iG, hk, show k < z.length by omega])

end Go.Proofs.YtdofpealmngmiaaGreatDoor
