/- Joined texts: Walks: the reader of the generators. Walks: a whole struct moved from one box into another. Walks: the copies, sizes and comparisons of the exact laws on a guard and a rule. What the generators of rules keep: rows of the call's own while the reader turns. Walks: the span that two spans have in common, both ways. Conditions: none. -/
import Derived.Test.YtijofgaekmahkaaGreatDoorM07
import Derived.Test.YtijofgaekmahkaaGreatDoorRows
import Derived.Laws.Rows
import Derived.Laws.Tables
import Derived.Below
import Derived.StillTailTactics
import Derived.Lib.SmallJoins
import Derived.RegionTactic
import Derived.Deep.Cut
namespace Go.Proofs.YtijofgaekmahkaaGreatDoor
open Go.RowKit
theorem iG_mem {l : List Int} {k : Nat} (h : k < l.length) : iG l k ∈ l := by
 unfold iG; rw [List.getD_eq_getElem?_getD, List.getElem?_eq_getElem h]; exact List.getElem_mem h
def PickPost (n : Int) (w : World) (R u : Nat) (e : Ending) (w' : World) : Prop :=
 ∃ m : Int, e = .returned (.int .i64 m) ∧ 0 ≤ m ∧ (1 ≤ n → m < n) ∧ RdrStep w R (u + 1) w'
theorem Rdr.stored {w : World} {R u : Nat} {bs : List Int} {ao : Option Addr} {cap p : Nat} (h : w.heap[R]? = some (.cells #[.slice ao bs.length cap, .int .i64 p] 58 (0, 0))) (hp : p ≤ u) (hl : bs.length ≤ 2000)
   (hx : ∀ x ∈ bs, 0 ≤ x ∧ x ≤ 255) (hb : 0 < bs.length → ∃ b off, ao = some ⟨b, off, none⟩ ∧ b < R ∧ ∀ k, k < bs.length → w.cell? ⟨b, off + k, none⟩ = some (.int .u8 (iG bs k))) :
   RdrStep w R (u + 1) (w.setCell ⟨R, 1, none⟩ (.int .i64 ((p : Int) + 1))) := by
 have h2 := heap_setCell_same w R 1 _ _ (.int .i64 ((p : Int) + 1)) h
 refine ⟨⟨bs, ao, cap, p + 1, ?_, by omega, hl, hx, fun hn => ?_⟩, ⟨rfl, rfl, rfl, by simp [World.setCell], fun k _ hk => heap_setCell_other w ⟨R, 1, none⟩ k _ (fun e => hk (by simp [e]))⟩⟩
 · rw [h2]; simp
 · obtain ⟨b, off, e, hlt, hc⟩ := hb hn
   refine ⟨b, off, e, hlt, fun k hk => ?_⟩
   rw [← hc k hk]
   exact World.cell?_of_block (heap_setCell_other w ⟨R, 1, none⟩ b _ (by simp; omega))
set_option maxHeartbeats 1000000 in
theorem pick_any (R u : Nat) (n : Int) (w : World) (h : Rdr w R u) (hu : u ≤ 1099511627776) :
   Calls Tryz.prog 17 #[.pointer (some ⟨R, 0, none⟩), .int .i64 n] w (PickPost n w R u) := by
 obtain ⟨bs, ao, cap, p, hh, hp, hlen, hx, hb⟩ := h
 have fin := Lib.hid (Rdr.stored hh hp hlen hx hb)
 have c0 : w.cell? ⟨R, 0, none⟩ = some (.slice ao bs.length cap) := by rw [cell_of_row w R 0 _ _ _ hh]; rfl
 have c1 : w.cell? ⟨R, 1, none⟩ = some (.int .i64 p) := by rw [cell_of_row w R 1 _ _ _ hh]; rfl
 have f1 : w.frozen? ⟨R, 1, none⟩ = false := frozen_of_row w R 1 _ _ hh
 have HB := Lib.hid hb
 have HX := Lib.hid hx
 clear hb hx hh
 have hpu : p ≤ 1099511627776 := by omega
 by_cases hn : n < 1
 · go_enter Tryz.func17, Tryz.ntmps17
   go_wp2
   go_ret
   exact ⟨0, rfl, by omega, fun h => by omega, fin.out⟩
 · by_cases he : bs.length = 0
   · have he2 : ((bs.length : Int) == 0) = true := by simp [he]
     have HE := Lib.hid he
     clear he
     go_enter Tryz.func17, Tryz.ntmps17
     go_wp2
     go_ret
     exact ⟨0, rfl, by omega, fun h => by omega, fin.out⟩
   · have he2 : ((bs.length : Int) == 0) = false := by rw [beq_eq_false_iff_ne]; omega
     have he3 : 0 < bs.length := by omega
     clear he
     obtain ⟨b, off, rfl, hbR, hc⟩ := HB.out he3
     have HC := Lib.hid hc
     clear hc
     by_cases hk : p < bs.length
     · have g0 := HC.out p hk
       have hx0 : 0 ≤ iG bs p ∧ iG bs p ≤ 255 := HX.out _ (iG_mem hk)
       obtain ⟨hx1, hx2⟩ := hx0
       go_enter Tryz.func17, Tryz.ntmps17
       go_wp2
       go_ret
       exact ⟨_, rfl, Int.emod_nonneg _ (by omega), fun h => Int.emod_lt_of_pos _ (by omega), fin.out⟩
     · have he4 : ¬ bs = [] := by rintro rfl; simp at he3
       have q1 : p % bs.length < bs.length := Nat.mod_lt _ he3
       have q2 : (p * 7 + 3) % bs.length < bs.length := Nat.mod_lt _ he3
       have g1 := HC.out _ q1
       have g2 := HC.out _ q2
       have x1 : 0 ≤ iG bs (p % bs.length) ∧ iG bs (p % bs.length) ≤ 255 := HX.out _ (iG_mem q1)
       have x2 : 0 ≤ iG bs ((p * 7 + 3) % bs.length) ∧ iG bs ((p * 7 + 3) % bs.length) ≤ 255 := HX.out _ (iG_mem q2)
       generalize iG bs (p % bs.length) = a at g1 x1
       generalize iG bs ((p * 7 + 3) % bs.length) = c at g2 x2
       obtain ⟨x11, x12⟩ := x1
       obtain ⟨x21, x22⟩ := x2
       have e1 : (p : Int).tmod (bs.length : Int) = ((p % bs.length : Nat) : Int) := by rw [Int.tmod_eq_emod_of_nonneg (Int.natCast_nonneg _)]; exact (Int.natCast_emod _ _).symm
       have e5 : ((p : Int) * 7 + 3).tmod (bs.length : Int) = (((p * 7 + 3) % bs.length : Nat) : Int) := by rw [Int.tmod_eq_emod_of_nonneg (by omega)]; exact (Int.natCast_emod (p * 7 + 3) bs.length).symm
       have e0 : (p : Int).tdiv (bs.length : Int) = ((p / bs.length : Nat) : Int) := by rw [Int.tdiv_eq_ediv_of_nonneg (Int.natCast_nonneg _)]; exact (Int.natCast_ediv _ _).symm
       have d0 : p / bs.length ≤ p := Nat.div_le_self _ _
       generalize p / bs.length = dv at e0 d0
       have E0 := Lib.hid e0
       have E1 := Lib.hid e1
       have E5 := Lib.hid e5
       clear e0 e1 e5
       have y0 : 0 ≤ a * 131 + c * 1117 + (p : Int) * 29 + (dv : Int) * 53 ∧ a * 131 + c * 1117 + (p : Int) * 29 + (dv : Int) * 53 ≤ 9223372036854775807 := by omega
       have e2 : IntKind.i64.wrap (a * 131) = a * 131 := IntWalk.i64_in _ (by omega)
       have e3 : IntKind.i64.wrap ((p : Int) * 7) = (p : Int) * 7 := IntWalk.i64_in _ (by omega)
       have e4 : IntKind.i64.wrap ((p : Int) * 7 + 3) = (p : Int) * 7 + 3 := IntWalk.i64_in _ (by omega)
       have e6 : IntKind.i64.wrap (c * 1117) = c * 1117 := IntWalk.i64_in _ (by omega)
       have e7 : IntKind.i64.wrap (a * 131 + c * 1117) = a * 131 + c * 1117 := IntWalk.i64_in _ (by omega)
       have e8 : IntKind.i64.wrap ((p : Int) * 29) = (p : Int) * 29 := IntWalk.i64_in _ (by omega)
       have e9 : IntKind.i64.wrap (a * 131 + c * 1117 + (p : Int) * 29) = a * 131 + c * 1117 + (p : Int) * 29 := IntWalk.i64_in _ (by omega)
       have e10 : IntKind.i64.wrap (dv : Int) = (dv : Int) := IntWalk.i64_in _ (by omega)
       have e11 : IntKind.i64.wrap ((dv : Int) * 53) = (dv : Int) * 53 := IntWalk.i64_in _ (by omega)
       have e12 : IntKind.i64.wrap (a * 131 + c * 1117 + (p : Int) * 29 + (dv : Int) * 53) = a * 131 + c * 1117 + (p : Int) * 29 + (dv : Int) * 53 := IntWalk.i64_in _ ⟨by omega, y0.2⟩
       have n1 : 0 ≤ (p : Int) % (bs.length : Int) := Int.emod_nonneg _ (by omega)
       have n2 : (p : Int) % (bs.length : Int) < (bs.length : Int) := Int.emod_lt_of_pos _ (by omega)
       have n3 : 0 ≤ ((p : Int) * 7 + 3) % (bs.length : Int) := Int.emod_nonneg _ (by omega)
       have n4 : ((p : Int) * 7 + 3) % (bs.length : Int) < (bs.length : Int) := Int.emod_lt_of_pos _ (by omega)
       have e0 := E0.out
       have e1 := E1.out
       have e5 := E5.out
       go_enter Tryz.func17, Tryz.ntmps17
       go_wp2
       go_quiet (fail)
       clear e0 e1 e5 e2 e3 e4 e6 e7 e8 e9 e10 e11 e12
       have xb := xor_nonneg (a * 131 + c * 1117 + (p : Int) * 29 + (dv : Int) * 53) ((a * 131 + c * 1117 + (p : Int) * 29 + (dv : Int) * 53) / 64) (by omega) (by omega) (by omega) (by omega)
       go_wp2
       go_ret
       exact ⟨_, rfl, Int.emod_nonneg _ (by omega), fun _ => Int.emod_lt_of_pos _ (by omega), fin.out.drewN _⟩
def OnePost (l : List Int) (w : World) (R u : Nat) (e : Ending) (w' : World) : Prop :=
 ∃ x : Int, x ∈ l ∧ e = .returned (.int .i64 x) ∧ RdrStep w R (u + 1) w'
theorem lit_cell (w : World) (l : List Int) (t k : Nat) (hk : k < l.length) : (w.alloc (.cells (it l).toArray t)).cell? ⟨w.heap.size, k, none⟩ = some (.int .i64 (iG l k)) := by
 rw [cell_of_row _ w.heap.size k _ _ _ (heap_alloc_new w _)]
 rw [List.getElem?_toArray]
 exact it_get l k hk
set_option maxHeartbeats 1000000 in
theorem one_gen (R u g : Nat) (l : List Int) (W : World) (h : Rdr W R u) (hu : u ≤ 1099511627776) (hg : g ≠ R) (hsz : g < W.heap.size) (hl : 0 < l.length) (hl2 : l.length ≤ 1000000)
   (hc : ∀ k, k < l.length → W.cell? ⟨g, k, none⟩ = some (.int .i64 (iG l k))) :
   Calls Tryz.prog 16 #[.pointer (some ⟨R, 0, none⟩), .slice (some ⟨g, 0, none⟩) l.length l.length] W (OnePost l W R u) := by
 have HC := Lib.hid hc
 clear hc
 have hl3 : 1 ≤ (l.length : Int) := by omega
 go_enter Tryz.func16, Tryz.ntmps16
 go_wp2_with fail
 refine (pick_any R _ _ _ h hu).mono ?_
 rintro e w2 ⟨m, rfl, h0, h1, hs2⟩
 have hlt := h1 hl3
 obtain ⟨k, rfl⟩ := Int.eq_ofNat_of_zero_le h0
 have hk : k < l.length := by omega
 have g0 : w2.cell? ⟨g, k, none⟩ = some (.int .i64 (iG l k)) := (World.cell?_of_block (a := ⟨g, k, none⟩) (hs2.2.block g hsz (by simp; omega))).trans (HC.out k hk)
 clear h1 h0 hlt
 go_wp2
 go_ret
 exact ⟨_, iG_mem hk, rfl, hs2⟩
theorem one_lit (R u : Nat) (l : List Int) (w : World) (t : Nat) (h : Rdr w R u) (hu : u ≤ 1099511627776) (hl : 0 < l.length) (hl2 : l.length ≤ 1000000) :
   Calls Tryz.prog 16 #[.pointer (some ⟨R, 0, none⟩), .slice (some ⟨w.heap.size, 0, none⟩) l.length l.length] (w.alloc (.cells (it l).toArray t)) (OnePost l w R u) := by
 have hs : RdrStep w R u (w.alloc (.cells (it l).toArray t)) := (RdrStep.refl h).alloc _
 have hR := h.lt
 exact (one_gen R u w.heap.size l _ hs.1 hu (by omega) (by simp) hl hl2 (fun k hk => lit_cell w l t k hk)).mono fun e w' ⟨x, h1, h2, h3⟩ => ⟨x, h1, h2, hs.trans h3⟩
set_option maxHeartbeats 1000000 in
theorem newReader_any (z : List Int) (v : Value) (w : World) (hv : Rd w 1 v z.length (z.map (Value.int .u8))) (hz : ∀ x ∈ z, 0 ≤ x ∧ x ≤ 255) :
   Calls Tryz.prog 15 #[v] w fun e w' => e = .returned (.pointer (some ⟨w.heap.size, 0, none⟩)) ∧ Rdr w' w.heap.size 0 ∧ Below w.heap.size w w' := by
 obtain ⟨_, ao, cap, rfl, hl, hc, hr⟩ := hv
 have HR := Lib.hid hr
 clear hr
 unfold maxLen at hc
 by_cases h2 : z.length ≤ 2000
 · go_enter Tryz.func15, Tryz.ntmps15
   go_wp2
   go_ret
   refine ⟨rfl, ⟨z, ao, cap, 0, heap_alloc_new _ _, Nat.le_refl _, h2, hz, fun hn => ?_⟩, (Below.refl _ _).alloc (Nat.le_refl _) _⟩
   obtain ⟨b, off, e, hlt, hcc⟩ := HR.out hn
   refine ⟨b, off, e, hlt, fun k hk => ?_⟩
   rw [World.cell?_of_block (w := w) (Below.heap_alloc w _ b hlt)]
   exact hcc k _ (by simp [iG, hk])
 · have h3 : 2000 < z.length := by omega
   obtain ⟨b, off, rfl, hlt, hcc⟩ := HR.out (by omega)
   go_enter Tryz.func15, Tryz.ntmps15
   go_wp2
   go_ret
   have ht : (z.take 2000).length = 2000 := by rw [List.length_take]; omega
   refine ⟨rfl, ⟨z.take 2000, some ⟨b, off, none⟩, cap, 0, by rw [ht]; exact heap_alloc_new _ _, Nat.le_refl _, by omega, fun x hx => hz x (List.mem_of_mem_take hx), fun hn => ?_⟩, (Below.refl _ _).alloc (Nat.le_refl _) _⟩
   refine ⟨b, off, rfl, hlt, fun k hk => ?_⟩
   rw [World.cell?_of_block (w := w) (Below.heap_alloc w _ b hlt)]
   exact hcc k _ (by rw [ht] at hk; simp [iG, hk, show k < z.length by omega])
end Go.Proofs.YtijofgaekmahkaaGreatDoor

namespace Go.Proofs.YtijofgaekmahkaaGreatDoor
open Go.RowKit
theorem grown_setRow (w : World) (g : Nat) (cs : Array Value) : w.grownBy (w.setRow g cs) (some g) :=
 ⟨rfl, rfl, rfl, by simp, fun k _ hk => setRow_other w g k cs (fun e => hk (by rw [e]))⟩
theorem setRow_below {B : Nat} {a w : World} (h : Below B a w) {g : Nat} (hg : B ≤ g) (hB : B ≤ w.heap.size) (cs : Array Value) : Below B a (w.setRow g cs) :=
 h.grown (grown_setRow w g cs) hB (fun k e => by simp only [Option.some.injEq] at e; omega)
def RowTy (P : Program) (ty n : Nat) : Prop := (P.underlying ty).any (fun d => match d with | .struct _ | .array _ _ => true | _ => false) = true ∧ (P.info? ty).map (·.size) = some n
theorem row43 : RowTy Tryz.prog 43 11 := ⟨by kernel_rfl, by kernel_rfl⟩
theorem row41 : RowTy Tryz.prog 41 4 := ⟨by kernel_rfl, by kernel_rfl⟩
theorem row38 : RowTy Tryz.prog 38 2 := ⟨by kernel_rfl, by kernel_rfl⟩
theorem RowTy.parts {P : Program} {ty n : Nat} (h : RowTy P ty n) : ∃ dd, P.underlying ty = some dd ∧ (match dd with | .struct _ | .array _ _ => true | _ => false) = true := by
 have h1 := h.1
 cases hu : P.underlying ty with
 | none => rw [hu] at h1; exact absurd h1 (by simp)
 | some d => rw [hu] at h1; exact ⟨d, rfl, by simpa using h1⟩
theorem wp_copy {P : Program} {id t pd ps ty : Nat} {Q : Exit → Act → World → Prop} {a : Act} {w : World} {o1 o2 : Oper}
   (h1 : o1.op = .load ty (.tmp ps)) (g1 : o1.guard = none) (d1 : o1.dst = some t) (h2 : o2.op = .store ty (.tmp pd) (.tmp t)) (g2 : o2.guard = none)
   (s d : Nat) (cs old : Array Value) (tys : TypeId) (td : TypeId) (n : Nat) (hr : RowTy P ty n) (hn : cs.size = n) (ho : old.size = n)
   (hs : a.eval (.tmp ps) = .pointer (some ⟨s, 0, none⟩)) (hsh : w.heap[s]? = some (.cells cs tys (0, 0)))
   (hdd : (a.put (some t) (.agg cs)).eval (.tmp pd) = .pointer (some ⟨d, 0, none⟩)) (hdh : w.heap[d]? = some (.cells old td (0, 0)))
   (hv : (a.put (some t) (.agg cs)).eval (.tmp t) = .agg cs) (h1c : cs.all (·.oneCell') = true)
   (h : Q .normal ((a.put (some t) (.agg cs)).put o2.dst undef) (w.setRow d cs)) :
   (Code.region id #[o1, o2] false).wp P Q a w := by
 obtain ⟨dd, hu, hd⟩ := hr.parts
 have hi := hr.2
 refine wp_region_lit ?_
 refine wpList_load_row g1 ty (.tmp ps) h1 s hs tys cs (0, 0) dd hsh hu (by cases dd <;> first | rfl | exact hd) (hi.trans (by rw [hn])) ?_
 rw [d1]
 refine wpList_store_row g2 ty (.tmp pd) (.tmp t) h2 d cs hdd hv td old hdh (hi.trans (by rw [hn])) (ho.trans hn.symm) h1c ?_
 exact h
theorem results_row {P : Program} {fn : Func} {p : Tmp} {ty n : Nat} (h : fn.results = #[.cell p ty]) (hr : RowTy P ty n) (tmps : Array Value) (w : World) (g : Nat) (t : TypeId) (cs : Array Value) (hn : cs.size = n)
   (hp : tmps.getD p undef = .pointer (some ⟨g, 0, none⟩)) (hg : w.heap[g]? = some (.cells cs t (0, 0))) : (results fn tmps).run P w = .ok (.agg cs) w := by
 obtain ⟨dd, hu, hd⟩ := hr.parts
 exact results_cell_row h tmps w g t cs (0, 0) dd hp hg hu (by cases dd <;> first | rfl | exact hd) (hr.2.trans (by rw [hn]))
theorem results_row_tmp {P : Program} {fn : Func} {p q : Tmp} {ty n : Nat} (h : fn.results = #[.cell p ty, .tmp q]) (hr : RowTy P ty n) (tmps : Array Value) (w : World) (g : Nat) (t : TypeId) (cs : Array Value) (hn : cs.size = n)
   (hp : tmps.getD p undef = .pointer (some ⟨g, 0, none⟩)) (hg : w.heap[g]? = some (.cells cs t (0, 0))) : (results fn tmps).run P w = .ok (.tuple #[.agg cs, tmps.getD q undef]) w := by
 obtain ⟨dd, hu, hd⟩ := hr.parts
 have hp' : tmps[p]?.getD undef = .pointer (some ⟨g, 0, none⟩) := by simpa using hp
 have hl := run_loadVar_row (P := P) w g t ty cs (0, 0) dd hg hu (by cases dd <;> first | rfl | exact hd) (hr.2.trans (by rw [hn]))
 simp [results, h, hp', asAddr, hl]
end Go.Proofs.YtijofgaekmahkaaGreatDoor

namespace Go.Proofs.YtijofgaekmahkaaGreatDoor
open Go.RowKit
theorem three_blocks (w : World) (a b c : Obj) : ((((w.alloc a).alloc b).alloc c).heap[w.heap.size]? = some a) ∧ ((((w.alloc a).alloc b).alloc c).heap[w.heap.size + 1]? = some b) ∧ ((((w.alloc a).alloc b).alloc c).heap[w.heap.size + 2]? = some c) ∧
   (((w.alloc a).alloc b).alloc c).heap.size = w.heap.size + 3 ∧ Below w.heap.size w (((w.alloc a).alloc b).alloc c) := by
 refine ⟨?_, ?_, ?_, by simp, (((Below.refl _ _).alloc (Nat.le_refl _) _).alloc (by simp) _).alloc (by simp; omega) _⟩
 · rw [Below.heap_alloc _ _ _ (by simp; omega), Below.heap_alloc _ _ _ (by simp)]; exact heap_alloc_new w _
 · rw [Below.heap_alloc _ _ _ (by simp)]; have h := heap_alloc_new (w.alloc a) b; rw [World.size_alloc] at h; exact h
 · have h := heap_alloc_new ((w.alloc a).alloc b) c; rw [World.size_alloc, World.size_alloc] at h; exact h
theorem row4 {w : World} {g : Nat} {a b c d : Value} {t : TypeId} (h : w.heap[g]? = some (.cells #[a, b, c, d] t)) :
   (w.cell? ⟨g, 0, none⟩ = some a ∧ w.cell? ⟨g, 1, none⟩ = some b ∧ w.cell? ⟨g, 2, none⟩ = some c ∧ w.cell? ⟨g, 3, none⟩ = some d) ∧ w.frozen? ⟨g, 0, none⟩ = false ∧ w.frozen? ⟨g, 1, none⟩ = false ∧ w.frozen? ⟨g, 2, none⟩ = false ∧ w.frozen? ⟨g, 3, none⟩ = false :=
 ⟨⟨cell_of_row w _ 0 _ _ _ h, cell_of_row w _ 1 _ _ _ h, cell_of_row w _ 2 _ _ _ h, cell_of_row w _ 3 _ _ _ h⟩, frozen_of_row w _ 0 _ _ h, frozen_of_row w _ 1 _ _ h, frozen_of_row w _ 2 _ _ h, frozen_of_row w _ 3 _ _ h⟩
theorem row11 {w : World} {g : Nat} {x0 x1 x2 x3 x4 x5 x6 x7 x8 x9 x10 : Value} {t : TypeId} (h : w.heap[g]? = some (.cells #[x0, x1, x2, x3, x4, x5, x6, x7, x8, x9, x10] t)) :
   (w.cell? ⟨g, 0, none⟩ = some x0 ∧ w.cell? ⟨g, 1, none⟩ = some x1 ∧ w.cell? ⟨g, 2, none⟩ = some x2 ∧ w.cell? ⟨g, 3, none⟩ = some x3 ∧ w.cell? ⟨g, 4, none⟩ = some x4 ∧ w.cell? ⟨g, 5, none⟩ = some x5 ∧ w.cell? ⟨g, 6, none⟩ = some x6 ∧ w.cell? ⟨g, 7, none⟩ = some x7 ∧ w.cell? ⟨g, 8, none⟩ = some x8 ∧ w.cell? ⟨g, 9, none⟩ = some x9 ∧ w.cell? ⟨g, 10, none⟩ = some x10) ∧ w.frozen? ⟨g, 0, none⟩ = false ∧ w.frozen? ⟨g, 1, none⟩ = false ∧ w.frozen? ⟨g, 2, none⟩ = false ∧ w.frozen? ⟨g, 3, none⟩ = false ∧ w.frozen? ⟨g, 4, none⟩ = false ∧ w.frozen? ⟨g, 5, none⟩ = false ∧ w.frozen? ⟨g, 6, none⟩ = false ∧ w.frozen? ⟨g, 7, none⟩ = false ∧ w.frozen? ⟨g, 8, none⟩ = false ∧ w.frozen? ⟨g, 9, none⟩ = false ∧ w.frozen? ⟨g, 10, none⟩ = false :=
 ⟨⟨cell_of_row w _ 0 _ _ _ h, cell_of_row w _ 1 _ _ _ h, cell_of_row w _ 2 _ _ _ h, cell_of_row w _ 3 _ _ _ h, cell_of_row w _ 4 _ _ _ h, cell_of_row w _ 5 _ _ _ h, cell_of_row w _ 6 _ _ _ h, cell_of_row w _ 7 _ _ _ h, cell_of_row w _ 8 _ _ _ h, cell_of_row w _ 9 _ _ _ h, cell_of_row w _ 10 _ _ _ h⟩, frozen_of_row w _ 0 _ _ h, frozen_of_row w _ 1 _ _ h, frozen_of_row w _ 2 _ _ h, frozen_of_row w _ 3 _ _ h, frozen_of_row w _ 4 _ _ h, frozen_of_row w _ 5 _ _ h, frozen_of_row w _ 6 _ _ h, frozen_of_row w _ 7 _ _ h, frozen_of_row w _ 8 _ _ h, frozen_of_row w _ 9 _ _ h, frozen_of_row w _ 10 _ _ h⟩
end Go.Proofs.YtijofgaekmahkaaGreatDoor

namespace Go.Proofs.YtijofgaekmahkaaGreatDoor
open Go.RowKit
theorem RdrStep.row {w w' : World} {R u g : Nat} {o : Obj} (st : RdrStep w R u w') (h : w.heap[g]? = some o) (hne : g ≠ R) : w'.heap[g]? = some o :=
 (st.2.block g (Array.getElem?_eq_some_iff.1 h).1 (by simpa using hne)).trans h
theorem RdrStep.set {a b : World} {R u : Nat} (s : RdrStep a R u b) (hR : R < a.heap.size) {g i : Nat} (hg : a.heap.size ≤ g) (v : Value) : RdrStep a R u (b.setCell ⟨g, i, none⟩ v) :=
 s.own hR (row := some g) ⟨rfl, rfl, rfl, by simp [World.setCell], fun k _ hk => heap_setCell_other b ⟨g, i, none⟩ k _ (fun e => hk (by simp [e]))⟩ (fun k hk => by simp only [Option.some.injEq] at hk; omega)
theorem RdrStep.setRow {a b : World} {R u : Nat} (s : RdrStep a R u b) (hR : R < a.heap.size) {g : Nat} (hg : a.heap.size ≤ g) (cs : Array Value) : RdrStep a R u (b.setRow g cs) :=
 s.own hR (row := some g) (grown_setRow b g cs) (fun k hk => by simp only [Option.some.injEq] at hk; omega)
theorem heap_set {w : World} {g k i : Nat} {v : Value} {o : Obj} (h : w.heap[g]? = some o) (hne : g ≠ k) : (w.setCell ⟨k, i, none⟩ v).heap[g]? = some o := (Below.heap_setCell _ _ _ _ hne).trans h
theorem heap_keep {w : World} {g : Nat} {o x : Obj} (h : w.heap[g]? = some o) : (w.alloc x).heap[g]? = some o := (Below.heap_alloc _ _ _ (Array.getElem?_eq_some_iff.1 h).1).trans h
theorem one_at (R u g t : Nat) (l : List Int) (W : World) (h : Rdr W R u) (hu : u ≤ 1099511627776) (hg : g ≠ R) (hl : 0 < l.length) (hl2 : l.length ≤ 1000000) (hb : W.heap[g]? = some (.cells (it l).toArray t (0, 0))) :
   Calls Tryz.prog 16 #[.pointer (some ⟨R, 0, none⟩), .slice (some ⟨g, 0, none⟩) l.length l.length] W (OnePost l W R u) :=
 one_gen R u g l W h hu hg (Array.getElem?_eq_some_iff.1 hb).1 hl hl2 (fun k hk => by rw [cell_of_row _ g k _ _ _ hb, List.getElem?_toArray]; exact it_get l k hk)
theorem row2 {w : World} {g : Nat} {x0 x1 : Value} {t : TypeId} (h : w.heap[g]? = some (.cells #[x0, x1] t)) :
   (w.cell? ⟨g, 0, none⟩ = some x0 ∧ w.cell? ⟨g, 1, none⟩ = some x1) ∧ w.frozen? ⟨g, 0, none⟩ = false ∧ w.frozen? ⟨g, 1, none⟩ = false :=
 ⟨⟨cell_of_row w _ 0 _ _ _ h, cell_of_row w _ 1 _ _ _ h⟩, frozen_of_row w _ 0 _ _ h, frozen_of_row w _ 1 _ _ h⟩
theorem six_at {w : World} {g k : Nat} {a0 b0 a1 b1 a2 b2 : Int} {t : TypeId} (h : w.heap[g]? = some (.cells #[.int .i64 a0, .int .i64 b0, .int .i64 a1, .int .i64 b1, .int .i64 a2, .int .i64 b2] t)) (hk : k < 3) :
   ∃ x y : Value, w.cell? ⟨g, k * 2, none⟩ = some x ∧ w.cell? ⟨g, k * 2 + 1, none⟩ = some y ∧ w.frozen? ⟨g, k * 2, none⟩ = false ∧ w.frozen? ⟨g, k * 2 + 1, none⟩ = false := by
 match k, hk with
 | 0, _ => exact ⟨_, _, cell_of_row w _ 0 _ _ _ h, cell_of_row w _ 1 _ _ _ h, frozen_of_row w _ 0 _ _ h, frozen_of_row w _ 1 _ _ h⟩
 | 1, _ => exact ⟨_, _, cell_of_row w _ 2 _ _ _ h, cell_of_row w _ 3 _ _ _ h, frozen_of_row w _ 2 _ _ h, frozen_of_row w _ 3 _ _ h⟩
 | 2, _ => exact ⟨_, _, cell_of_row w _ 4 _ _ _ h, cell_of_row w _ 5 _ _ _ h, frozen_of_row w _ 4 _ _ h, frozen_of_row w _ 5 _ _ h⟩
theorem six_set {w : World} {g k : Nat} {a0 b0 a1 b1 a2 b2 : Int} {t : TypeId} (h : w.heap[g]? = some (.cells #[.int .i64 a0, .int .i64 b0, .int .i64 a1, .int .i64 b1, .int .i64 a2, .int .i64 b2] t)) (hk : k < 3) (p q : Int) :
   ∃ a0 b0 a1 b1 a2 b2 : Int, ((w.setCell ⟨g, k * 2, none⟩ (.int .i64 p)).setCell ⟨g, k * 2 + 1, none⟩ (.int .i64 q)).heap[g]? = some (.cells #[.int .i64 a0, .int .i64 b0, .int .i64 a1, .int .i64 b1, .int .i64 a2, .int .i64 b2] t) := by
 match k, hk with
 | 0, _ => exact ⟨p, q, a1, b1, a2, b2, Joins.block_setCell (i := 1) (Joins.block_setCell (i := 0) h _) _⟩
 | 1, _ => exact ⟨a0, b0, p, q, a2, b2, Joins.block_setCell (i := 3) (Joins.block_setCell (i := 2) h _) _⟩
 | 2, _ => exact ⟨a0, b0, a1, b1, p, q, Joins.block_setCell (i := 5) (Joins.block_setCell (i := 4) h _) _⟩
theorem row6 {w : World} {g : Nat} {x0 x1 x2 x3 x4 x5 : Value} {t : TypeId} (h : w.heap[g]? = some (.cells #[x0, x1, x2, x3, x4, x5] t)) :
   (w.cell? ⟨g, 0, none⟩ = some x0 ∧ w.cell? ⟨g, 1, none⟩ = some x1 ∧ w.cell? ⟨g, 2, none⟩ = some x2 ∧ w.cell? ⟨g, 3, none⟩ = some x3 ∧ w.cell? ⟨g, 4, none⟩ = some x4 ∧ w.cell? ⟨g, 5, none⟩ = some x5) ∧ w.frozen? ⟨g, 0, none⟩ = false ∧ w.frozen? ⟨g, 1, none⟩ = false ∧ w.frozen? ⟨g, 2, none⟩ = false ∧ w.frozen? ⟨g, 3, none⟩ = false ∧ w.frozen? ⟨g, 4, none⟩ = false ∧ w.frozen? ⟨g, 5, none⟩ = false :=
 ⟨⟨cell_of_row w _ 0 _ _ _ h, cell_of_row w _ 1 _ _ _ h, cell_of_row w _ 2 _ _ _ h, cell_of_row w _ 3 _ _ _ h, cell_of_row w _ 4 _ _ _ h, cell_of_row w _ 5 _ _ _ h⟩, frozen_of_row w _ 0 _ _ h, frozen_of_row w _ 1 _ _ h, frozen_of_row w _ 2 _ _ h, frozen_of_row w _ 3 _ _ h, frozen_of_row w _ 4 _ _ h, frozen_of_row w _ 5 _ _ h⟩
end Go.Proofs.YtijofgaekmahkaaGreatDoor

namespace Go.Proofs.YtijofgaekmahkaaGreatDoor
open Go.RowKit
theorem row110 : RowTy Tryz.prog 110 3 := ⟨by kernel_rfl, by kernel_rfl⟩
theorem four_blocks (w : World) (a b c d : Obj) : (((((w.alloc a).alloc b).alloc c).alloc d).heap[w.heap.size]? = some a) ∧ (((((w.alloc a).alloc b).alloc c).alloc d).heap[w.heap.size + 1]? = some b) ∧ (((((w.alloc a).alloc b).alloc c).alloc d).heap[w.heap.size + 2]? = some c) ∧ (((((w.alloc a).alloc b).alloc c).alloc d).heap[w.heap.size + 3]? = some d) ∧
   ((((w.alloc a).alloc b).alloc c).alloc d).heap.size = w.heap.size + 4 ∧ Below w.heap.size w ((((w.alloc a).alloc b).alloc c).alloc d) := by
 obtain ⟨e0, e1, e2, z3, b3⟩ := three_blocks w a b c
 have n := heap_alloc_new (((w.alloc a).alloc b).alloc c) d
 rw [z3] at n
 exact ⟨heap_keep e0, heap_keep e1, heap_keep e2, n, by rw [World.size_alloc, z3], b3.alloc b3.size _⟩
def mvL (a b c d : Int) : Int := if meeQ a b c d then max a c else 0
def mvH (a b c d : Int) : Int := if meeQ a b c d then min b d else 0
set_option maxHeartbeats 4000000 in
theorem meetSpans_any (a b c d : Int) (w : World) (h1 : okSp a b = true) (h2 : okSp c d = true) :
   Calls Tryz.prog 150 #[.agg #[.int .i64 a, .int .i64 b], .agg #[.int .i64 c, .int .i64 d]] w fun e w' => e = .returned (.tuple #[.agg #[.int .i64 (mvL a b c d), .int .i64 (mvH a b c d)], .bool (meeQ a b c d)]) ∧ Below w.heap.size w w' := by
 obtain ⟨e0, e1, e2, e3, z4, b4⟩ := four_blocks w (.cells #[.int .i64 a, .int .i64 b] 38) (.cells #[.int .i64 c, .int .i64 d] 38) (.cells #[.int .i64 0, .int .i64 0] 38) (.cells #[.int .i64 (max a c), .int .i64 (min b d)] 38)
 obtain ⟨W, hW⟩ : ∃ W, W = (((w.alloc (.cells #[.int .i64 a, .int .i64 b] 38)).alloc (.cells #[.int .i64 c, .int .i64 d] 38)).alloc (.cells #[.int .i64 0, .int .i64 0] 38)).alloc (.cells #[.int .i64 (max a c), .int .i64 (min b d)] 38) := ⟨_, rfl⟩
 rw [← hW] at e0 e1 e2 e3 z4 b4
 have HW := Lib.hid hW
 have E1 := Lib.hid e1
 have E2 := Lib.hid e2
 have E3 := Lib.hid e3
 have HB := Lib.hid b4
 obtain ⟨⟨c0, c1⟩, _⟩ := row2 e0
 clear e0 e1 e2 e3 b4 hW
 go_enter Tryz.func150, Tryz.ntmps150
 go_upto_region 2 with fail
 rw [← HW.out]
 clear HW
 have fin : meeQ a b c d = decide (max a c ≤ min b d) := rfl
 by_cases hm : min b d < max a c
 · have hf : meeQ a b c d = false := by rw [fin]; simp; omega
   have FIN := Lib.hid hf
   clear fin hf
   go_wp2_with fail
   refine (implSpan_any _ _ _).mono ?_
   rintro e w1 ⟨rfl, x1⟩
   rw [h1]
   have k1 := (x1.block (w.heap.size + 1) (by omega)).trans E1.out
   have k2 := (x1.block (w.heap.size + 2) (by omega)).trans E2.out
   have k3 := (x1.block (w.heap.size + 3) (by omega)).trans E3.out
   have z1 := x1.size
   have B1 := HB.out.trans (x1.mono HB.out.size)
   clear c0 c1
   obtain ⟨⟨c0, c1⟩, _⟩ := row2 k1
   go_wp2_with fail
   refine (implSpan_any _ _ _).mono ?_
   rintro e w2 ⟨rfl, x2⟩
   rw [h2]
   have j2 : w2.heap[w.heap.size + 1 + 1]? = _ := (x2.block (w.heap.size + 2) (by omega)).trans k2
   have j3 : w2.heap[w.heap.size + 1 + 1 + 1]? = _ := (x2.block (w.heap.size + 3) (by omega)).trans k3
   have B2 := Lib.hid (B1.trans (x2.mono B1.size))
   have J2 := Lib.hid j2
   have z2 := x2.size
   clear c0 c1 k1 k2 k3 B1 x1 x2
   obtain ⟨⟨c0, c1⟩, _⟩ := row2 j3
   obtain ⟨⟨d0, d1⟩, q0, q1⟩ := row2 j2
   have zB : w.heap.size ≤ w.heap.size + 1 + 1 := by omega
   clear j2 j3
   go_wp2
   refine bodyPost_ret (results_row_tmp (p := 4) (q := 5) (ty := 38) rfl row38 _ _ (w.heap.size + 1 + 1) 38 #[.int .i64 0, .int .i64 0] rfl rfl (Joins.block_setCell (i := 1) (Joins.block_setCell (i := 0) J2.out _) _)) rfl ?_
   exact ⟨by unfold mvL mvH; rw [FIN.out] <;> rfl, (B2.out.setCell zB _).setCell zB _⟩
 · have hf : meeQ a b c d = true := by rw [fin]; simp; omega
   have hmb : decide (min b d < max a c) = false := by simpa using hm
   have FIN := Lib.hid hf
   clear fin hf hm
   go_wp2_with fail
   refine (implSpan_any _ _ _).mono ?_
   rintro e w1 ⟨rfl, x1⟩
   rw [h1]
   have k1 := (x1.block (w.heap.size + 1) (by omega)).trans E1.out
   have k2 := (x1.block (w.heap.size + 2) (by omega)).trans E2.out
   have k3 := (x1.block (w.heap.size + 3) (by omega)).trans E3.out
   have z1 := x1.size
   have B1 := HB.out.trans (x1.mono HB.out.size)
   clear c0 c1
   obtain ⟨⟨c0, c1⟩, _⟩ := row2 k1
   go_wp2_with fail
   refine (implSpan_any _ _ _).mono ?_
   rintro e w2 ⟨rfl, x2⟩
   rw [h2]
   have j2 : w2.heap[w.heap.size + 1 + 1]? = _ := (x2.block (w.heap.size + 2) (by omega)).trans k2
   have j3 : w2.heap[w.heap.size + 1 + 1 + 1]? = _ := (x2.block (w.heap.size + 3) (by omega)).trans k3
   have B2 := Lib.hid (B1.trans (x2.mono B1.size))
   have J2 := Lib.hid j2
   have z2 := x2.size
   clear c0 c1 k1 k2 k3 B1 x1 x2
   obtain ⟨⟨c0, c1⟩, _⟩ := row2 j3
   obtain ⟨⟨d0, d1⟩, q0, q1⟩ := row2 j2
   have zB : w.heap.size ≤ w.heap.size + 1 + 1 := by omega
   clear j2 j3
   go_wp2
   refine bodyPost_ret (results_row_tmp (p := 4) (q := 5) (ty := 38) rfl row38 _ _ (w.heap.size + 1 + 1) 38 #[.int .i64 (max a c), .int .i64 (min b d)] rfl rfl (Joins.block_setCell (i := 1) (Joins.block_setCell (i := 0) J2.out _) _)) rfl ?_
   exact ⟨by unfold mvL mvH; rw [FIN.out] <;> rfl, (B2.out.setCell zB _).setCell zB _⟩
set_option maxHeartbeats 4000000 in
theorem specMeet_any (a b c d : Int) (w : World) :
   Calls Tryz.prog 210 #[.agg #[.int .i64 a, .int .i64 b], .agg #[.int .i64 c, .int .i64 d]] w fun e w' => e = .returned (.tuple #[.agg #[.int .i64 (max a c), .int .i64 (min b d)], .bool (meeQ a b c d)]) ∧ Below w.heap.size w w' := by
 obtain ⟨e0, e1, e2, e3, z4, b4⟩ := four_blocks w (.cells #[.int .i64 a, .int .i64 b] 38) (.cells #[.int .i64 c, .int .i64 d] 38) (.cells #[.int .i64 0, .int .i64 0] 38) (.cells #[.int .i64 (max a c), .int .i64 (min b d)] 38)
 obtain ⟨W, hW⟩ : ∃ W, W = (((w.alloc (.cells #[.int .i64 a, .int .i64 b] 38)).alloc (.cells #[.int .i64 c, .int .i64 d] 38)).alloc (.cells #[.int .i64 0, .int .i64 0] 38)).alloc (.cells #[.int .i64 (max a c), .int .i64 (min b d)] 38) := ⟨_, rfl⟩
 rw [← hW] at e0 e1 e2 e3 z4 b4
 have HW := Lib.hid hW
 have J2 : Hid (W.heap[w.heap.size + 1 + 1]? = some (.cells #[.int .i64 0, .int .i64 0] 38 (0, 0))) := e2
 have j3 : W.heap[w.heap.size + 1 + 1 + 1]? = some (.cells #[.int .i64 (max a c), .int .i64 (min b d)] 38 (0, 0)) := e3
 have HB := Lib.hid b4
 obtain ⟨⟨c0, c1⟩, _⟩ := row2 j3
 obtain ⟨⟨d0, d1⟩, q0, q1⟩ := row2 J2.out
 have n1 : ¬ w.heap.size + 1 + 1 + 1 = w.heap.size + 1 + 1 := by omega
 have zB : w.heap.size ≤ w.heap.size + 1 + 1 := by omega
 have fin : Hid (decide (max a c ≤ min b d) = meeQ a b c d) := rfl
 clear e0 e1 e2 e3 b4 hW j3
 go_enter Tryz.func210, Tryz.ntmps210
 go_upto_region 2 with fail
 rw [← HW.out]
 clear HW
 go_region
 all_goals go_wp2
 all_goals (refine bodyPost_ret (results_row_tmp (p := 4) (q := 5) (ty := 38) rfl row38 _ _ (w.heap.size + 1 + 1) 38 #[.int .i64 (max a c), .int .i64 (min b d)] rfl rfl (Joins.block_setCell (i := 1) (Joins.block_setCell (i := 0) J2.out _) _)) rfl ?_)
 all_goals exact ⟨by rw [← fin.out] <;> rfl, ((HB.out.setCell zB _).setCell zB _).drew⟩
end Go.Proofs.YtijofgaekmahkaaGreatDoor
