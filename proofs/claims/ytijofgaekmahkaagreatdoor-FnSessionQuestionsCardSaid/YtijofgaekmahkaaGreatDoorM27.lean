/- Joined texts: Walks: a text cut into words by the program. Plain laws: the counts of a rule's text, read one by one; what stays in memory. What the reference's reading of a rule keeps in memory, and what is known of the text step by step. Walks: a struct handed over into the result's box, a flag set beside it. Conditions: none. -/
import Derived.Test.YtijofgaekmahkaaGreatDoorM26
import Derived.Deep.Cut
import Derived.Lib.SplitLaws
import Derived.BigFrame
namespace Go.Proofs.YtijofgaekmahkaaGreatDoor
open Go.RowKit
theorem split_any (T : List UInt8) (W : World) (hE : EnvP W) (hl : T.length ≤ 1000000000) :
   Calls Tryz.prog 28 #[.string ⟨T.toArray⟩, .string ⟨#[32]⟩] W fun e w' => e = .returned (.slice (some ⟨W.heap.size, 0, none⟩) (wordsOf T).length (wordsOf T).length) ∧
     (∀ j x, (wordsOf T)[j]? = some x → w'.cell? ⟨W.heap.size, j, none⟩ = some (.string ⟨x.toArray⟩)) ∧ W.heap.size < w'.heap.size ∧ Below W.heap.size W w' := by
 obtain ⟨m, hm⟩ := hE.max
 refine (Tryz.strings_Split ⟨T.toArray⟩ ⟨#[32]⟩ m W (by simp [ByteArray.size]; omega) hm (by decide)).mono ?_
 rintro e w' ⟨rfl, rfl⟩
 have hd : (Lib.splitB ⟨#[32]⟩ 0 (Lib.countB ⟨T.toArray⟩ ⟨#[32]⟩) ⟨T.toArray⟩).map (·.data.toList) = wordsOf T := by
   rw [Lib.splitB_data]
   show Lib.splitK [32] 0 (Lib.count (T.toArray.toList) [32]) (T.toArray.toList) = Lib.splitK [32] 0 (Lib.count T [32]) T
   simp
 have hlen : Lib.countB ⟨T.toArray⟩ ⟨#[32]⟩ + 1 = (wordsOf T).length := by
   rw [← hd, List.length_map]
   exact (Lib.splitB_all ⟨#[32]⟩ (by decide) 0 _ ⟨T.toArray⟩ rfl).symm
 refine ⟨by rw [hlen], fun j x hj => ?_, by simp, (Below.refl _ _).alloc (Nat.le_refl _) _⟩
 rw [cell_of_row _ _ j _ _ _ (heap_alloc_new W _), List.getElem?_toArray, List.getElem?_map]
 rw [← hd, List.getElem?_map] at hj
 cases hy : (Lib.splitB ⟨#[32]⟩ 0 (Lib.countB ⟨T.toArray⟩ ⟨#[32]⟩) ⟨T.toArray⟩)[j]? with
 | none => rw [hy] at hj; cases hj
 | some y =>
   rw [hy] at hj
   simp only [Option.map_some, Option.some.injEq] at hj
   subst hj
   simp
theorem splitK_count (sep : List UInt8) : ∀ (k : Nat) (s : List UInt8), (Lib.splitK sep 0 k s).length ≤ k + 1
 | 0, _ => by simp [Lib.splitK]
 | k + 1, s => by
   unfold Lib.splitK
   split
   · simp
   · have := splitK_count sep k (s.drop ((Lib.index s sep).toNat + sep.length))
     simp only [List.length_cons]
     omega
theorem words_count (T : List UInt8) : (wordsOf T).length ≤ T.length + 1 := by
 have h1 := splitK_count [32] (Lib.count T [32]) T
 have h2 := Lib.countB_le ⟨#[32]⟩ (by decide) T.length ⟨T.toArray⟩ (by simp [ByteArray.size])
 have h3 : Lib.countB ⟨T.toArray⟩ ⟨#[32]⟩ = Lib.count T [32] := by
   show Lib.count (T.toArray.toList) [32] = _
   simp
 have h4 : (⟨T.toArray⟩ : ByteArray).size = T.length := by simp [ByteArray.size]
 unfold wordsOf Lib.split
 omega
def Parsed (T : List UInt8) (w : World) (e : Ending) (w' : World) : Prop :=
 ((∃ (r : Rl) (v : Value), okRu r = true ∧ textR r = T ∧ (∀ r0, okRu r0 = true → textR r0 = T → r0 = r) ∧ e = .returned (.tuple #[ruV r v, .bool true]) ∧ w'.ownsRow w.heap.size 38 2 v r.counts.length (pr r.counts)) ∨
   ((∀ r0, okRu r0 = true → textR r0 ≠ T) ∧ e = .returned (.tuple #[.agg #[.int .i64 0, .int .i64 0, .int .i64 0, .int .i64 0, .int .i64 0, .int .i64 0, .int .i64 0, .int .i64 0, .int .i64 0, .slice none 0 0, .int .i64 0], .bool false]))) ∧ Below w.heap.size w w'
def r00 : Rl := ⟨0, 0, 0, -1, 0, 0, 0, 0, 1000000, all3, 0⟩
theorem At.start {w w1 : World} {T : List UInt8} {bk : Nat} (h0 : w1.heap[w.heap.size]? = some (.cells #[.int .i64 0, .int .i64 0, .int .i64 0, .int .i64 0, .int .i64 0, .int .i64 0, .int .i64 0, .int .i64 0, .int .i64 0, .slice none 0 0, .int .i64 0] 43 (0, 0))) (hb : bk < w1.heap.size) (hc : ∀ j x, (wordsOf T)[j]? = some x → w1.cell? ⟨bk, j, none⟩ = some (.string ⟨x.toArray⟩))
   (hE : EnvB w.heap.size w1) (hB : Below w.heap.size w w1) (hl : T.length ≤ 1000000000) (hz : (wordsOf T).length ≤ maxLen) :
   At w w1.heap.size (w1.heap.size + 1) (w1.heap.size + 1 + 1) r00 (wordsOf T) false (((w1.alloc (.cells #[.slice (some ⟨bk, 0, none⟩) (wordsOf T).length (wordsOf T).length, .bool false] 104)).alloc (.cells #[.int .i64 0, .int .i64 1000000, .int .i64 0, .int .i64 1000000, .int .i64 0, .int .i64 1000000] 38)).alloc (.cells #[.int .i64 0, .int .i64 0, .int .i64 0, .int .i64 (-1), .int .i64 0, .int .i64 0, .int .i64 0, .int .i64 0, .int .i64 1000000, .slice (some ⟨w1.heap.size + 1, 0, none⟩) 3 3, .int .i64 0] 43)) := by
 obtain ⟨e0, e1, e2, z3, b3⟩ := three_blocks w1 (.cells #[.slice (some ⟨bk, 0, none⟩) (wordsOf T).length (wordsOf T).length, .bool false] 104) (.cells #[.int .i64 0, .int .i64 1000000, .int .i64 0, .int .i64 1000000, .int .i64 0, .int .i64 1000000] 38) (.cells #[.int .i64 0, .int .i64 0, .int .i64 0, .int .i64 (-1), .int .i64 0, .int .i64 0, .int .i64 0, .int .i64 0, .int .i64 1000000, .slice (some ⟨w1.heap.size + 1, 0, none⟩) 3 3, .int .i64 0] 43)
 have hlt := (Array.getElem?_eq_some_iff.1 h0).1
 exact ⟨⟨hlt, by omega, by omega⟩, (b3.block _ hlt).trans h0, e2, ⟨_, _, _, _, _, _, rfl, e1⟩, ⟨bk, 0, (wordsOf T).length, e0, hb, Nat.le_refl _, hz, fun j x hj => by rw [Nat.zero_add]; exact (b3.cell (p := ⟨bk, j, none⟩) hb).trans (hc j x hj)⟩,
   hE.below b3, hB.trans (b3.mono hB.size), fun x hx => Nat.le_trans (words_len T x hx) hl⟩
end Go.Proofs.YtijofgaekmahkaaGreatDoor

namespace Go.Proofs.YtijofgaekmahkaaGreatDoor
open Go.RowKit
def mix (c : List (Int × Int)) (k : Nat) : List (Int × Int) := [if 0 < k then (pA c 0, pB c 0) else (0, 1000000), if 1 < k then (pA c 1, pB c 1) else (0, 1000000), if 2 < k then (pA c 2, pB c 2) else (0, 1000000)]
theorem mix3 {c : List (Int × Int)} (h : c.length = 3) : mix c 3 = c := by
 match c, h with
 | [x, y, z], _ => rfl
theorem allSp_iff {a b : Int} (h : allSp a b = true) : a = 0 ∧ b = 1000000 := by simpa [allSp] using h
theorem mix_skip {c : List (Int × Int)} {k : Nat} (hk : k < 3) (h : allSp (pA c k) (pB c k) = true) : mix c k = mix c (k + 1) := by
 obtain ⟨h1, h2⟩ := allSp_iff h
 match k, hk with
 | 0, _ => simp [mix, h1, h2]
 | 1, _ => simp [mix, h1, h2]
 | 2, _ => simp [mix, h1, h2]
theorem mix_set {c : List (Int × Int)} {j : Nat} (hj : j < 3) : (mix c j).set j (pA c j, pB c j) = mix c (j + 1) := by
 match j, hj with
 | 0, _ => rfl
 | 1, _ => rfl
 | 2, _ => rfl
theorem cntD_step (c : List (Int × Int)) {k : Nat} (hk : k < 3) : cntD c k = cnt1 c k ++ cntD c (k + 1) := by
 match k, hk with
 | 0, _ => rfl
 | 1, _ => rfl
 | 2, _ => simp [cntD]
theorem cntD_three (c : List (Int × Int)) : cntD c 3 = [] := rfl
theorem cnt_none (c : List (Int × Int)) (t : List (List UInt8)) : ∀ (m k : Nat), k + m = 3 → isW (cntD c k ++ t) wCount = false → cntD c k = [] ∧ mix c k = mix c 3
 | 0, k, hk, _ => by
   have : k = 3 := by omega
   subst this
   exact ⟨rfl, rfl⟩
 | m + 1, k, hk, h => by
   have hk3 : k < 3 := by omega
   rw [cntD_step c hk3] at h ⊢
   cases hs : allSp (pA c k) (pB c k)
   · simp [cnt1, hs, isW] at h
   · have h0 : cnt1 c k = [] := by simp [cnt1, hs]
     rw [h0, List.nil_append] at h ⊢
     have := cnt_none c t m (k + 1) (by omega) h
     exact ⟨this.1, (mix_skip hk3 hs).trans this.2⟩
theorem cnt_some (c : List (Int × Int)) (t : List (List UInt8)) (ht : isW t wCount = false) : ∀ (m k : Nat), k + m = 3 → isW (cntD c k ++ t) wCount = true →
   ∃ j : Nat, j < 3 ∧ cntD c k ++ t = wCount :: dec (j : Int) :: spW (pA c j) (pB c j) :: (cntD c (j + 1) ++ t) ∧ mix c k = mix c j
 | 0, k, hk, h => by
   have : k = 3 := by omega
   subst this
   rw [cntD_three, List.nil_append, ht] at h
   cases h
 | m + 1, k, hk, h => by
   have hk3 : k < 3 := by omega
   cases hs : allSp (pA c k) (pB c k)
   · refine ⟨k, hk3, ?_, rfl⟩
     rw [cntD_step c hk3]
     simp [cnt1, hs]
   · have h0 : cnt1 c k = [] := by simp [cnt1, hs]
     rw [cntD_step c hk3, h0, List.nil_append] at h ⊢
     obtain ⟨j, h1, h2, h3⟩ := cnt_some c t ht m (k + 1) (by omega) h
     exact ⟨j, h1, h2, (mix_skip hk3 hs).trans h3⟩
def KC (T : List UInt8) (r : Rl) (ws : List (List UInt8)) (bad : Bool) : Prop := (T = [] → bad = true) ∧ Gh T (fun r0 => bad = false ∧ ∃ k, k ≤ 3 ∧ ws = cntD r0.counts k ++ cpnW r0 ∧ r = { r0 with counts := mix r0.counts k, coupon := 0 })
theorem At.alloc {w W : World} {S g b : Nat} {r : Rl} {ws : List (List UInt8)} {bad : Bool} (A : At w S g b r ws bad W) (o : Obj) : At w S g b r ws bad (W.alloc o) := by
 have hb : Below W.heap.size W (W.alloc o) := (Below.refl _ _).alloc (Nat.le_refl _) _
 obtain ⟨a0, b0, a1, b1, a2, b2, h1, h2⟩ := A.F
 exact ⟨A.ord, heap_keep A.K, heap_keep A.G, ⟨a0, b0, a1, b1, a2, b2, h1, heap_keep h2⟩, A.sc.below hb, A.env.below hb, A.bel.trans (hb.mono A.bel.size), A.sh⟩
theorem At.count {w W : World} {S g b : Nat} {r : Rl} {ws : List (List UInt8)} {bad : Bool} (A : At w S g b r ws bad W) (j : Nat) (hj : j < 3) (p q : Int) :
   At w S g b { r with counts := r.counts.set j (p, q) } ws bad ((W.setCell ⟨g, j * 2, none⟩ (.int .i64 p)).setCell ⟨g, j * 2 + 1, none⟩ (.int .i64 q)) := by
 obtain ⟨o1, o2, o3⟩ := A.ord
 obtain ⟨a0, b0, a1, b1, a2, b2, h1, h2⟩ := A.F
 have hgr := grownBy_trans (grown_set W g (j * 2) (.int .i64 p)) (grown_set _ g (j * 2 + 1) (.int .i64 q))
 refine ⟨A.ord, heap_set (heap_set A.K (by omega)) (by omega), heap_set (heap_set A.G (by omega)) (by omega), ?_, A.sc.grown hgr (fun k hk => by simp only [Option.some.injEq] at hk; omega),
   A.env.grown hgr (by omega), (A.bel.setCell (p := ⟨g, j * 2, none⟩) (by show _ ≤ g; omega) _).setCell (p := ⟨g, j * 2 + 1, none⟩) (by show _ ≤ g; omega) _, A.sh⟩
 show ∃ a0 b0 a1 b1 a2 b2 : Int, r.counts.set j (p, q) = _ ∧ _
 rw [h1]
 match j, hj with
 | 0, _ => exact ⟨p, q, a1, b1, a2, b2, rfl, Joins.block_setCell (i := 1) (Joins.block_setCell (i := 0) h2 _) _⟩
 | 1, _ => exact ⟨a0, b0, p, q, a2, b2, rfl, Joins.block_setCell (i := 3) (Joins.block_setCell (i := 2) h2 _) _⟩
 | 2, _ => exact ⟨a0, b0, a1, b1, p, q, rfl, Joins.block_setCell (i := 5) (Joins.block_setCell (i := 4) h2 _) _⟩
theorem num_b (r : Rl) (h : okRu r = true) : 0 ≤ r.num ∧ r.num ≤ 1000000 := by have := (okRu_num h).1; omega
theorem lvl_b (r : Rl) (h : okRu r = true) : 0 ≤ r.lvl ∧ r.lvl ≤ 1000000 := by have := (okRu_num h).2.1; omega
theorem rank_b (r : Rl) (h : okRu r = true) : 0 ≤ r.rank ∧ r.rank ≤ 1000000 := by have := (okRu_num h).2.2.1; omega
theorem val_b (r : Rl) (h : okRu r = true) : 0 ≤ r.value ∧ r.value ≤ 1000000 := by have := (okRu_num h).2.2.2.2.2.2.2.2.2.2; omega
def scLen (W : World) (S : Nat) : Nat := match W.cell? ⟨S, 0, none⟩ with
 | some (.slice _ n _) => n
 | _ => 0
theorem Sc.len {W : World} {S : Nat} {ws : List (List UInt8)} {bad : Bool} (h : Sc W S ws bad) : scLen W S = ws.length := by
 obtain ⟨bk, off, cap, h1, _⟩ := h
 unfold scLen
 rw [cell_of_row W S 0 _ _ _ h1]
 rfl
theorem isW_len {ws : List (List UInt8)} {z : List UInt8} (h : isW ws z = true) : ws.tail.tail.tail.length < ws.length := by
 cases ws with
 | nil => cases h
 | cons x t => simp only [List.tail_cons, List.length_tail, List.length_cons]; omega
end Go.Proofs.YtijofgaekmahkaaGreatDoor

namespace Go.Proofs.YtijofgaekmahkaaGreatDoor
open Go.RowKit
structure As (w : World) (S g b : Nat) (r : Rl) (ws : List (List UInt8)) (W : World) : Prop where
 ord : w.heap.size < S ∧ S < g ∧ g < b
 K : W.heap[w.heap.size]? = some (.cells #[.int .i64 0, .int .i64 0, .int .i64 0, .int .i64 0, .int .i64 0, .int .i64 0, .int .i64 0, .int .i64 0, .int .i64 0, .slice none 0 0, .int .i64 0] 43 (0, 0))
 G : W.heap[b]? = some (.cells #[.int .i64 r.num, .int .i64 r.lvl, .int .i64 r.rank, .int .i64 r.group, .int .i64 r.kind, .int .i64 r.value, .int .i64 r.cap, .int .i64 r.lo, .int .i64 r.hi, .slice (some ⟨g, 0, none⟩) 3 3, .int .i64 r.coupon] 43 (0, 0))
 F : ∃ a0 b0 a1 b1 a2 b2 : Int, r.counts = [(a0, b0), (a1, b1), (a2, b2)] ∧ W.heap[g]? = some (.cells #[.int .i64 a0, .int .i64 b0, .int .i64 a1, .int .i64 b1, .int .i64 a2, .int .i64 b2] 38 (0, 0))
 sw : Sw W S ws
 bel : Below w.heap.size w W
 sh : Sh ws
theorem As.step {w W W' : World} {S g b : Nat} {r : Rl} {ws ws' : List (List UInt8)}  (A : As w S g b r ws W) (st : SwStep W S ws' W') (sh : Sh ws') : As w S g b r ws' W' := by
 obtain ⟨o1, o2, o3⟩ := A.ord
 obtain ⟨a0, b0, a1, b1, a2, b2, h1, h2⟩ := A.F
 exact ⟨A.ord, st.row A.K (by omega), st.row A.G (by omega), ⟨a0, b0, a1, b1, a2, b2, h1, st.row h2 (by omega)⟩, st.sw, A.bel.grown st.grown A.bel.size (fun k hk => by simp only [Option.some.injEq] at hk; omega), sh⟩
theorem As.set {w W : World} {S g b : Nat} {r : Rl} {ws : List (List UInt8)} (A : As w S g b r ws W) (i : Nat) (v : Value) (r : Rl) (hc : ∃ r1 : Rl, As w S g b r1 ws W ∧ r.counts = r1.counts)
   (hG : (W.setCell ⟨b, i, none⟩ v).heap[b]? = some (.cells #[.int .i64 r.num, .int .i64 r.lvl, .int .i64 r.rank, .int .i64 r.group, .int .i64 r.kind, .int .i64 r.value, .int .i64 r.cap, .int .i64 r.lo, .int .i64 r.hi, .slice (some ⟨g, 0, none⟩) 3 3, .int .i64 r.coupon] 43 (0, 0))) : As w S g b r ws (W.setCell ⟨b, i, none⟩ v) := by
 obtain ⟨r1, B, hc⟩ := hc
 obtain ⟨o1, o2, o3⟩ := A.ord
 obtain ⟨a0, b0, a1, b1, a2, b2, h1, h2⟩ := B.F
 exact ⟨A.ord, heap_set A.K (by omega), hG, ⟨a0, b0, a1, b1, a2, b2, hc.trans h1, heap_set h2 (by omega)⟩, A.sw.grown (grown_set W b i v) (fun k hk => by simp only [Option.some.injEq] at hk; omega),
   A.bel.setCell (p := ⟨b, i, none⟩) (by show _ ≤ b; omega) v, A.sh⟩
theorem As.num {w W : World} {S g b : Nat} {r : Rl} {ws : List (List UInt8)} (A : As w S g b r ws W) (n : Int) : As w S g b { r with num := n } ws (W.setCell ⟨b, 0, none⟩ (.int .i64 n)) :=
 A.set 0 (.int .i64 n) _ ⟨r, A, rfl⟩ (Joins.block_setCell A.G _)
theorem As.lvl {w W : World} {S g b : Nat} {r : Rl} {ws : List (List UInt8)} (A : As w S g b r ws W) (n : Int) : As w S g b { r with lvl := n } ws (W.setCell ⟨b, 1, none⟩ (.int .i64 n)) :=
 A.set 1 (.int .i64 n) _ ⟨r, A, rfl⟩ (Joins.block_setCell A.G _)
theorem As.rank {w W : World} {S g b : Nat} {r : Rl} {ws : List (List UInt8)} (A : As w S g b r ws W) (n : Int) : As w S g b { r with rank := n } ws (W.setCell ⟨b, 2, none⟩ (.int .i64 n)) :=
 A.set 2 (.int .i64 n) _ ⟨r, A, rfl⟩ (Joins.block_setCell A.G _)
theorem As.group {w W : World} {S g b : Nat} {r : Rl} {ws : List (List UInt8)} (A : As w S g b r ws W) (n : Int) : As w S g b { r with group := n } ws (W.setCell ⟨b, 3, none⟩ (.int .i64 n)) :=
 A.set 3 (.int .i64 n) _ ⟨r, A, rfl⟩ (Joins.block_setCell A.G _)
theorem As.kind {w W : World} {S g b : Nat} {r : Rl} {ws : List (List UInt8)} (A : As w S g b r ws W) (n : Int) : As w S g b { r with kind := n } ws (W.setCell ⟨b, 4, none⟩ (.int .i64 n)) :=
 A.set 4 (.int .i64 n) _ ⟨r, A, rfl⟩ (Joins.block_setCell A.G _)
theorem As.value {w W : World} {S g b : Nat} {r : Rl} {ws : List (List UInt8)} (A : As w S g b r ws W) (n : Int) : As w S g b { r with value := n } ws (W.setCell ⟨b, 5, none⟩ (.int .i64 n)) :=
 A.set 5 (.int .i64 n) _ ⟨r, A, rfl⟩ (Joins.block_setCell A.G _)
theorem As.cap {w W : World} {S g b : Nat} {r : Rl} {ws : List (List UInt8)} (A : As w S g b r ws W) (n : Int) : As w S g b { r with cap := n } ws (W.setCell ⟨b, 6, none⟩ (.int .i64 n)) :=
 A.set 6 (.int .i64 n) _ ⟨r, A, rfl⟩ (Joins.block_setCell A.G _)
theorem As.lo {w W : World} {S g b : Nat} {r : Rl} {ws : List (List UInt8)} (A : As w S g b r ws W) (n : Int) : As w S g b { r with lo := n } ws (W.setCell ⟨b, 7, none⟩ (.int .i64 n)) :=
 A.set 7 (.int .i64 n) _ ⟨r, A, rfl⟩ (Joins.block_setCell A.G _)
theorem As.hi {w W : World} {S g b : Nat} {r : Rl} {ws : List (List UInt8)} (A : As w S g b r ws W) (n : Int) : As w S g b { r with hi := n } ws (W.setCell ⟨b, 8, none⟩ (.int .i64 n)) :=
 A.set 8 (.int .i64 n) _ ⟨r, A, rfl⟩ (Joins.block_setCell A.G _)
theorem As.coupon {w W : World} {S g b : Nat} {r : Rl} {ws : List (List UInt8)} (A : As w S g b r ws W) (n : Int) : As w S g b { r with coupon := n } ws (W.setCell ⟨b, 10, none⟩ (.int .i64 n)) :=
 A.set 10 (.int .i64 n) _ ⟨r, A, rfl⟩ (Joins.block_setCell A.G _)
theorem As.at {w W : World} {S g b : Nat} {r : Rl} {ws : List (List UInt8)} (A : As w S g b r ws W) (i : Nat) (u : Value) (h : (#[.int .i64 r.num, .int .i64 r.lvl, .int .i64 r.rank, .int .i64 r.group, .int .i64 r.kind, .int .i64 r.value, .int .i64 r.cap, .int .i64 r.lo, .int .i64 r.hi, .slice (some ⟨g, 0, none⟩) 3 3, .int .i64 r.coupon] : Array Value)[i]? = some u) : W.cell? ⟨b, i, none⟩ = some u ∧ W.frozen? ⟨b, i, none⟩ = false :=
 ⟨(cell_of_row W b i _ _ _ A.G).trans h, frozen_of_row W b i _ _ A.G⟩
theorem As.alloc {w W : World} {S g b : Nat} {r : Rl} {ws : List (List UInt8)} (A : As w S g b r ws W) (o : Obj) : As w S g b r ws (W.alloc o) := by
 have hb : Below W.heap.size W (W.alloc o) := (Below.refl _ _).alloc (Nat.le_refl _) _
 obtain ⟨a0, b0, a1, b1, a2, b2, h1, h2⟩ := A.F
 exact ⟨A.ord, heap_keep A.K, heap_keep A.G, ⟨a0, b0, a1, b1, a2, b2, h1, heap_keep h2⟩, A.sw.below hb, A.bel.trans (hb.mono A.bel.size), A.sh⟩
theorem As.count {w W : World} {S g b : Nat} {r : Rl} {ws : List (List UInt8)} (A : As w S g b r ws W) (j : Nat) (hj : j < 3) (p q : Int) :
   As w S g b { r with counts := r.counts.set j (p, q) } ws ((W.setCell ⟨g, j * 2, none⟩ (.int .i64 p)).setCell ⟨g, j * 2 + 1, none⟩ (.int .i64 q)) := by
 obtain ⟨o1, o2, o3⟩ := A.ord
 obtain ⟨a0, b0, a1, b1, a2, b2, h1, h2⟩ := A.F
 have hgr := grownBy_trans (grown_set W g (j * 2) (.int .i64 p)) (grown_set _ g (j * 2 + 1) (.int .i64 q))
 refine ⟨A.ord, heap_set (heap_set A.K (by omega)) (by omega), heap_set (heap_set A.G (by omega)) (by omega), ?_, A.sw.grown hgr (fun k hk => by simp only [Option.some.injEq] at hk; omega),
   (A.bel.setCell (p := ⟨g, j * 2, none⟩) (by show _ ≤ g; omega) _).setCell (p := ⟨g, j * 2 + 1, none⟩) (by show _ ≤ g; omega) _, A.sh⟩
 show ∃ a0 b0 a1 b1 a2 b2 : Int, r.counts.set j (p, q) = _ ∧ _
 rw [h1]
 match j, hj with
 | 0, _ => exact ⟨p, q, a1, b1, a2, b2, rfl, Joins.block_setCell (i := 1) (Joins.block_setCell (i := 0) h2 _) _⟩
 | 1, _ => exact ⟨a0, b0, p, q, a2, b2, rfl, Joins.block_setCell (i := 3) (Joins.block_setCell (i := 2) h2 _) _⟩
 | 2, _ => exact ⟨a0, b0, a1, b1, p, q, rfl, Joins.block_setCell (i := 5) (Joins.block_setCell (i := 4) h2 _) _⟩
def swLen (W : World) (S : Nat) : Nat := match W.cell? ⟨S, 0, none⟩, W.cell? ⟨S, 1, none⟩ with
 | some (.slice _ n _), some (.int _ k) => n - k.toNat
 | _, _ => 0
theorem Sw.len {W : World} {S : Nat} {ws : List (List UInt8)} (h : Sw W S ws) : swLen W S = ws.length := by
 obtain ⟨bk, n, cap, k, h1, _, _, _, h5, _⟩ := h
 unfold swLen
 rw [cell_of_row W S 0 _ _ _ h1, cell_of_row W S 1 _ _ _ h1]
 show n - (k : Int).toNat = _
 rw [Int.toNat_natCast]
 omega
theorem gs_num {T : List UInt8} {ws : List (List UInt8)} {n : Rl → Int} {rest : Rl → List (List UInt8)} {P : Rl → Prop} (h : Gh T (fun r0 => ws = dec (n r0) :: rest r0 ∧ P r0)) (hb : ∀ r0, okRu r0 = true → 0 ≤ n r0 ∧ n r0 ≤ 1000000) :
   Gh T (fun r0 => ws.tail = rest r0 ∧ numV ws = n r0 ∧ P r0) := h.imp fun r0 ok _ ⟨h2, h3⟩ => by
 subst h2
 exact ⟨rfl, numV_dec (hb r0 ok).1 (hb r0 ok).2 _, h3⟩
theorem gs_is {T : List UInt8} {ws : List (List UInt8)} {z : List UInt8} {rest : Rl → List (List UInt8)} {P : Rl → Prop} (h : Gh T (fun r0 => ws = z :: rest r0 ∧ P r0)) (hb : isW ws z = true) :
   Gh T (fun r0 => ws.tail = rest r0 ∧ P r0) := h.imp fun r0 _ _ ⟨h2, h3⟩ => by
 subst h2
 exact ⟨rfl, h3⟩
theorem gs_not {T : List UInt8} {ws : List (List UInt8)} {z : List UInt8} {rest : Rl → List (List UInt8)} {P : Rl → Prop} (h : Gh T (fun r0 => ws = z :: rest r0 ∧ P r0)) (hb : isW ws z = false) :
   ∀ r0, okRu r0 = true → textR r0 ≠ T := fun r0 h1 h2 => by
 have := (h r0 h1 h2).1
 subst this
 rw [isW_eq, beq_self_eq_true] at hb
 cases hb
theorem gs_kind {T : List UInt8} {ws : List (List UInt8)} {rest : Rl → List (List UInt8)} {P : Rl → Prop} (h : Gh T (fun r0 => ws = kindW r0.kind :: rest r0 ∧ P r0)) :
   Gh T (fun r0 => kndT ws = rest r0 ∧ kndV ws = r0.kind ∧ P r0) := h.imp fun r0 ok _ ⟨h2, h3⟩ => by
 subst h2
 have hk := (okRu_num ok).2.2.2.2.2.2.2.2.2.1
 have e : ∀ k : Int, k = 1 ∨ k = 2 ∨ k = 3 → ∀ t, kndT (kindW k :: t) = t ∧ kndV (kindW k :: t) = k := fun k hk t => by
   rcases hk with rfl | rfl | rfl
   · exact ⟨(kndV_1 rfl).2, (kndV_1 rfl).1⟩
   · exact ⟨(kndV_2 rfl rfl).2, (kndV_2 rfl rfl).1⟩
   · exact ⟨(kndV_3 rfl rfl rfl).2, (kndV_3 rfl rfl rfl).1⟩
 exact ⟨(e _ hk _).1, (e _ hk _).2, h3⟩
def J1 (T : List UInt8) (r : Rl) (ws : List (List UInt8)) : Prop := Gh T (fun r0 => ws = rest1 r0 ∧ r = { r0 with group := -1, cap := 0, lo := 0, hi := 1000000, counts := all3, coupon := 0 })
def J2 (T : List UInt8) (r : Rl) (ws : List (List UInt8)) : Prop := Gh T (fun r0 => ws = capW r0 ++ (totW r0 ++ (cntD r0.counts 0 ++ cpnW r0)) ∧ r = { r0 with cap := 0, lo := 0, hi := 1000000, counts := all3, coupon := 0 })
def J3 (T : List UInt8) (r : Rl) (ws : List (List UInt8)) : Prop := Gh T (fun r0 => ws = totW r0 ++ (cntD r0.counts 0 ++ cpnW r0) ∧ r = { r0 with lo := 0, hi := 1000000, counts := all3, coupon := 0 })
def J4 (T : List UInt8) (r : Rl) (ws : List (List UInt8)) : Prop := Gh T (fun r0 => ws = cntD r0.counts 0 ++ cpnW r0 ∧ r = { r0 with counts := all3, coupon := 0 })
def JC (T : List UInt8) (r : Rl) (ws : List (List UInt8)) : Prop := Gh T (fun r0 => ∃ k, k ≤ 3 ∧ ws = cntD r0.counts k ++ cpnW r0 ∧ r = { r0 with counts := mix r0.counts k, coupon := 0 })
def J5 (T : List UInt8) (r : Rl) (ws : List (List UInt8)) : Prop := Gh T (fun r0 => ws = cpnW r0 ∧ r = { r0 with coupon := 0 })
def J6 (T : List UInt8) (r : Rl) : Prop := Gh T (fun r0 => r = r0)
theorem rest2_not (r : Rl) {z : List UInt8} (h1 : wCap ≠ z) (h2 : wTotal ≠ z) (h3 : wCount ≠ z) (h4 : wCoupon ≠ z) : nextNot (capW r ++ (totW r ++ (cntD r.counts 0 ++ cpnW r))) z :=
 next_app (next_cap r h1) (next_app (next_tot r h2) (next_app (next_cntD _ _ h3) (next_cpn r h4)))
theorem j1_no {T : List UInt8} {r : Rl} {ws : List (List UInt8)} (h : J1 T r ws) (hb : isW ws wGroup = false) : J2 T r ws :=
 h.imp fun r0 ok _ ⟨h2, h3⟩ => by
   subst h2 h3
   by_cases hg : r0.group = -1
   · exact ⟨by simp [rest1, grpW, hg], by rw [← hg]⟩
   · simp [rest1, grpW, hg, isW] at hb
theorem j1_yes {T : List UInt8} {r : Rl} {ws : List (List UInt8)} (h : J1 T r ws) (hb : isW ws wGroup = true) : J2 T { r with group := numV ws.tail } ws.tail.tail :=
 h.imp fun r0 ok _ ⟨h2, h3⟩ => by
   subst h2 h3
   by_cases hg : r0.group = -1
   · rw [rest1, show grpW r0 = [] by simp [grpW, hg], List.nil_append, isW_not (rest2_not r0 (by decide) (by decide) (by decide) (by decide))] at hb
     cases hb
   · have h4 := (okRu_num ok).2.2.2.1
     simp only [rest1, grpW, if_neg hg, List.cons_append, List.nil_append, List.tail_cons]
     exact ⟨trivial, by rw [numV_dec (by omega) (by omega)]⟩
theorem j2_no {T : List UInt8} {r : Rl} {ws : List (List UInt8)} (h : J2 T r ws) (hb : isW ws wCap = false) : J3 T r ws :=
 h.imp fun r0 ok _ ⟨h2, h3⟩ => by
   subst h2 h3
   by_cases hg : r0.cap = 0
   · exact ⟨by simp [capW, hg], by rw [← hg]⟩
   · simp [capW, hg, isW] at hb
theorem j2_yes {T : List UInt8} {r : Rl} {ws : List (List UInt8)} (h : J2 T r ws) (hb : isW ws wCap = true) : J3 T { r with cap := numV ws.tail } ws.tail.tail :=
 h.imp fun r0 ok _ ⟨h2, h3⟩ => by
   subst h2 h3
   by_cases hg : r0.cap = 0
   · rw [show capW r0 = [] by simp [capW, hg], List.nil_append, isW_not (next_app (next_tot r0 (by decide)) (next_app (next_cntD _ _ (by decide)) (next_cpn r0 (by decide))))] at hb
     cases hb
   · have h4 := (okRu_num ok).2.2.2.2.1
     simp only [capW, if_neg hg, List.cons_append, List.nil_append, List.tail_cons]
     exact ⟨trivial, by rw [numV_dec (by omega) (by omega)]⟩
theorem j3_no {T : List UInt8} {r : Rl} {ws : List (List UInt8)} (h : J3 T r ws) (hb : isW ws wTotal = false) : J4 T r ws :=
 h.imp fun r0 ok _ ⟨h2, h3⟩ => by
   subst h2 h3
   cases hg : allSp r0.lo r0.hi
   · simp [totW, hg, isW] at hb
   · have := allSp_iff hg
     exact ⟨by simp [totW, hg], by rw [← this.1, ← this.2]⟩
theorem j3_yes {T : List UInt8} {r : Rl} {ws : List (List UInt8)} (h : J3 T r ws) (hb : isW ws wTotal = true) : J4 T { { r with lo := (spnV ws.tail).1 } with hi := (spnV ws.tail).2 } ws.tail.tail :=
 h.imp fun r0 ok _ ⟨h2, h3⟩ => by
   subst h2 h3
   cases hg : allSp r0.lo r0.hi
   · obtain ⟨h4, h5⟩ := (okRu_num ok).2.2.2.2.2.1
     simp only [totW, hg, Bool.false_eq_true, if_false, List.cons_append, List.nil_append, List.tail_cons]
     exact ⟨trivial, by rw [spnV_span h4 h5]⟩
   · rw [show totW r0 = [] by simp [totW, hg], List.nil_append, isW_not (next_app (next_cntD _ _ (by decide)) (next_cpn r0 (by decide)))] at hb
     cases hb
theorem j4_start {T : List UInt8} {r : Rl} {ws : List (List UInt8)} (h : J4 T r ws) : JC T r ws := h.imp fun r0 _ _ ⟨h2, h3⟩ => ⟨0, by omega, h2, h3⟩
theorem jc_end {T : List UInt8} {r : Rl} {ws : List (List UInt8)} (h : JC T r ws) (hb : isW ws wCount = false) : J5 T r ws :=
 h.imp fun r0 ok _ ⟨k, hk, h2, h3⟩ => by
   subst h2 h3
   have := cnt_none r0.counts (cpnW r0) (3 - k) k (by omega) hb
   exact ⟨by rw [this.1]; rfl, by rw [this.2, mix3 (okRu_num ok).2.2.2.2.2.2.1]⟩
theorem jc_step {T : List UInt8} {r : Rl} {ws : List (List UInt8)} (h : JC T r ws) (hb : isW ws wCount = true) :
   Gh T (fun r0 => ∃ j : Nat, j < 3 ∧ numV ws.tail = j ∧ ws.tail.tail.tail = cntD r0.counts (j + 1) ++ cpnW r0 ∧ { r with counts := r.counts.set j (spnV ws.tail.tail) } = { r0 with counts := mix r0.counts (j + 1), coupon := 0 }) :=
 h.imp fun r0 ok _ ⟨k, hk, h2, h3⟩ => by
   subst h2 h3
   obtain ⟨j, hj, e1, e2⟩ := cnt_some r0.counts (cpnW r0) (isW_not (next_cpn r0 (by decide))) (3 - k) k (by omega) hb
   have hc := (okRu_num ok).2.2.2.2.2.2.2.1 j (by rw [(okRu_num ok).2.2.2.2.2.2.1]; exact hj)
   rw [e1, e2]
   simp only [List.tail_cons]
   exact ⟨j, hj, numV_dec (by omega) (by omega) _, rfl, by rw [spnV_span hc.1 hc.2, mix_set hj]⟩
theorem jc_in {T : List UInt8} {r : Rl} {ws : List (List UInt8)} {n : Int} {x : Int × Int} {j : Nat} (hn : n = (j : Int)) (h : Gh T (fun r0 => ∃ j : Nat, j < 3 ∧ n = j ∧ ws = cntD r0.counts (j + 1) ++ cpnW r0 ∧ { r with counts := r.counts.set j x } = { r0 with counts := mix r0.counts (j + 1), coupon := 0 })) :
   JC T { r with counts := r.counts.set j x } ws :=
 h.imp fun r0 _ _ ⟨i, hi, h2, h3, h4⟩ => by
   have : i = j := by omega
   subst this
   exact ⟨i + 1, by omega, h3, h4⟩
theorem jc_out {T : List UInt8} {P : Rl → Nat → Prop} {n : Int} (hn : wi n 0 2 = false) (h : Gh T (fun r0 => ∃ j : Nat, j < 3 ∧ n = j ∧ P r0 j)) : ∀ r0, okRu r0 = true → textR r0 ≠ T := fun r0 h1 h2 => by
 obtain ⟨j, hj, e, _⟩ := h r0 h1 h2
 have : wi n 0 2 = true := by rw [wi_true]; omega
 rw [hn] at this
 cases this
theorem j5_no {T : List UInt8} {r : Rl} {ws : List (List UInt8)} (h : J5 T r ws) (hb : isW ws wCoupon = false) : J6 T r :=
 h.imp fun r0 ok _ ⟨h2, h3⟩ => by
   subst h2 h3
   by_cases hg : r0.coupon = 0
   · rw [← hg]
   · simp [cpnW, hg, isW] at hb
theorem j5_yes {T : List UInt8} {r : Rl} {ws : List (List UInt8)} (h : J5 T r ws) (hb : isW ws wCoupon = true) : J6 T { r with coupon := numV ws.tail } :=
 h.imp fun r0 ok _ ⟨h2, h3⟩ => by
   subst h2 h3
   by_cases hg : r0.coupon = 0
   · simp [cpnW, hg, isW] at hb
   · have h4 := (okRu_num ok).2.2.2.2.2.2.2.2.1
     simp only [cpnW, if_neg hg, List.tail_cons]
     rw [numV_dec (by omega) (by omega)]
end Go.Proofs.YtijofgaekmahkaaGreatDoor

namespace Go.Proofs.YtijofgaekmahkaaGreatDoor
open Go.RowKit
theorem wp_copy3 {P : Program} {id t pd ps ty : Nat} {Q : Exit → Act → World → Prop} {a : Act} {w : World} {o1 o2 o3 : Oper}
   (h1 : o1.op = .load ty (.tmp ps)) (g1 : o1.guard = none) (d1 : o1.dst = some t) (h2 : o2.op = .store ty (.tmp pd) (.tmp t)) (g2 : o2.guard = none) (v3 : Value) (h3 : o3.op = .assign (.const v3)) (g3 : o3.guard = none)
   (s d : Nat) (cs old : Array Value) (tys : TypeId) (td : TypeId) (n : Nat) (hr : RowTy P ty n) (hn : cs.size = n) (ho : old.size = n)
   (hs : a.eval (.tmp ps) = .pointer (some ⟨s, 0, none⟩)) (hsh : w.heap[s]? = some (.cells cs tys (0, 0)))
   (hdd : (a.put (some t) (.agg cs)).eval (.tmp pd) = .pointer (some ⟨d, 0, none⟩)) (hdh : w.heap[d]? = some (.cells old td (0, 0)))
   (hv : (a.put (some t) (.agg cs)).eval (.tmp t) = .agg cs) (h1c : cs.all (·.oneCell') = true)
   (h : Q .normal (((a.put (some t) (.agg cs)).put o2.dst undef).put o3.dst v3) (w.setRow d cs)) :
   (Code.region id #[o1, o2, o3] false).wp P Q a w := by
 obtain ⟨dd, hu, hd⟩ := hr.parts
 have hi := hr.2
 refine wp_region_lit ?_
 refine wpList_load_row g1 ty (.tmp ps) h1 s hs tys cs (0, 0) dd hsh hu (by cases dd <;> first | rfl | exact hd) (hi.trans (by rw [hn])) ?_
 rw [d1]
 refine wpList_store_row g2 ty (.tmp pd) (.tmp t) h2 d cs hdd hv td old hdh (hi.trans (by rw [hn])) (ho.trans hn.symm) h1c ?_
 refine wpList_plain g3 fun _ hK => Go.BigFrame.wp_assign (.const v3) h3 (hK _ _ (wpList_nil ?_))
 exact h
theorem wp_zero3 {P : Program} {id t pd ty : Nat} {Q : Exit → Act → World → Prop} {a : Act} {w : World} {o1 o2 o3 : Oper}
   (h1 : o1.op = .build ty #[]) (g1 : o1.guard = none) (d1 : o1.dst = some t) (h2 : o2.op = .store ty (.tmp pd) (.tmp t)) (g2 : o2.guard = none) (v3 : Value) (h3 : o3.op = .assign (.const v3)) (g3 : o3.guard = none)
   (d : Nat) (cs old : Array Value) (td : TypeId) (n : Nat) (hr : RowTy P ty n) (hn : cs.size = n) (ho : old.size = n) (hb : P.built ty [] = some cs)
   (hdd : (a.put (some t) (.agg cs)).eval (.tmp pd) = .pointer (some ⟨d, 0, none⟩)) (hdh : w.heap[d]? = some (.cells old td (0, 0)))
   (hv : (a.put (some t) (.agg cs)).eval (.tmp t) = .agg cs) (h1c : cs.all (·.oneCell') = true)
   (h : Q .normal (((a.put (some t) (.agg cs)).put o2.dst undef).put o3.dst v3) (w.setRow d cs)) :
   (Code.region id #[o1, o2, o3] false).wp P Q a w := by
 have hi := hr.2
 have hb' : P.built ty ((#[] : Array (Nat × Operand)).map fun (i, x) => (i, a.eval x)).toList = some cs := by simpa using hb
 refine wp_region_lit ?_
 refine wpList_build g1 ty #[] h1 (by rw [hb']; rfl) ?_
 rw [hb', d1]
 simp only [Option.getD_some]
 refine wpList_store_row g2 ty (.tmp pd) (.tmp t) h2 d cs hdd hv td old hdh (hi.trans (by rw [hn])) (ho.trans hn.symm) h1c ?_
 refine wpList_plain g3 fun _ hK => Go.BigFrame.wp_assign (.const v3) h3 (hK _ _ (wpList_nil ?_))
 exact h
theorem built_rule : Tryz.prog.built 43 [] = some #[.int .i64 0, .int .i64 0, .int .i64 0, .int .i64 0, .int .i64 0, .int .i64 0, .int .i64 0, .int .i64 0, .int .i64 0, .slice none 0 0, .int .i64 0] := by kernel_rfl
end Go.Proofs.YtijofgaekmahkaaGreatDoor
