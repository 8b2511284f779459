/- Joined texts: Small laws on memory: a slice that reads as a list of cells, blocks that stay. Plain laws on prices and on ranges; no program. Walks: ranges and valid histories. Shops and carts as plain functions on lists, and plain laws on them. No program. Walks: valid shops and carts. Conditions: none. -/
import Derived.WalkKit
import Derived.WalkSpells
import Derived.WalkLawsBesides
import Derived.WalkSmall
import Derived.Lib.Hide
import Derived.Deep.Slices
import Derived.Test.YtijofgaekmahkaaGreatDoorRows
import Derived.Deep.QuietTactic
import Derived.BigQuiet
import Derived.Handy
namespace Go.Proofs.YtijofgaekmahkaaGreatDoor
open Go.RowKit
def Rd (w : World) (sz : Nat) (v : Value) (n : Nat) (xs : List Value) : Prop :=
 xs.length = n * sz ∧ ∃ ao cap, v = .slice ao n cap ∧ n ≤ cap ∧ cap ≤ maxLen ∧
   (0 < n → ∃ b off, ao = some ⟨b, off, none⟩ ∧ b < w.heap.size ∧ ∀ j u, xs[j]? = some u → w.cell? ⟨b, off + j, none⟩ = some u)
theorem Rd.len {w : World} {sz n : Nat} {v : Value} {xs : List Value} (h : Rd w sz v n xs) : n ≤ maxLen := by
 obtain ⟨_, ao, cap, _, h1, h2, _⟩ := h
 omega
theorem Rd.of_owns {w : World} {base e sz n : Nat} {v : Value} {xs : List Value} (h : w.ownsRow base e sz v n xs) : Rd w sz v n xs := by
 obtain ⟨h1, h2⟩ := h
 refine ⟨h1, ?_⟩
 rcases h2 with ⟨rfl, rfl⟩ | ⟨g, cap, cur, rfl, hb, hg, hn, hc, hs, ht⟩
 · exact ⟨none, 0, rfl, Nat.le_refl _, Nat.zero_le _, fun h => absurd h (Nat.lt_irrefl _)⟩
 · refine ⟨_, cap, rfl, hn, hc, fun _ => ⟨g, 0, rfl, (Array.getElem?_eq_some_iff.1 hg).1, fun j u hu => ?_⟩⟩
   rw [Nat.zero_add, cell_of_row w g j cur e (0, 0) hg]
   rw [← ht, List.getElem?_take] at hu
   split at hu
   · simpa using hu
   · cases hu
theorem Rd.below {w w' : World} {B sz n : Nat} {v : Value} {xs : List Value} (h : Rd w sz v n xs) (hb : Below B w w') (hB : w.heap.size ≤ B) : Rd w' sz v n xs := by
 obtain ⟨h1, ao, cap, h2, h3, h4, h5⟩ := h
 refine ⟨h1, ao, cap, h2, h3, h4, fun hn => ?_⟩
 obtain ⟨b, off, rfl, hlt, hc⟩ := h5 hn
 refine ⟨b, off, rfl, Nat.lt_of_lt_of_le hlt hb.size, fun j u hu => ?_⟩
 exact (hb.cell (p := ⟨b, off + j, none⟩) (Nat.lt_of_lt_of_le hlt hB)).trans (hc j u hu)
theorem grownBy_trans {a b c : World} {row : Option Nat} (h : a.grownBy b row) (k : b.grownBy c row) : a.grownBy c row :=
 ⟨k.os.trans h.os, k.tape.trans h.tape, k.output.trans h.output, Nat.le_trans h.size k.size,
   fun i hi hr => (k.block i (Nat.lt_of_lt_of_le hi h.size) hr).trans (h.block i hi hr)⟩
theorem grownBy_of_below {a b : World} {row : Option Nat} (h : Below a.heap.size a b) : a.grownBy b row :=
 ⟨h.os, h.tape, h.output, h.size, fun i hi _ => h.block i hi⟩
theorem below_of_grownBy {a b : World} (h : a.grownBy b none) : Below a.heap.size a b :=
 ⟨h.os, h.tape, h.output, h.size, fun i hi => h.block i hi (by simp)⟩
theorem grownBy_new {a b c : World} {row row' : Option Nat} (h : a.grownBy b row) (k : b.grownBy c row') (hr : ∀ g, row' = some g → a.heap.size ≤ g) : a.grownBy c row :=
 ⟨k.os.trans h.os, k.tape.trans h.tape, k.output.trans h.output, Nat.le_trans h.size k.size,
   fun i hi hri => (k.block i (Nat.lt_of_lt_of_le hi h.size) (fun e => by have := hr i e.symm; omega)).trans (h.block i hi hri)⟩
theorem ownsRow_below {w w' : World} {base e sz n B : Nat} {v : Value} {xs : List Value} (h : w.ownsRow base e sz v n xs) (hb : Below B w w') (hB : w.heap.size ≤ B) : w'.ownsRow base e sz v n xs := by
 refine ⟨h.1, ?_⟩
 rcases h.2 with hn | ⟨g, cap, cur, rfl, hbs, hgg, rest⟩
 · exact .inl hn
 · refine .inr ⟨g, cap, cur, rfl, hbs, ?_, rest⟩
   rw [hb.block g (Nat.lt_of_lt_of_le (Array.getElem?_eq_some_iff.1 hgg).1 hB)]
   exact hgg
def it (l : List Int) : List Value := l.map (Value.int .i64)
def pr (l : List (Int × Int)) : List Value := l.flatMap fun p => [Value.int .i64 p.1, Value.int .i64 p.2]
def pA (l : List (Int × Int)) (k : Nat) : Int := (l.getD k (0, 0)).1
def pB (l : List (Int × Int)) (k : Nat) : Int := (l.getD k (0, 0)).2
def iG (l : List Int) (k : Nat) : Int := l.getD k 0
theorem pr_append (l m : List (Int × Int)) : pr (l ++ m) = pr l ++ pr m := by simp [pr, List.flatMap_append]
theorem pr_get (l : List (Int × Int)) (k : Nat) (hk : k < l.length) :
   (pr l)[k * 2]? = some (.int .i64 (pA l k)) ∧ (pr l)[k * 2 + 1]? = some (.int .i64 (pB l k)) := by
 induction l generalizing k with
 | nil => simp at hk
 | cons a l ih =>
   have hc : pr (a :: l) = Value.int .i64 a.1 :: Value.int .i64 a.2 :: pr l := by simp [pr]
   rw [hc]
   match k, hk with
   | 0, _ => simp [pA, pB]
   | k + 1, hk =>
     have := ih k (by simpa using hk)
     simpa [Nat.add_mul, pA, pB] using this
theorem it_len (l : List Int) : (it l).length = l.length * 1 := by simp [it]
theorem it_get (l : List Int) (k : Nat) (hk : k < l.length) : (it l)[k]? = some (.int .i64 (iG l k)) := by simp [it, iG, hk]
theorem Rd.take {w : World} {sz n cap : Nat} {ao : Option Addr} {xs : List Value} (h : Rd w sz (.slice ao n cap) n xs) {k : Nat} (hk : k ≤ n) : Rd w sz (.slice ao k cap) k (xs.take (k * sz)) := by
 obtain ⟨h1, ao', cap', h2, h3, h4, h5⟩ := h
 simp only [Value.slice.injEq, true_and] at h2
 obtain ⟨rfl, rfl⟩ := h2
 refine ⟨by rw [List.length_take, h1]; exact Nat.min_eq_left (Nat.mul_le_mul_right _ hk), ao, cap, rfl, by omega, h4, fun hn => ?_⟩
 obtain ⟨b, off, e, hlt, hc⟩ := h5 (by omega)
 refine ⟨b, off, e, hlt, fun j u hu => hc j u ?_⟩
 rw [List.getElem?_take] at hu
 split at hu
 · exact hu
 · cases hu
theorem Rd.drop {w : World} {sz n cap : Nat} {b off : Nat} {xs : List Value} (h : Rd w sz (.slice (some ⟨b, off, none⟩) n cap) n xs) {k : Nat} (hk : k ≤ n) {ao : Option Addr} (ha : k < n → ao = some ⟨b, off + k * sz, none⟩) :
   Rd w sz (.slice ao (n - k) (cap - k)) (n - k) (xs.drop (k * sz)) := by
 obtain ⟨h1, ao', cap', h2, h3, h4, h5⟩ := h
 simp only [Value.slice.injEq, true_and] at h2
 obtain ⟨rfl, rfl⟩ := h2
 refine ⟨by rw [List.length_drop, h1, Nat.sub_mul], ao, cap - k, rfl, by omega, by omega, fun hn => ?_⟩
 obtain ⟨b', off', e, hlt, hc⟩ := h5 (by omega)
 simp only [Option.some.injEq, Addr.mk.injEq, and_true] at e
 obtain ⟨rfl, rfl⟩ := e
 refine ⟨b, off + k * sz, ha (by omega), hlt, fun j u hu => ?_⟩
 rw [List.getElem?_drop] at hu
 have := hc _ u hu
 rw [← Nat.add_assoc] at this
 exact this
theorem Rd.pairs {w : World} {v : Value} {l : List (Int × Int)} (h : Rd w 2 v l.length (pr l)) :
   ∃ ao cap, v = .slice ao l.length cap ∧ l.length ≤ cap ∧ cap ≤ maxLen ∧ (0 < l.length → ∃ b off, ao = some ⟨b, off, none⟩ ∧ b < w.heap.size ∧
     ∀ k, k < l.length → w.cell? ⟨b, off + k * 2, none⟩ = some (.int .i64 (pA l k)) ∧ w.cell? ⟨b, off + k * 2 + 1, none⟩ = some (.int .i64 (pB l k))) := by
 obtain ⟨_, ao, cap, h2, h3, h4, h5⟩ := h
 refine ⟨ao, cap, h2, h3, h4, fun hn => ?_⟩
 obtain ⟨b, off, h6, h7, h8⟩ := h5 hn
 refine ⟨b, off, h6, h7, fun k hk => ?_⟩
 have hg := pr_get l k hk
 exact ⟨h8 _ _ hg.1, h8 _ _ hg.2⟩
theorem Rd.ints {w : World} {v : Value} {l : List Int} (h : Rd w 1 v l.length (it l)) :
   ∃ ao cap, v = .slice ao l.length cap ∧ l.length ≤ cap ∧ cap ≤ maxLen ∧ (0 < l.length → ∃ b off, ao = some ⟨b, off, none⟩ ∧ b < w.heap.size ∧
     ∀ k, k < l.length → w.cell? ⟨b, off + k, none⟩ = some (.int .i64 (iG l k))) := by
 obtain ⟨_, ao, cap, h2, h3, h4, h5⟩ := h
 refine ⟨ao, cap, h2, h3, h4, fun hn => ?_⟩
 obtain ⟨b, off, h6, h7, h8⟩ := h5 hn
 exact ⟨b, off, h6, h7, fun k hk => h8 _ _ (it_get l k hk)⟩
theorem owns_shape_cap {w : World} {base e sz n : Nat} {v : Value} {xs : List Value} (h : w.ownsRow base e sz v n xs) : ∃ ao cap, v = .slice ao n cap ∧ (n ≤ cap ∧ cap ≤ 9223372036854775807) ∧ (0 < n → ∃ g, ao = some ⟨g, 0, none⟩ ∧ base ≤ g) := by
 rcases h.2 with ⟨rfl, rfl⟩ | ⟨g, cap, cur, rfl, hb, _, hn, hc, _⟩
 · exact ⟨none, 0, rfl, by omega, fun h => absurd h (Nat.lt_irrefl _)⟩
 · exact ⟨_, cap, rfl, ⟨hn, by unfold maxLen at hc; omega⟩, fun _ => ⟨g, rfl, hb⟩⟩
theorem owns_shape {w : World} {base e sz n : Nat} {v : Value} {xs : List Value} (h : w.ownsRow base e sz v n xs) : ∃ ao cap, v = .slice ao n cap ∧ (0 < n → ∃ g, ao = some ⟨g, 0, none⟩ ∧ base ≤ g) := by
 obtain ⟨ao, cap, h1, _, h2⟩ := owns_shape_cap h
 exact ⟨ao, cap, h1, h2⟩
theorem app_pair {P : Program} {w : World} {ops : Array Oper} {rest : List Oper} {o : Oper} {a : Act} {Q : Exit → Act → World → Prop} (hgd : o.guard = none) (s x : Operand) (t : TypeId)
   (ho : o.op = .call { callee := .builtin .append, args := #[s, x], argTypes := #[t, t] }) (base : Nat) (e t2 : TypeId) (i : TypeInfo) (z : Value) (ht : P.underlying t = some (.slice e)) (hi : P.info? e = some i) (hz : i.zero = some z)
   (hs : i.size = 2) (hby : i.bytes = 16) (hzs : z.cells.size = 2) (v : Value) (l : List (Int × Int)) (p q : Int) (hv : a.eval s = v) (hown : w.ownsRow base e 2 v l.length (pr l))
   (hx : a.eval x = .slice (some ⟨w.heap.size, 0, none⟩) 1 1) (hlen : l.length ≤ 1099511627776) (hbase : base ≤ w.heap.size)
   (h : ∀ v' w1, w1.ownsRow base e 2 v' (l ++ [(p, q)]).length (pr (l ++ [(p, q)])) → (w.alloc (.cells #[.int .i64 p, .int .i64 q] t2)).grownBy w1 v.ownBlock → wpList P ops Q rest (a.put o.dst v') w1) :
   wpList P ops Q (o :: rest) a (w.alloc (.cells #[.int .i64 p, .int .i64 q] t2)) := by
 refine wpList_append_own _ hgd s x t ho base e i z 2 16 ht hi hz hs hby hzs (by decide) v l.length (pr l) hv (hown.alloc _) ⟨w.heap.size, 0, none⟩ 1 1 [.int .i64 p, .int .i64 q] hx rfl (cell_two_new w _ _ t2) (by
   intro u hu
   rcases List.mem_cons.1 hu with rfl | hu
   · rfl
   · rcases List.mem_cons.1 hu with rfl | hu
     · rfl
     · cases hu) (by unfold maxLen; omega) (by omega) (by simp; omega) ?_
 intro v' w1 h1 h2 _
 refine h v' w1 ?_ h2
 rw [List.length_append, pr_append]
 exact h1
theorem app_int {P : Program} {w : World} {ops : Array Oper} {rest : List Oper} {o : Oper} {a : Act} {Q : Exit → Act → World → Prop} (hgd : o.guard = none) (s x : Operand) (t : TypeId)
   (ho : o.op = .call { callee := .builtin .append, args := #[s, x], argTypes := #[t, t] }) (base : Nat) (e t2 : TypeId) (i : TypeInfo) (z : Value) (ht : P.underlying t = some (.slice e)) (hi : P.info? e = some i) (hz : i.zero = some z)
   (hs : i.size = 1) (hby : i.bytes = 8) (hzs : z.cells.size = 1) (v : Value) (l : List Int) (p : Int) (hv : a.eval s = v) (hown : w.ownsRow base e 1 v l.length (it l))
   (hx : a.eval x = .slice (some ⟨w.heap.size, 0, none⟩) 1 1) (hlen : l.length ≤ 1099511627776) (hbase : base ≤ w.heap.size)
   (h : ∀ v' w1, w1.ownsRow base e 1 v' (l ++ [p]).length (it (l ++ [p])) → (w.alloc (.cells #[.int .i64 p] t2)).grownBy w1 v.ownBlock → wpList P ops Q rest (a.put o.dst v') w1) :
   wpList P ops Q (o :: rest) a (w.alloc (.cells #[.int .i64 p] t2)) := by
 refine wpList_append_own _ hgd s x t ho base e i z 1 8 ht hi hz hs hby hzs (by decide) v l.length (it l) hv (hown.alloc _) ⟨w.heap.size, 0, none⟩ 1 1 [.int .i64 p] hx rfl (cell_one_new _ _ _) (by
   intro u hu
   rcases List.mem_cons.1 hu with rfl | hu
   · rfl
   · cases hu) (by unfold maxLen; omega) (by omega) (by simp; omega) ?_
 intro v' w1 h1 h2 _
 refine h v' w1 ?_ h2
 rw [List.length_append]
 simpa [it] using h1
theorem it_set (m : List Int) (k : Nat) (a : Int) : (it m).set k (.int .i64 a) = it (m.set k a) := by simp [it, List.map_set]
def fillI (l : List Int) (k : Nat) : List Int := l.take k ++ List.replicate (l.length - k) 0
theorem fill_succ {α : Type} (l : List α) (z : α) (k : Nat) (hk : k < l.length) : (l.take k ++ List.replicate (l.length - k) z).set k (l.getD k z) = l.take (k + 1) ++ List.replicate (l.length - (k + 1)) z := by
 have h1 : (l.take k).length = k := by rw [List.length_take]; omega
 rw [List.set_append_right _ _ (by omega), h1, Nat.sub_self, show l.length - k = (l.length - (k + 1)) + 1 by omega, List.replicate_succ, List.set_cons_zero, List.take_succ_eq_append_getElem hk, List.append_assoc,
   show l.getD k z = l[k] by simp [List.getD, hk]]
 rfl
theorem fillI_len (l : List Int) (k : Nat) (hk : k ≤ l.length) : (fillI l k).length = l.length := by simp [fillI]; omega
theorem fillI_zero (l : List Int) : fillI l 0 = List.replicate l.length 0 := by simp [fillI]
theorem fillI_succ (l : List Int) (k : Nat) (hk : k < l.length) : (fillI l k).set k (iG l k) = fillI l (k + 1) := fill_succ l 0 k hk
theorem fillI_end (l : List Int) : fillI l l.length = l := by simp [fillI]
end Go.Proofs.YtijofgaekmahkaaGreatDoor

namespace Go.Proofs.YtijofgaekmahkaaGreatDoor
open Go.RowKit
def wi (n lo hi : Int) : Bool := decide (lo ≤ n) && decide (n ≤ hi)
theorem wi_true {n lo hi : Int} : wi n lo hi = true ↔ lo ≤ n ∧ n ≤ hi := by simp [wi]
theorem wi_false {n lo hi : Int} : wi n lo hi = false ↔ n < lo ∨ hi < n := by
 rw [Bool.eq_false_iff, ne_eq, wi_true]; omega
theorem all_snoc {p : Nat → Prop} {k : Nat} (h : ∀ j, j < k → p j) (hk : p k) : ∀ j, j < k + 1 → p j := by
 intro j hj
 by_cases e : j = k
 · exact e ▸ hk
 · exact h j (by omega)
end Go.Proofs.YtijofgaekmahkaaGreatDoor

namespace Go.Proofs.YtijofgaekmahkaaGreatDoor
open Go.RowKit
set_option maxHeartbeats 400000 in
theorem within_any (n lo hi : Int) (w : World) :
   Calls Tryz.prog 35 #[.int .i64 n, .int .i64 lo, .int .i64 hi] w fun e w' => e = .returned (.bool (wi n lo hi)) ∧ w' = w := by
 go_enter Tryz.func35, Tryz.ntmps35
 go_wp2
 all_goals go_ret
 · have h : lo ≤ n := by assumption
   exact ⟨by simp [wi, h], rfl⟩
 · have h : n < lo := by assumption
   exact ⟨by simp [wi, show ¬ lo ≤ n by omega], rfl⟩
set_option maxHeartbeats 400000 in
theorem inRange_any (n lo hi : Int) (w : World) :
   Calls Tryz.prog 54 #[.int .i64 n, .int .i64 lo, .int .i64 hi] w fun e w' => e = .returned (.bool (wi n lo hi)) ∧ w' = w := by
 go_enter Tryz.func54, Tryz.ntmps54
 go_wp2
 all_goals go_ret
 · have h : lo ≤ n := by assumption
   exact ⟨by simp [wi, h], rfl⟩
 · have h : n < lo := by assumption
   exact ⟨by simp [wi, show ¬ lo ≤ n by omega], rfl⟩
end Go.Proofs.YtijofgaekmahkaaGreatDoor

namespace Go.Proofs.YtijofgaekmahkaaGreatDoor
open Go.RowKit
structure Art where
 p : Int
 g : Int
 r : Int
 w : Int
instance : DecidableEq Art := fun a b =>
 if h : a.p = b.p ∧ a.g = b.g ∧ a.r = b.r ∧ a.w = b.w then isTrue (by
   cases a; cases b
   simp only at h
   obtain ⟨rfl, rfl, rfl, rfl⟩ := h
   rfl) else isFalse (by rintro rfl; exact h ⟨rfl, rfl, rfl, rfl⟩)
def ar (l : List Art) : List Value := l.flatMap fun a => [Value.int .i64 a.p, Value.int .i64 a.g, Value.int .i64 a.r, Value.int .i64 a.w]
def aT (l : List Art) (k : Nat) : Art := l.getD k ⟨0, 0, 0, 0⟩
theorem ar_get (l : List Art) (k : Nat) (hk : k < l.length) :
   (ar l)[k * 4]? = some (.int .i64 (aT l k).p) ∧ (ar l)[k * 4 + 1]? = some (.int .i64 (aT l k).g) ∧ (ar l)[k * 4 + 2]? = some (.int .i64 (aT l k).r) ∧ (ar l)[k * 4 + 3]? = some (.int .i64 (aT l k).w) := by
 induction l generalizing k with
 | nil => simp at hk
 | cons a l ih =>
   have hc : ar (a :: l) = Value.int .i64 a.p :: Value.int .i64 a.g :: Value.int .i64 a.r :: Value.int .i64 a.w :: ar l := by simp [ar]
   rw [hc]
   match k, hk with
   | 0, _ => simp [aT]
   | k + 1, hk =>
     have := ih k (by simpa using hk)
     simpa [Nat.add_mul, aT] using this
theorem Rd.arts {w : World} {v : Value} {l : List Art} (h : Rd w 4 v l.length (ar l)) :
   ∃ ao cap, v = .slice ao l.length cap ∧ l.length ≤ cap ∧ cap ≤ maxLen ∧ (0 < l.length → ∃ b off, ao = some ⟨b, off, none⟩ ∧ b < w.heap.size ∧
     ∀ k, k < l.length → w.cell? ⟨b, off + k * 4, none⟩ = some (.int .i64 (aT l k).p) ∧ w.cell? ⟨b, off + k * 4 + 1, none⟩ = some (.int .i64 (aT l k).g) ∧ w.cell? ⟨b, off + k * 4 + 2, none⟩ = some (.int .i64 (aT l k).r) ∧ w.cell? ⟨b, off + k * 4 + 3, none⟩ = some (.int .i64 (aT l k).w)) := by
 obtain ⟨_, ao, cap, h2, h3, h4, h5⟩ := h
 refine ⟨ao, cap, h2, h3, h4, fun hn => ?_⟩
 obtain ⟨b, off, h6, h7, h8⟩ := h5 hn
 refine ⟨b, off, h6, h7, fun k hk => ?_⟩
 have hg := ar_get l k hk
 exact ⟨h8 _ _ hg.1, h8 _ _ hg.2.1, h8 _ _ hg.2.2.1, h8 _ _ hg.2.2.2⟩
def atOk (a : Art) : Bool := wi a.p 1 5000 && wi a.g 0 2 && wi a.r 0 300 && wi a.w 0 5000
def vShop (l : List Art) : Bool := (List.range l.length).all (fun k => atOk (aT l k)) && wi l.length 1 10
theorem vShop_bad {l : List Art} {k : Nat} (hk : k < l.length) (h : atOk (aT l k) = false) : vShop l = false := by
 unfold vShop
 rw [Bool.and_eq_false_iff]
 left
 rw [List.all_eq_false]
 exact ⟨k, List.mem_range.2 hk, by simp [h]⟩
theorem vShop_end {l : List Art} (h : ∀ j, j < l.length → atOk (aT l j) = true) : vShop l = wi l.length 1 10 := by
 unfold vShop
 have : (List.range l.length).all (fun k => atOk (aT l k)) = true := by
   rw [List.all_eq_true]; exact fun j hj => h j (List.mem_range.1 hj)
 rw [this, Bool.true_and]
theorem vShop_all {l : List Art} (h : vShop l = true) : (∀ j, j < l.length → atOk (aT l j) = true) ∧ 1 ≤ l.length ∧ l.length ≤ 10 := by
 unfold vShop at h
 rw [Bool.and_eq_true, List.all_eq_true, wi_true] at h
 exact ⟨fun j hj => h.1 j (List.mem_range.2 hj), by omega, by omega⟩
theorem atOk_a {a : Art} (h : wi a.p 1 5000 = false) : atOk a = false := by simp [atOk, h]
theorem atOk_b {a : Art} (h : wi a.g 0 2 = false) : atOk a = false := by simp [atOk, h]
theorem atOk_c {a : Art} (h : wi a.r 0 300 = false) : atOk a = false := by simp [atOk, h]
theorem atOk_d {a : Art} (h : wi a.w 0 5000 = false) : atOk a = false := by simp [atOk, h]
theorem atOk_y {a : Art} (h1 : wi a.p 1 5000 = true) (h2 : wi a.g 0 2 = true) (h3 : wi a.r 0 300 = true) (h4 : wi a.w 0 5000 = true) : atOk a = true := by simp [atOk, h1, h2, h3, h4]
theorem atOk_pr {a : Art} (h : atOk a = true) : 1 ≤ a.p ∧ a.p ≤ 5000 ∧ 0 ≤ a.g ∧ a.g ≤ 2 ∧ 0 ≤ a.r ∧ a.r ≤ 300 ∧ 0 ≤ a.w ∧ a.w ≤ 5000 := by
 simp only [atOk, Bool.and_eq_true, wi_true] at h
 omega
def lnOk (n : Int) (c : List (Int × Int)) (k : Nat) : Bool :=
 wi (pA c k) 0 (n - 1) && wi (pB c k) 1 20 && (decide (k = 0) || decide (pA c (k - 1) < pA c k))
def vLines (n : Int) (c : List (Int × Int)) : Bool := (List.range c.length).all (lnOk n c) && decide (c.length ≤ 8)
def vCart (s : List Art) (c : List (Int × Int)) : Bool := vShop s && vLines s.length c
theorem vLines_bad {n : Int} {l : List (Int × Int)} {k : Nat} (hk : k < l.length) (h : lnOk n l k = false) : vLines n l = false := by
 unfold vLines
 rw [Bool.and_eq_false_iff]
 left
 rw [List.all_eq_false]
 exact ⟨k, List.mem_range.2 hk, by simp [h]⟩
theorem vLines_end {n : Int} {l : List (Int × Int)} (h : ∀ j, j < l.length → lnOk n l j = true) : vLines n l = decide ((l.length : Int) ≤ 8) := by
 unfold vLines
 have : (List.range l.length).all (lnOk n l) = true := by
   rw [List.all_eq_true]; exact fun j hj => h j (List.mem_range.1 hj)
 rw [this, Bool.true_and]
 exact decide_eq_decide.2 (by omega)
theorem lnOk_a {n : Int} {l : List (Int × Int)} {k : Nat} (h : wi (pA l k) 0 (n - 1) = false) : lnOk n l k = false := by simp [lnOk, h]
theorem lnOk_b {n : Int} {l : List (Int × Int)} {k : Nat} (h : wi (pB l k) 1 20 = false) : lnOk n l k = false := by simp [lnOk, h]
theorem lnOk_c {n : Int} {l : List (Int × Int)} {k : Nat} (h : pA l (k + 1) ≤ pA l k) : lnOk n l (k + 1) = false := by
 simp only [lnOk, Bool.and_eq_false_iff, Bool.or_eq_false_iff, decide_eq_false_iff_not, Nat.add_sub_cancel]
 right; omega
theorem lnOk_0 {n : Int} {l : List (Int × Int)} {k : Nat} (hk : ¬ 0 < k) (h1 : wi (pA l k) 0 (n - 1) = true) (h2 : wi (pB l k) 1 20 = true) : lnOk n l k = true := by
 obtain rfl : k = 0 := by omega
 simp [lnOk, h1, h2]
theorem lnOk_s {n : Int} {l : List (Int × Int)} {k : Nat} (h1 : wi (pA l (k + 1)) 0 (n - 1) = true) (h2 : wi (pB l (k + 1)) 1 20 = true) (h : ¬ pA l (k + 1) ≤ pA l k) : lnOk n l (k + 1) = true := by
 simp [lnOk, h1, h2]; omega
theorem vLines_all {n : Int} {l : List (Int × Int)} (h : vLines n l = true) : (∀ j, j < l.length → lnOk n l j = true) ∧ l.length ≤ 8 := by
 unfold vLines at h
 rw [Bool.and_eq_true, List.all_eq_true, decide_eq_true_eq] at h
 exact ⟨fun j hj => h.1 j (List.mem_range.2 hj), h.2⟩
theorem lnOk_pr {n : Int} {l : List (Int × Int)} {k : Nat} (h : lnOk n l k = true) : 0 ≤ pA l k ∧ pA l k < n ∧ 1 ≤ pB l k ∧ pB l k ≤ 20 ∧ (k = 0 ∨ pA l (k - 1) < pA l k) := by
 simp only [lnOk, Bool.and_eq_true, Bool.or_eq_true, decide_eq_true_eq, wi_true] at h
 omega
theorem lnOk_mk {n : Int} {l : List (Int × Int)} {k : Nat} (h1 : 0 ≤ pA l k ∧ pA l k < n) (h2 : 1 ≤ pB l k ∧ pB l k ≤ 20) (h3 : k = 0 ∨ pA l (k - 1) < pA l k) : lnOk n l k = true := by
 simp only [lnOk, Bool.and_eq_true, Bool.or_eq_true, decide_eq_true_eq, wi_true]
 exact ⟨⟨⟨h1.1, by omega⟩, h2⟩, h3⟩
theorem vLines_mk {n : Int} {l : List (Int × Int)} (h : ∀ j, j < l.length → lnOk n l j = true) (hl : l.length ≤ 8) : vLines n l = true := by
 rw [vLines_end h]; simp; omega
theorem ln_asc {n : Int} {l : List (Int × Int)} (h : vLines n l = true) : ∀ j, j < l.length → ∀ i, i < j → pA l i < pA l j
 | 0, _, i, hi => absurd hi (Nat.not_lt_zero _)
 | j + 1, hj, i, hi => by
   have h1 := lnOk_pr ((vLines_all h).1 (j + 1) hj)
   have h2 : pA l j < pA l (j + 1) := by
     rcases h1.2.2.2.2 with h3 | h3
     · omega
     · simpa using h3
   by_cases e : i = j
   · subst e; exact h2
   · have := ln_asc h j (by omega) i (by omega)
     omega
theorem vCart_pr {s : List Art} {c : List (Int × Int)} (h : vCart s c = true) : vShop s = true ∧ vLines s.length c = true := by
 unfold vCart at h; rwa [Bool.and_eq_true] at h
theorem vCart_s {s : List Art} {c : List (Int × Int)} (h : vShop s = false) : vCart s c = false := by simp [vCart, h]
theorem vCart_l {s : List Art} {c : List (Int × Int)} (h : vLines s.length c = false) : vCart s c = false := by simp [vCart, h]
theorem vCart_y {s : List Art} {c : List (Int × Int)} (h : vShop s = true) (h2 : vLines s.length c = true) : vCart s c = true := by simp [vCart, h, h2]
theorem art_in {s : List Art} {c : List (Int × Int)} (h : vCart s c = true) {k : Nat} (hk : k < c.length) : (pA c k).toNat < s.length ∧ 0 ≤ pA c k ∧ ((pA c k).toNat : Int) = pA c k ∧ 1 ≤ pB c k ∧ pB c k ≤ 20 ∧ atOk (aT s (pA c k).toNat) = true := by
 obtain ⟨h1, h2⟩ := vCart_pr h
 have h3 := lnOk_pr ((vLines_all h2).1 k hk)
 have h4 : (pA c k).toNat < s.length := by omega
 exact ⟨h4, h3.1, by omega, h3.2.2.1, h3.2.2.2.1, (vShop_all h1).1 _ h4⟩
theorem mul_bd {a b m n : Int} (h1 : 0 ≤ a) (h2 : a ≤ m) (h3 : 0 ≤ b) (h4 : b ≤ n) : 0 ≤ a * b ∧ a * b ≤ m * n :=
 ⟨Int.mul_nonneg h1 h3, Int.mul_le_mul h2 h4 h3 (by omega)⟩
end Go.Proofs.YtijofgaekmahkaaGreatDoor

namespace Go.Proofs.YtijofgaekmahkaaGreatDoor
open Go.RowKit
set_option maxHeartbeats 8000000 in
theorem implShop_any (l : List Art) (v : Value) (w : World) (hv : Rd w 4 v l.length (ar l)) :
   Calls Tryz.prog 99 #[v] w fun e w' => e = .returned (.bool (vShop l)) ∧ Below w.heap.size w w' := by
 have hm := hv.len
 unfold maxLen at hm
 obtain ⟨ao, cap, rfl, hl, hc, hr⟩ := hv.arts
 have HR := Lib.hid hr
 clear hr hv hl hc
 go_enter Tryz.func99, Tryz.ntmps99
 go_wp2
 go_loopw [7] (fun i wr => ∃ k : Nat, k ≤ l.length ∧ i = .int .i64 k ∧ Below w.heap.size w wr ∧ Hid (∀ j, j < k → atOk (aT l j) = true)) (fun i _ => l.length - (intOf i).toNat)
 case atStart => exact ⟨0, Nat.zero_le _, rfl, Below.refl _ _, fun j hj => absurd hj (Nat.not_lt_zero _)⟩
 case round =>
   obtain ⟨k, hk, rfl, hbl, hall⟩ := hrel
   by_cases hlt : k < l.length
   · obtain ⟨b, off, rfl, hb, hcell⟩ := HR.out (by omega)
     have HC := Lib.hid hcell
     clear hcell
     have h0 := (hbl.cell (p := ⟨b, off + k*4, none⟩) hb).trans (HC.out k hlt).1
     have h1 := (hbl.cell (p := ⟨b, off + k*4+1, none⟩) hb).trans (HC.out k hlt).2.1
     have h2 := (hbl.cell (p := ⟨b, off + k*4+2, none⟩) hb).trans (HC.out k hlt).2.2.1
     have h3 := (hbl.cell (p := ⟨b, off + k*4+3, none⟩) hb).trans (HC.out k hlt).2.2.2
     have hbw : b < wr.heap.size := Nat.lt_of_lt_of_le hb hbl.size
     cases hA : wi (aT l k).p 1 5000
     · have fin := Lib.hid (vShop_bad hlt (atOk_a hA))
       go_wp2_with (go_at_call 35; refine (within_any _ _ _ _).mono ?_; rintro e w2 ⟨rfl, hw2⟩; subst hw2)
       go_ret
       exact ⟨by rw [fin.out]; rfl, hbl.alloc hbl.size _⟩
     cases hB : wi (aT l k).g 0 2
     · have fin := Lib.hid (vShop_bad hlt (atOk_b hB))
       go_wp2_with (go_at_call 35; refine (within_any _ _ _ _).mono ?_; rintro e w2 ⟨rfl, hw2⟩; subst hw2)
       go_ret
       exact ⟨by rw [fin.out]; rfl, hbl.alloc hbl.size _⟩
     cases hC : wi (aT l k).r 0 300
     · have fin := Lib.hid (vShop_bad hlt (atOk_c hC))
       go_wp2_with (go_at_call 35; refine (within_any _ _ _ _).mono ?_; rintro e w2 ⟨rfl, hw2⟩; subst hw2)
       go_ret
       exact ⟨by rw [fin.out]; rfl, hbl.alloc hbl.size _⟩
     cases hD : wi (aT l k).w 0 5000
     · have fin := Lib.hid (vShop_bad hlt (atOk_d hD))
       go_wp2_with (go_at_call 35; refine (within_any _ _ _ _).mono ?_; rintro e w2 ⟨rfl, hw2⟩; subst hw2)
       go_ret
       exact ⟨by rw [fin.out]; rfl, hbl.alloc hbl.size _⟩
     have fin := Lib.hid (atOk_y hA hB hC hD)
     go_wp2_with (go_at_call 35; refine (within_any _ _ _ _).mono ?_; rintro e w2 ⟨rfl, hw2⟩; subst hw2)
     go_roundw
     case rel => exact ⟨k+1, by omega, by go_num, hbl.alloc hbl.size _, all_snoc hall.out fin.out⟩
     case measure => simp [intOf]; omega
   · have fin := Lib.hid (vShop_end (l := l) fun j hj => hall.out j (by omega))
     go_wp2_with (go_at_call 35; refine (within_any _ _ _ _).mono ?_; rintro e w2 ⟨rfl, hw2⟩; subst hw2)
     go_ret
     exact ⟨by rw [fin.out]; rfl, hbl⟩
set_option maxHeartbeats 8000000 in
theorem specShop_in (l : List Art) (v : Value) (w : World) (hv : Rd w 4 v l.length (ar l)) :
   Calls Tryz.prog 89 #[v] w fun e w' => e = .returned (.bool (vShop l)) ∧ Below w.heap.size w w' := by
 have hm := hv.len
 unfold maxLen at hm
 obtain ⟨ao, cap, rfl, hl, hc, hr⟩ := hv.arts
 have HR := Lib.hid hr
 clear hr hv hl hc
 go_enter Tryz.func89, Tryz.ntmps89
 go_wp2
 go_loopw [3] (fun i wr => ∃ k : Nat, k ≤ l.length ∧ i = .int .i64 k ∧ Below w.heap.size w wr ∧ Hid (∀ j, j < k → atOk (aT l j) = true)) (fun i _ => l.length - (intOf i).toNat)
 case atStart => exact ⟨0, Nat.zero_le _, rfl, Below.refl _ _, fun j hj => absurd hj (Nat.not_lt_zero _)⟩
 case round =>
   obtain ⟨k, hk, rfl, hbl, hall⟩ := hrel
   by_cases hlt : k < l.length
   · obtain ⟨b, off, rfl, hb, hcell⟩ := HR.out (by omega)
     have HC := Lib.hid hcell
     clear hcell
     have h0 := (hbl.cell (p := ⟨b, off + k*4, none⟩) hb).trans (HC.out k hlt).1
     have h1 := (hbl.cell (p := ⟨b, off + k*4+1, none⟩) hb).trans (HC.out k hlt).2.1
     have h2 := (hbl.cell (p := ⟨b, off + k*4+2, none⟩) hb).trans (HC.out k hlt).2.2.1
     have h3 := (hbl.cell (p := ⟨b, off + k*4+3, none⟩) hb).trans (HC.out k hlt).2.2.2
     have hbw : b < wr.heap.size := Nat.lt_of_lt_of_le hb hbl.size
     cases hA : wi (aT l k).p 1 5000
     · have fin := Lib.hid (vShop_bad hlt (atOk_a hA))
       go_wp2_with (go_at_call 54; refine (inRange_any _ _ _ _).mono ?_; rintro e w2 ⟨rfl, hw2⟩; subst hw2)
       go_ret
       exact ⟨by rw [fin.out]; rfl, hbl.alloc hbl.size _⟩
     cases hB : wi (aT l k).g 0 2
     · have fin := Lib.hid (vShop_bad hlt (atOk_b hB))
       go_wp2_with (go_at_call 54; refine (inRange_any _ _ _ _).mono ?_; rintro e w2 ⟨rfl, hw2⟩; subst hw2)
       go_ret
       exact ⟨by rw [fin.out]; rfl, hbl.alloc hbl.size _⟩
     cases hC : wi (aT l k).r 0 300
     · have fin := Lib.hid (vShop_bad hlt (atOk_c hC))
       go_wp2_with (go_at_call 54; refine (inRange_any _ _ _ _).mono ?_; rintro e w2 ⟨rfl, hw2⟩; subst hw2)
       go_ret
       exact ⟨by rw [fin.out]; rfl, hbl.alloc hbl.size _⟩
     cases hD : wi (aT l k).w 0 5000
     · have fin := Lib.hid (vShop_bad hlt (atOk_d hD))
       go_wp2_with (go_at_call 54; refine (inRange_any _ _ _ _).mono ?_; rintro e w2 ⟨rfl, hw2⟩; subst hw2)
       go_ret
       exact ⟨by rw [fin.out]; rfl, hbl.alloc hbl.size _⟩
     have fin := Lib.hid (atOk_y hA hB hC hD)
     go_wp2_with (go_at_call 54; refine (inRange_any _ _ _ _).mono ?_; rintro e w2 ⟨rfl, hw2⟩; subst hw2)
     go_roundw
     case rel => exact ⟨k+1, by omega, by go_num, hbl.alloc hbl.size _, all_snoc hall.out fin.out⟩
     case measure => simp [intOf]; omega
   · have fin := Lib.hid (vShop_end (l := l) fun j hj => hall.out j (by omega))
     go_wp2_with (go_at_call 54; refine (inRange_any _ _ _ _).mono ?_; rintro e w2 ⟨rfl, hw2⟩; subst hw2)
     go_ret
     exact ⟨by rw [fin.out]; rfl, hbl⟩
set_option maxHeartbeats 8000000 in
theorem linesOk_any (n : Int) (l : List (Int × Int)) (v : Value) (w : World) (hv : Rd w 2 v l.length (pr l)) (hn : 0 ≤ n) (hn2 : n ≤ 9223372036854775807) :
   Calls Tryz.prog 100 #[.int .i64 n, v] w fun e w' => e = .returned (.bool (vLines n l)) ∧ Below w.heap.size w w' := by
 have hm := hv.len
 unfold maxLen at hm
 obtain ⟨ao, cap, rfl, hl, hc, hr⟩ := hv.pairs
 have HR := Lib.hid hr
 clear hr hv hl hc
 have hw0 : IntKind.i64.wrap (n - 1) = n - 1 := IntWalk.i64_in _ (by omega)
 go_enter Tryz.func100, Tryz.ntmps100
 go_wp2
 go_loopw [9] (fun i wr => ∃ k : Nat, k ≤ l.length ∧ i = .int .i64 k ∧ Below w.heap.size w wr ∧ Hid (∀ j, j < k → lnOk n l j = true)) (fun i _ => l.length - (intOf i).toNat)
 case atStart => exact ⟨0, Nat.zero_le _, rfl, Below.refl _ _, fun j hj => absurd hj (Nat.not_lt_zero _)⟩
 case round =>
   obtain ⟨k, hk, rfl, hbl, hall⟩ := hrel
   by_cases hlt : k < l.length
   · obtain ⟨b, off, rfl, hb, hcell⟩ := HR.out (by omega)
     have HC := Lib.hid hcell
     clear hcell
     have h0 := (hbl.cell (p := ⟨b, off + k*2, none⟩) hb).trans (HC.out k hlt).1
     have h1 := (hbl.cell (p := ⟨b, off + k*2+1, none⟩) hb).trans (HC.out k hlt).2
     have hbw : b < wr.heap.size := Nat.lt_of_lt_of_le hb hbl.size
     cases hA : wi (pA l k) 0 (n - 1)
     · have fin := Lib.hid (vLines_bad (n := n) hlt (lnOk_a hA))
       go_wp2
       go_quiet ((go_at_call 35; exact Calls.quiet_of_same (within_any _ _ _ _)))
       go_wp2
       go_ret
       exact ⟨by rw [fin.out]; rfl, below_drewN (hbl.alloc hbl.size _) _⟩
     · cases hB : wi (pB l k) 1 20
       · have fin := Lib.hid (vLines_bad (n := n) hlt (lnOk_b hB))
         go_wp2
         go_quiet ((go_at_call 35; exact Calls.quiet_of_same (within_any _ _ _ _)))
         go_wp2
         go_ret
         exact ⟨by rw [fin.out]; rfl, below_drewN (hbl.alloc hbl.size _) _⟩
       · by_cases hz : 0 < k
         · obtain ⟨j, rfl⟩ : ∃ j, k = j + 1 := ⟨k - 1, by omega⟩
           have g0 := (hbl.cell (p := ⟨b, off + j*2, none⟩) hb).trans (HC.out j (by omega)).1
           have hw : IntKind.i64.wrap (j : Int) = (j : Int) := IntWalk.i64_in _ (by omega)
           have hj : j < l.length := by omega
           by_cases hD : (pA l (j + 1)) ≤ (pA l j)
           · have fin := Lib.hid (vLines_bad (n := n) hlt (lnOk_c hD))
             go_wp2
             go_quiet ((go_at_call 35; exact Calls.quiet_of_same (within_any _ _ _ _)))
             go_wp2
             go_ret
             exact ⟨by rw [fin.out]; rfl, below_drewN (hbl.alloc hbl.size _) _⟩
           · have fin := Lib.hid (lnOk_s hA hB hD)
             go_wp2
             go_quiet ((go_at_call 35; exact Calls.quiet_of_same (within_any _ _ _ _)))
             go_wp2
             go_roundw
             case rel => exact ⟨j+1+1, by omega, by go_num, below_drewN (hbl.alloc hbl.size _) _, all_snoc hall.out fin.out⟩
             case measure => simp [intOf]; omega
         · have fin := Lib.hid (lnOk_0 hz hA hB)
           go_wp2
           go_quiet ((go_at_call 35; exact Calls.quiet_of_same (within_any _ _ _ _)))
           go_wp2
           go_roundw
           case rel => exact ⟨k+1, by omega, by go_num, below_drewN (hbl.alloc hbl.size _) _, all_snoc hall.out fin.out⟩
           case measure => simp [intOf]; omega
   · have fin := Lib.hid (vLines_end (n := n) (l := l) fun j hj => hall.out j (by omega))
     go_wp2
     go_ret
     exact ⟨by rw [fin.out]; rfl, hbl⟩
set_option maxHeartbeats 8000000 in
theorem specCart_in (so : Option Addr) (n cap0 : Nat) (l : List (Int × Int)) (v : Value) (w : World) (hv : Rd w 2 v l.length (pr l)) (hn : n ≤ 9223372036854775807) :
   Calls Tryz.prog 90 #[.slice so n cap0, v] w fun e w' => e = .returned (.bool (vLines (n : Int) l)) ∧ Below w.heap.size w w' := by
 have hm := hv.len
 unfold maxLen at hm
 obtain ⟨ao, cap, rfl, hl, hc, hr⟩ := hv.pairs
 have HR := Lib.hid hr
 clear hr hv hl hc
 have hw0 : IntKind.i64.wrap ((n : Int) - 1) = (n : Int) - 1 := IntWalk.i64_in _ (by omega)
 go_enter Tryz.func90, Tryz.ntmps90
 go_wp2
 go_loopw [5] (fun i wr => ∃ k : Nat, k ≤ l.length ∧ i = .int .i64 k ∧ Below w.heap.size w wr ∧ Hid (∀ j, j < k → lnOk (n : Int) l j = true)) (fun i _ => l.length - (intOf i).toNat)
 case atStart => exact ⟨0, Nat.zero_le _, rfl, Below.refl _ _, fun j hj => absurd hj (Nat.not_lt_zero _)⟩
 case round =>
   obtain ⟨k, hk, rfl, hbl, hall⟩ := hrel
   by_cases hlt : k < l.length
   · obtain ⟨b, off, rfl, hb, hcell⟩ := HR.out (by omega)
     have HC := Lib.hid hcell
     clear hcell
     have h0 := (hbl.cell (p := ⟨b, off + k*2, none⟩) hb).trans (HC.out k hlt).1
     have h1 := (hbl.cell (p := ⟨b, off + k*2+1, none⟩) hb).trans (HC.out k hlt).2
     have hbw : b < wr.heap.size := Nat.lt_of_lt_of_le hb hbl.size
     cases hA : wi (pA l k) 0 ((n : Int) - 1)
     · have fin := Lib.hid (vLines_bad (n := (n : Int)) hlt (lnOk_a hA))
       go_wp2
       go_quiet ((go_at_call 54; exact Calls.quiet_of_same (inRange_any _ _ _ _)))
       go_wp2
       go_ret
       exact ⟨by rw [fin.out]; rfl, below_drewN hbl _⟩
     · cases hB : wi (pB l k) 1 20
       · have fin := Lib.hid (vLines_bad (n := (n : Int)) hlt (lnOk_b hB))
         go_wp2
         go_quiet ((go_at_call 54; exact Calls.quiet_of_same (inRange_any _ _ _ _)))
         go_wp2
         go_ret
         exact ⟨by rw [fin.out]; rfl, below_drewN hbl _⟩
       · by_cases hz : 0 < k
         · obtain ⟨j, rfl⟩ : ∃ j, k = j + 1 := ⟨k - 1, by omega⟩
           have g0 := (hbl.cell (p := ⟨b, off + j*2, none⟩) hb).trans (HC.out j (by omega)).1
           have hw : IntKind.i64.wrap (j : Int) = (j : Int) := IntWalk.i64_in _ (by omega)
           have hj : j < l.length := by omega
           by_cases hD : (pA l (j + 1)) ≤ (pA l j)
           · have fin := Lib.hid (vLines_bad (n := (n : Int)) hlt (lnOk_c hD))
             go_wp2
             go_quiet ((go_at_call 54; exact Calls.quiet_of_same (inRange_any _ _ _ _)))
             go_wp2
             go_ret
             exact ⟨by rw [fin.out]; rfl, below_drewN hbl _⟩
           · have fin := Lib.hid (lnOk_s hA hB hD)
             go_wp2
             go_quiet ((go_at_call 54; exact Calls.quiet_of_same (inRange_any _ _ _ _)))
             go_wp2
             go_roundw
             case rel => exact ⟨j+1+1, by omega, by go_num, below_drewN hbl _, all_snoc hall.out fin.out⟩
             case measure => simp [intOf]; omega
         · have fin := Lib.hid (lnOk_0 hz hA hB)
           go_wp2
           go_quiet ((go_at_call 54; exact Calls.quiet_of_same (inRange_any _ _ _ _)))
           go_wp2
           go_roundw
           case rel => exact ⟨k+1, by omega, by go_num, below_drewN hbl _, all_snoc hall.out fin.out⟩
           case measure => simp [intOf]; omega
   · have fin := Lib.hid (vLines_end (n := (n : Int)) (l := l) fun j hj => hall.out j (by omega))
     go_wp2
     go_ret
     exact ⟨by rw [fin.out]; rfl, hbl⟩
set_option maxHeartbeats 1000000 in
theorem implCart_any (s : List Art) (u : Value) (l : List (Int × Int)) (v : Value) (w : World) (hs : Rd w 4 u s.length (ar s)) (hv : Rd w 2 v l.length (pr l)) :
   Calls Tryz.prog 61 #[u, v] w fun e w' => e = .returned (.bool (vCart s l)) ∧ Below w.heap.size w w' := by
 have HV := Lib.hid hv
 have HS := Lib.hid hs
 have hm := hs.len
 unfold maxLen at hm
 obtain ⟨ao, cap, rfl, _⟩ := hs.arts
 clear hv hs
 cases hp : vShop s
 · have fin := Lib.hid (vCart_s (c := l) hp)
   go_enter Tryz.func61, Tryz.ntmps61
   go_wp2_with (go_at_call 99; refine (implShop_any s _ _ HS.out).mono ?_; rintro e w1 ⟨rfl, hb1⟩)
   go_ret
   exact ⟨by rw [fin.out]; rfl, hb1⟩
 · have fin : Hid (vCart s l = vLines s.length l) := by rw [Hid, vCart, hp, Bool.true_and]
   go_enter Tryz.func61, Tryz.ntmps61
   go_wp2_with (first | (go_at_call 99; refine (implShop_any s _ _ HS.out).mono ?_; rintro e w1 ⟨rfl, hb1⟩) | (go_at_call 100; refine (linesOk_any _ l _ _ (HV.out.below hb1 (Nat.le_refl _)) (by omega) (by omega)).mono ?_; rintro e w2 ⟨rfl, hb2⟩))
   go_ret
   exact ⟨by rw [fin.out]; rfl, hb1.trans (hb2.mono hb1.size)⟩
end Go.Proofs.YtijofgaekmahkaaGreatDoor
