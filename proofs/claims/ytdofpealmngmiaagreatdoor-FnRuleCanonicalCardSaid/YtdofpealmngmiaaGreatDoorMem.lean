/- Small laws on memory: a slice that reads as a list of cells, blocks that stay. Conditions: none. -/
import Derived.WalkKit
import Derived.WalkSpells
import Derived.WalkLawsBesides
import Derived.WalkSmall
import Derived.Lib.Hide
import Derived.Deep.Slices
namespace Go.Proofs.YtdofpealmngmiaaGreatDoor
open Go.RowKit

/-- The slice value v has n elements of sz cells each, and these cells hold xs. -/
def Rd (w : World) (sz : Nat) (v : Value) (n : Nat) (xs : List Value) : Prop :=
  xs.length = n * sz ∧ ∃ ao cap, v = .slice ao n cap ∧ n ≤ cap ∧ cap ≤ maxLen ∧
    (0 < n → ∃ b off, ao = some ⟨b, off, none⟩ ∧ b < w.heap.size ∧ ∀ j u, xs[j]? = some u → w.cell? ⟨b, off + j, none⟩ = some u)

theorem Rd.len {w : World} {sz n : Nat} {v : Value} {xs : List Value} (h : Rd w sz v n xs) : n ≤ maxLen := by
  obtain ⟨_, ao, cap, _, h1, h2, _⟩ := h
  omega

theorem Rd.of_owns {w : World} {base e sz n : Nat} {v : Value} {xs : List Value} (h : w.ownsRow base e sz v n xs) : Rd w sz v n xs := by
  obtain ⟨h1, h2⟩ := h
  refine ⟨h1, ?_⟩
  rcases h2 with ⟨rfl, rfl⟩ | ⟨g, cap, cur, rfl, hb, hg, hn, hc, hs, ht⟩
  · exact ⟨none, 0, rfl, Nat.le_refl _, Nat.zero_le _, fun h => absurd h (Nat.lt_irrefl _)⟩
  · refine ⟨_, cap, rfl, hn, hc, fun _ => ⟨g, 0, rfl, (Array.getElem?_eq_some_iff.1 hg).1, fun j u hu => ?_⟩⟩
    rw [Nat.zero_add, cell_of_row w g j cur e (0, 0) hg]
    rw [← ht, List.getElem?_take] at hu
    split at hu
    · simpa using hu
    · cases hu

theorem Rd.below {w w' : World} {B sz n : Nat} {v : Value} {xs : List Value} (h : Rd w sz v n xs) (hb : Below B w w') (hB : w.heap.size ≤ B) : Rd w' sz v n xs := by
  obtain ⟨h1, ao, cap, h2, h3, h4, h5⟩ := h
  refine ⟨h1, ao, cap, h2, h3, h4, fun hn => ?_⟩
  obtain ⟨b, off, rfl, hlt, hc⟩ := h5 hn
  refine ⟨b, off, rfl, Nat.lt_of_lt_of_le hlt hb.size, fun j u hu => ?_⟩
  exact (hb.cell (p := ⟨b, off + j, none⟩) (Nat.lt_of_lt_of_le hlt hB)).trans (hc j u hu)

/-- Everything but block R, and what is new, is as it was. -/
theorem grownBy_trans {a b c : World} {row : Option Nat} (h : a.grownBy b row) (k : b.grownBy c row) : a.grownBy c row :=
  ⟨k.os.trans h.os, k.tape.trans h.tape, k.output.trans h.output, Nat.le_trans h.size k.size,
    fun i hi hr => (k.block i (Nat.lt_of_lt_of_le hi h.size) hr).trans (h.block i hi hr)⟩

theorem grownBy_of_below {a b : World} {row : Option Nat} (h : Below a.heap.size a b) : a.grownBy b row :=
  ⟨h.os, h.tape, h.output, h.size, fun i hi _ => h.block i hi⟩

theorem below_of_grownBy {a b : World} (h : a.grownBy b none) : Below a.heap.size a b :=
  ⟨h.os, h.tape, h.output, h.size, fun i hi => h.block i hi (by simp)⟩

/-- What is new since w0 may be written: grownBy over w0 goes on. -/
theorem grownBy_new {a b c : World} {row row' : Option Nat} (h : a.grownBy b row) (k : b.grownBy c row') (hr : ∀ g, row' = some g → a.heap.size ≤ g) : a.grownBy c row :=
  ⟨k.os.trans h.os, k.tape.trans h.tape, k.output.trans h.output, Nat.le_trans h.size k.size,
    fun i hi hri => (k.block i (Nat.lt_of_lt_of_le hi h.size) (fun e => by have := hr i e.symm; omega)).trans (h.block i hi hri)⟩

theorem grownBy_drewN {a b : World} {row : Option Nat} (h : a.grownBy b row) (n : Nat) : a.grownBy (b.drewN n) row :=
  ⟨h.os, h.tape, h.output, h.size, h.block⟩

theorem ownsRow_below {w w' : World} {base e sz n B : Nat} {v : Value} {xs : List Value} (h : w.ownsRow base e sz v n xs) (hb : Below B w w') (hB : w.heap.size ≤ B) : w'.ownsRow base e sz v n xs := by
  refine ⟨h.1, ?_⟩
  rcases h.2 with hn | ⟨g, cap, cur, rfl, hbs, hgg, rest⟩
  · exact .inl hn
  · refine .inr ⟨g, cap, cur, rfl, hbs, ?_, rest⟩
    rw [hb.block g (Nat.lt_of_lt_of_le (Array.getElem?_eq_some_iff.1 hgg).1 hB)]
    exact hgg

theorem ownsRow_drewN {w : World} {base e sz n : Nat} {v : Value} {xs : List Value} (h : w.ownsRow base e sz v n xs) (m : Nat) : (w.drewN m).ownsRow base e sz v n xs := h

theorem ret_b {x y : Bool} (h : x = y) : Ending.returned (.bool x) = .returned (.bool y) := by rw [h]
theorem ret_i {x y : Int} (h : x = y) : Ending.returned (.int .i64 x) = .returned (.int .i64 y) := by rw [h]

/-! ### Lists as cells -/
/-- A number as a cell. -/
def ic (x : Int) : Value := .int .i64 x
/-- Numbers as cells. -/
def it (l : List Int) : List Value := l.map (Value.int .i64)
/-- Pairs of numbers as cells. -/
def pr (l : List (Int × Int)) : List Value := l.flatMap fun p => [Value.int .i64 p.1, Value.int .i64 p.2]

/-- the first, the second number of the pair at place k -/
def pA (l : List (Int × Int)) (k : Nat) : Int := (l.getD k (0, 0)).1
def pB (l : List (Int × Int)) (k : Nat) : Int := (l.getD k (0, 0)).2
/-- the number at place k -/
def iG (l : List Int) (k : Nat) : Int := l.getD k 0

theorem pr_len (l : List (Int × Int)) : (pr l).length = l.length * 2 := by
  induction l with
  | nil => rfl
  | cons a l ih => simp only [pr, List.flatMap_cons, List.length_append, List.length_cons, List.length_nil] at *; omega

theorem pr_append (l m : List (Int × Int)) : pr (l ++ m) = pr l ++ pr m := by simp [pr, List.flatMap_append]

theorem pr_get (l : List (Int × Int)) (k : Nat) (hk : k < l.length) :
    (pr l)[k * 2]? = some (.int .i64 (pA l k)) ∧ (pr l)[k * 2 + 1]? = some (.int .i64 (pB l k)) := by
  induction l generalizing k with
  | nil => simp at hk
  | cons a l ih =>
    have hc : pr (a :: l) = Value.int .i64 a.1 :: Value.int .i64 a.2 :: pr l := by simp [pr]
    rw [hc]
    match k, hk with
    | 0, _ => simp [pA, pB]
    | k + 1, hk =>
      have := ih k (by simpa using hk)
      simpa [Nat.add_mul, pA, pB] using this

theorem it_len (l : List Int) : (it l).length = l.length * 1 := by simp [it]
theorem it_get (l : List Int) (k : Nat) (hk : k < l.length) : (it l)[k]? = some (.int .i64 (iG l k)) := by simp [it, iG, hk]

theorem pr_take (l : List (Int × Int)) (k : Nat) : pr (l.take k) = (pr l).take (k * 2) := by
  induction l generalizing k with
  | nil => simp [pr]
  | cons a l ih =>
    cases k with
    | zero => simp [pr]
    | succ k =>
      have hc : ∀ (p : Int × Int) m, pr (p :: m) = Value.int .i64 p.1 :: Value.int .i64 p.2 :: pr m := by intro p m; simp [pr]
      rw [List.take_succ_cons, hc, hc, ih, show (k + 1) * 2 = k * 2 + 1 + 1 by omega, List.take_succ_cons, List.take_succ_cons]

theorem pr_drop (l : List (Int × Int)) (k : Nat) : pr (l.drop k) = (pr l).drop (k * 2) := by
  induction l generalizing k with
  | nil => simp [pr]
  | cons a l ih =>
    cases k with
    | zero => simp
    | succ k =>
      have hc : ∀ (p : Int × Int) m, pr (p :: m) = Value.int .i64 p.1 :: Value.int .i64 p.2 :: pr m := by intro p m; simp [pr]
      rw [List.drop_succ_cons, hc, ih, show (k + 1) * 2 = k * 2 + 1 + 1 by omega, List.drop_succ_cons, List.drop_succ_cons]

/-- The first k elements. -/
theorem Rd.take {w : World} {sz n cap : Nat} {ao : Option Addr} {xs : List Value} (h : Rd w sz (.slice ao n cap) n xs) {k : Nat} (hk : k ≤ n) : Rd w sz (.slice ao k cap) k (xs.take (k * sz)) := by
  obtain ⟨h1, ao', cap', h2, h3, h4, h5⟩ := h
  simp only [Value.slice.injEq, true_and] at h2
  obtain ⟨rfl, rfl⟩ := h2
  refine ⟨by rw [List.length_take, h1]; exact Nat.min_eq_left (Nat.mul_le_mul_right _ hk), ao, cap, rfl, by omega, h4, fun hn => ?_⟩
  obtain ⟨b, off, e, hlt, hc⟩ := h5 (by omega)
  refine ⟨b, off, e, hlt, fun j u hu => hc j u ?_⟩
  rw [List.getElem?_take] at hu
  split at hu
  · exact hu
  · cases hu

/-- The elements from k on; the address is looked at only where there are some. -/
theorem Rd.drop {w : World} {sz n cap : Nat} {b off : Nat} {xs : List Value} (h : Rd w sz (.slice (some ⟨b, off, none⟩) n cap) n xs) {k : Nat} (hk : k ≤ n) {ao : Option Addr} (ha : k < n → ao = some ⟨b, off + k * sz, none⟩) :
    Rd w sz (.slice ao (n - k) (cap - k)) (n - k) (xs.drop (k * sz)) := by
  obtain ⟨h1, ao', cap', h2, h3, h4, h5⟩ := h
  simp only [Value.slice.injEq, true_and] at h2
  obtain ⟨rfl, rfl⟩ := h2
  refine ⟨by rw [List.length_drop, h1, Nat.sub_mul], ao, cap - k, rfl, by omega, by omega, fun hn => ?_⟩
  obtain ⟨b', off', e, hlt, hc⟩ := h5 (by omega)
  simp only [Option.some.injEq, Addr.mk.injEq, and_true] at e
  obtain ⟨rfl, rfl⟩ := e
  refine ⟨b, off + k * sz, ha (by omega), hlt, fun j u hu => ?_⟩
  rw [List.getElem?_drop] at hu
  have := hc _ u hu
  rw [← Nat.add_assoc] at this
  exact this

/-- A slice of pairs, opened. -/
theorem Rd.pairs {w : World} {v : Value} {l : List (Int × Int)} (h : Rd w 2 v l.length (pr l)) :
    ∃ ao cap, v = .slice ao l.length cap ∧ l.length ≤ cap ∧ cap ≤ maxLen ∧ (0 < l.length → ∃ b off, ao = some ⟨b, off, none⟩ ∧ b < w.heap.size ∧
      ∀ k, k < l.length → w.cell? ⟨b, off + k * 2, none⟩ = some (.int .i64 (pA l k)) ∧ w.cell? ⟨b, off + k * 2 + 1, none⟩ = some (.int .i64 (pB l k))) := by
  obtain ⟨_, ao, cap, h2, h3, h4, h5⟩ := h
  refine ⟨ao, cap, h2, h3, h4, fun hn => ?_⟩
  obtain ⟨b, off, h6, h7, h8⟩ := h5 hn
  refine ⟨b, off, h6, h7, fun k hk => ?_⟩
  have hg := pr_get l k hk
  exact ⟨h8 _ _ hg.1, h8 _ _ hg.2⟩

/-- A slice of pairs at a known place, opened at one index. -/
theorem Rd.at_pairs {w : World} {b cap : Nat} {l : List (Int × Int)} (h : Rd w 2 (.slice (some ⟨b, 0, none⟩) l.length cap) l.length (pr l)) (k : Nat) (hk : k < l.length) :
    b < w.heap.size ∧ w.cell? ⟨b, k * 2, none⟩ = some (.int .i64 (pA l k)) ∧ w.cell? ⟨b, k * 2 + 1, none⟩ = some (.int .i64 (pB l k)) := by
  obtain ⟨ao, cap', e4, _, _, hr⟩ := h.pairs
  obtain ⟨b', off', e5, hb, hc⟩ := hr (by omega)
  simp only [Value.slice.injEq, true_and] at e4
  obtain ⟨rfl, rfl⟩ := e4
  simp only [Option.some.injEq, Addr.mk.injEq, and_true] at e5
  obtain ⟨rfl, rfl⟩ := e5
  have := hc k hk
  simp only [Nat.zero_add] at this
  exact ⟨hb, this.1, this.2⟩

/-- A slice of numbers, opened. -/
theorem Rd.ints {w : World} {v : Value} {l : List Int} (h : Rd w 1 v l.length (it l)) :
    ∃ ao cap, v = .slice ao l.length cap ∧ l.length ≤ cap ∧ cap ≤ maxLen ∧ (0 < l.length → ∃ b off, ao = some ⟨b, off, none⟩ ∧ b < w.heap.size ∧
      ∀ k, k < l.length → w.cell? ⟨b, off + k, none⟩ = some (.int .i64 (iG l k))) := by
  obtain ⟨_, ao, cap, h2, h3, h4, h5⟩ := h
  refine ⟨ao, cap, h2, h3, h4, fun hn => ?_⟩
  obtain ⟨b, off, h6, h7, h8⟩ := h5 hn
  exact ⟨b, off, h6, h7, fun k hk => h8 _ _ (it_get l k hk)⟩

theorem owns_shape_cap {w : World} {base e sz n : Nat} {v : Value} {xs : List Value} (h : w.ownsRow base e sz v n xs) : ∃ ao cap, v = .slice ao n cap ∧ (n ≤ cap ∧ cap ≤ 9223372036854775807) ∧ (0 < n → ∃ g, ao = some ⟨g, 0, none⟩ ∧ base ≤ g) := by
  rcases h.2 with ⟨rfl, rfl⟩ | ⟨g, cap, cur, rfl, hb, _, hn, hc, _⟩
  · exact ⟨none, 0, rfl, by omega, fun h => absurd h (Nat.lt_irrefl _)⟩
  · exact ⟨_, cap, rfl, ⟨hn, by unfold maxLen at hc; omega⟩, fun _ => ⟨g, rfl, hb⟩⟩

/-- The shape of a slice that is owned. -/
theorem owns_shape {w : World} {base e sz n : Nat} {v : Value} {xs : List Value} (h : w.ownsRow base e sz v n xs) : ∃ ao cap, v = .slice ao n cap ∧ (0 < n → ∃ g, ao = some ⟨g, 0, none⟩ ∧ base ≤ g) := by
  obtain ⟨ao, cap, h1, _, h2⟩ := owns_shape_cap h
  exact ⟨ao, cap, h1, h2⟩

/-- append of one pair to a row of the call's own. -/
theorem app_pair {P : Program} {w : World} {ops : Array Oper} {rest : List Oper} {o : Oper} {a : Act} {Q : Exit → Act → World → Prop} (hgd : o.guard = none) (s x : Operand) (t : TypeId)
    (ho : o.op = .call { callee := .builtin .append, args := #[s, x], argTypes := #[t, t] }) (base : Nat) (e t2 : TypeId) (i : TypeInfo) (z : Value) (ht : P.underlying t = some (.slice e)) (hi : P.info? e = some i) (hz : i.zero = some z)
    (hs : i.size = 2) (hby : i.bytes = 16) (hzs : z.cells.size = 2) (v : Value) (l : List (Int × Int)) (p q : Int) (hv : a.eval s = v) (hown : w.ownsRow base e 2 v l.length (pr l))
    (hx : a.eval x = .slice (some ⟨w.heap.size, 0, none⟩) 1 1) (hlen : l.length ≤ 1099511627776) (hbase : base ≤ w.heap.size)
    (h : ∀ v' w1, w1.ownsRow base e 2 v' (l ++ [(p, q)]).length (pr (l ++ [(p, q)])) → (w.alloc (.cells #[.int .i64 p, .int .i64 q] t2)).grownBy w1 v.ownBlock → wpList P ops Q rest (a.put o.dst v') w1) :
    wpList P ops Q (o :: rest) a (w.alloc (.cells #[.int .i64 p, .int .i64 q] t2)) := by
  refine wpList_append_own _ hgd s x t ho base e i z 2 16 ht hi hz hs hby hzs (by decide) v l.length (pr l) hv (hown.alloc _) ⟨w.heap.size, 0, none⟩ 1 1 [.int .i64 p, .int .i64 q] hx rfl (cell_two_new w _ _ t2) (by
    intro u hu
    rcases List.mem_cons.1 hu with rfl | hu
    · rfl
    · rcases List.mem_cons.1 hu with rfl | hu
      · rfl
      · cases hu) (by unfold maxLen; omega) (by omega) (by simp; omega) ?_
  intro v' w1 h1 h2 _
  refine h v' w1 ?_ h2
  rw [List.length_append, pr_append]
  exact h1

/-- append of one number to a row of the call's own. -/
theorem app_int {P : Program} {w : World} {ops : Array Oper} {rest : List Oper} {o : Oper} {a : Act} {Q : Exit → Act → World → Prop} (hgd : o.guard = none) (s x : Operand) (t : TypeId)
    (ho : o.op = .call { callee := .builtin .append, args := #[s, x], argTypes := #[t, t] }) (base : Nat) (e t2 : TypeId) (i : TypeInfo) (z : Value) (ht : P.underlying t = some (.slice e)) (hi : P.info? e = some i) (hz : i.zero = some z)
    (hs : i.size = 1) (hby : i.bytes = 8) (hzs : z.cells.size = 1) (v : Value) (l : List Int) (p : Int) (hv : a.eval s = v) (hown : w.ownsRow base e 1 v l.length (it l))
    (hx : a.eval x = .slice (some ⟨w.heap.size, 0, none⟩) 1 1) (hlen : l.length ≤ 1099511627776) (hbase : base ≤ w.heap.size)
    (h : ∀ v' w1, w1.ownsRow base e 1 v' (l ++ [p]).length (it (l ++ [p])) → (w.alloc (.cells #[.int .i64 p] t2)).grownBy w1 v.ownBlock → wpList P ops Q rest (a.put o.dst v') w1) :
    wpList P ops Q (o :: rest) a (w.alloc (.cells #[.int .i64 p] t2)) := by
  refine wpList_append_own _ hgd s x t ho base e i z 1 8 ht hi hz hs hby hzs (by decide) v l.length (it l) hv (hown.alloc _) ⟨w.heap.size, 0, none⟩ 1 1 [.int .i64 p] hx rfl (cell_one_new _ _ _) (by
    intro u hu
    rcases List.mem_cons.1 hu with rfl | hu
    · rfl
    · cases hu) (by unfold maxLen; omega) (by omega) (by simp; omega) ?_
  intro v' w1 h1 h2 _
  refine h v' w1 ?_ h2
  rw [List.length_append]
  simpa [it] using h1

/-! ### Filling a new slice place by place -/
theorem pr_set (m : List (Int × Int)) (k : Nat) (a b : Int) : ((pr m).set (k * 2) (.int .i64 a)).set (k * 2 + 1) (.int .i64 b) = pr (m.set k (a, b)) := by
  induction m generalizing k with
  | nil => simp [pr]
  | cons p m ih =>
    have hc : ∀ (p : Int × Int) m, pr (p :: m) = Value.int .i64 p.1 :: Value.int .i64 p.2 :: pr m := by intro p m; simp [pr]
    match k with
    | 0 => simp [hc]
    | k + 1 =>
      rw [hc, show (k + 1) * 2 = k * 2 + 1 + 1 by omega]
      simp only [List.set_cons_succ]
      rw [hc, ih k]

theorem it_set (m : List Int) (k : Nat) (a : Int) : (it m).set k (.int .i64 a) = it (m.set k a) := by simp [it, List.map_set]

/-- the first k of l, then zero values -/
def fillP (l : List (Int × Int)) (k : Nat) : List (Int × Int) := l.take k ++ List.replicate (l.length - k) (0, 0)
def fillI (l : List Int) (k : Nat) : List Int := l.take k ++ List.replicate (l.length - k) 0

theorem fill_succ {α : Type} (l : List α) (z : α) (k : Nat) (hk : k < l.length) : (l.take k ++ List.replicate (l.length - k) z).set k (l.getD k z) = l.take (k + 1) ++ List.replicate (l.length - (k + 1)) z := by
  have h1 : (l.take k).length = k := by rw [List.length_take]; omega
  rw [List.set_append_right _ _ (by omega), h1, Nat.sub_self, show l.length - k = (l.length - (k + 1)) + 1 by omega, List.replicate_succ, List.set_cons_zero, List.take_succ_eq_append_getElem hk, List.append_assoc,
    show l.getD k z = l[k] by simp [List.getD, hk]]
  rfl

theorem fillP_len (l : List (Int × Int)) (k : Nat) (hk : k ≤ l.length) : (fillP l k).length = l.length := by simp [fillP]; omega
theorem fillP_zero (l : List (Int × Int)) : fillP l 0 = List.replicate l.length (0, 0) := by simp [fillP]
theorem fillP_succ (l : List (Int × Int)) (k : Nat) (hk : k < l.length) : (fillP l k).set k (pA l k, pB l k) = fillP l (k + 1) := fill_succ l (0, 0) k hk
theorem fillP_end (l : List (Int × Int)) : fillP l l.length = l := by simp [fillP]
theorem fillI_len (l : List Int) (k : Nat) (hk : k ≤ l.length) : (fillI l k).length = l.length := by simp [fillI]; omega
theorem fillI_zero (l : List Int) : fillI l 0 = List.replicate l.length 0 := by simp [fillI]
theorem fillI_succ (l : List Int) (k : Nat) (hk : k < l.length) : (fillI l k).set k (iG l k) = fillI l (k + 1) := fill_succ l 0 k hk
theorem fillI_end (l : List Int) : fillI l l.length = l := by simp [fillI]

theorem made_pr (n : Nat) : (madeCells #[Value.int .i64 0, Value.int .i64 0] (n * 2)).toList = pr (List.replicate n (0, 0)) := by
  apply List.ext_getElem?
  intro j
  by_cases hj : j < n * 2
  · have hk : j / 2 < (List.replicate n ((0 : Int), (0 : Int))).length := by rw [List.length_replicate]; omega
    have hg := pr_get (List.replicate n (0, 0)) (j / 2) hk
    have hA : pA (List.replicate n (0, 0)) (j / 2) = 0 := by rw [List.length_replicate] at hk; simp [pA, List.getD, hk]
    have hB : pB (List.replicate n (0, 0)) (j / 2) = 0 := by rw [List.length_replicate] at hk; simp [pB, List.getD, hk]
    rw [hA, hB] at hg
    rcases Nat.mod_two_eq_zero_or_one j with h | h
    · rw [show j / 2 * 2 = j by omega] at hg
      rw [hg.1]; simp [madeCells, hj, h]
    · rw [show j / 2 * 2 + 1 = j by omega] at hg
      rw [hg.2]; simp [madeCells, hj, h]
  · rw [List.getElem?_eq_none (by simp [madeCells]; omega), List.getElem?_eq_none (by rw [pr_len, List.length_replicate]; omega)]

/-- Two stores into a row of pairs. -/
theorem owns_set2 {w : World} {base e g n cap : Nat} {m : List (Int × Int)} (h : w.ownsRow base e 2 (.slice (some ⟨g, 0, none⟩) n cap) n (pr m)) (k : Nat) (a b : Int) :
    ((w.setCell ⟨g, k * 2, none⟩ (.int .i64 a)).setCell ⟨g, k * 2 + 1, none⟩ (.int .i64 b)).ownsRow base e 2 (.slice (some ⟨g, 0, none⟩) n cap) n (pr (m.set k (a, b))) := by
  rw [← pr_set]
  exact ((h.stored _ _).1.stored _ _).1

/-- What a store to a pair of an owned row asks. -/
theorem owns_at2 {w : World} {base e g n cap : Nat} {m : List (Int × Int)} (h : w.ownsRow base e 2 (.slice (some ⟨g, 0, none⟩) n cap) n (pr m)) (k : Nat) (hk : k < n) :
    w.cell? ⟨g, k * 2, none⟩ = some (.int .i64 (pA m k)) ∧ w.cell? ⟨g, k * 2 + 1, none⟩ = some (.int .i64 (pB m k)) ∧ w.frozen? ⟨g, k * 2, none⟩ = false ∧ w.frozen? ⟨g, k * 2 + 1, none⟩ = false := by
  have hl : m.length = n := by have := h.1; rw [pr_len] at this; omega
  have hg := pr_get m k (by omega)
  exact ⟨(h.cellAt (k * 2) (by omega)).trans hg.1, (h.cellAt (k * 2 + 1) (by omega)).trans hg.2, h.frozenAt _, h.frozenAt _⟩

theorem pair_ext {l m : List (Int × Int)} (h : l.length = m.length) (hj : ∀ j, j < l.length → (pA l j, pB l j) = (pA m j, pB m j)) : l = m := by
  apply List.ext_getElem h
  intro i h1 h2
  have := hj i h1
  simp only [pA, pB, List.getD, List.getElem?_eq_getElem h1, List.getElem?_eq_getElem h2, Option.getD_some] at this
  exact this

/-- what is left of a size -/
def szL (left n : Int) : Int := if left < n then -1 else left - n

/-- two pairs are one -/
def eqP (a b c d : Int) : Bool := decide (a = c) && decide (b = d)

theorem bne_t {a b : Int} (h : (a != b) = true) : a ≠ b := by simpa using h
theorem bne_f {a b : Int} (h : (a != b) = false) : a = b := by simpa using h

end Go.Proofs.YtdofpealmngmiaaGreatDoor
