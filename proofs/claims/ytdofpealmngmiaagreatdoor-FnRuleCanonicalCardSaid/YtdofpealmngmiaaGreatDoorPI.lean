/- What the reading of a rule keeps in memory. Conditions: none. -/
import Derived.Test.YtdofpealmngmiaaGreatDoorSN
import Derived.Test.YtdofpealmngmiaaGreatDoorPH
import Derived.Test.YtdofpealmngmiaaGreatDoorRSX
import Derived.Test.YtdofpealmngmiaaGreatDoorRH
import Derived.Test.YtdofpealmngmiaaGreatDoorRU
namespace Go.Proofs.YtdofpealmngmiaaGreatDoor
open Go.RowKit

/-- In block b a rule of the call's own, its counts in block g, a scanner in block S, in the first new block the result's box. -/
structure At (w : World) (S g b : Nat) (r : Rl) (ws : List (List UInt8)) (bad : Bool) (W : World) : Prop where
  ord : w.heap.size < S ∧ S < g ∧ g < b
  K : W.heap[w.heap.size]? = some (.cells #[.int .i64 0, .int .i64 0, .int .i64 0, .int .i64 0, .int .i64 0, .int .i64 0, .int .i64 0, .int .i64 0, .int .i64 0, .slice none 0 0, .int .i64 0] 30 (0, 0))
  G : W.heap[b]? = some (.cells #[.int .i64 r.num, .int .i64 r.lvl, .int .i64 r.rank, .int .i64 r.group, .int .i64 r.kind, .int .i64 r.value, .int .i64 r.cap, .int .i64 r.lo, .int .i64 r.hi, .slice (some ⟨g, 0, none⟩) 3 3, .int .i64 r.coupon] 30 (0, 0))
  F : ∃ a0 b0 a1 b1 a2 b2 : Int, r.counts = [(a0, b0), (a1, b1), (a2, b2)] ∧ W.heap[g]? = some (.cells #[.int .i64 a0, .int .i64 b0, .int .i64 a1, .int .i64 b1, .int .i64 a2, .int .i64 b2] 25 (0, 0))
  sc : Sc W S ws bad
  env : EnvB w.heap.size W
  bel : Below w.heap.size w W
  sh : Sh ws

theorem At.step {w W W' : World} {S g b : Nat} {r : Rl} {ws ws' : List (List UInt8)} {bad bad' : Bool} (A : At w S g b r ws bad W) (st : ScStep W S ws' bad' W') (sh : Sh ws') : At w S g b r ws' bad' W' := by
  obtain ⟨o1, o2, o3⟩ := A.ord
  obtain ⟨a0, b0, a1, b1, a2, b2, h1, h2⟩ := A.F
  exact ⟨A.ord, st.row A.K (by omega), st.row A.G (by omega), ⟨a0, b0, a1, b1, a2, b2, h1, st.row h2 (by omega)⟩, st.sc, A.env.grown st.grown (by omega), A.bel.grown st.grown A.bel.size (fun k hk => by simp only [Option.some.injEq] at hk; omega), sh⟩

theorem grown_set (W : World) (k i : Nat) (v : Value) : W.grownBy (W.setCell ⟨k, i, none⟩ v) (some k) :=
  ⟨rfl, rfl, rfl, by simp [World.setCell], fun j _ hj => heap_setCell_other W ⟨k, i, none⟩ j _ (fun e => hj (by simp [e]))⟩

/-- a number of the rule is written -/
theorem At.set {w W : World} {S g b : Nat} {r : Rl} {ws : List (List UInt8)} {bad : Bool} (A : At w S g b r ws bad W) (i : Nat) (v : Value) (r : Rl) (hc : ∃ r1 : Rl, At w S g b r1 ws bad W ∧ r.counts = r1.counts)
    (hG : (W.setCell ⟨b, i, none⟩ v).heap[b]? = some (.cells #[.int .i64 r.num, .int .i64 r.lvl, .int .i64 r.rank, .int .i64 r.group, .int .i64 r.kind, .int .i64 r.value, .int .i64 r.cap, .int .i64 r.lo, .int .i64 r.hi, .slice (some ⟨g, 0, none⟩) 3 3, .int .i64 r.coupon] 30 (0, 0))) : At w S g b r ws bad (W.setCell ⟨b, i, none⟩ v) := by
  obtain ⟨r1, B, hc⟩ := hc
  obtain ⟨o1, o2, o3⟩ := A.ord
  obtain ⟨a0, b0, a1, b1, a2, b2, h1, h2⟩ := B.F
  exact ⟨A.ord, heap_set A.K (by omega), hG, ⟨a0, b0, a1, b1, a2, b2, hc.trans h1, heap_set h2 (by omega)⟩, A.sc.grown (grown_set W b i v) (fun k hk => by simp only [Option.some.injEq] at hk; omega),
    A.env.grown (grown_set W b i v) (by omega), A.bel.setCell (p := ⟨b, i, none⟩) (by show _ ≤ b; omega) v, A.sh⟩
theorem At.num {w W : World} {S g b : Nat} {r : Rl} {ws : List (List UInt8)} {bad : Bool} (A : At w S g b r ws bad W) (n : Int) : At w S g b { r with num := n } ws bad (W.setCell ⟨b, 0, none⟩ (.int .i64 n)) :=
  A.set 0 (.int .i64 n) _ ⟨r, A, rfl⟩ (Joins.block_setCell A.G _)
theorem At.lvl {w W : World} {S g b : Nat} {r : Rl} {ws : List (List UInt8)} {bad : Bool} (A : At w S g b r ws bad W) (n : Int) : At w S g b { r with lvl := n } ws bad (W.setCell ⟨b, 1, none⟩ (.int .i64 n)) :=
  A.set 1 (.int .i64 n) _ ⟨r, A, rfl⟩ (Joins.block_setCell A.G _)
theorem At.rank {w W : World} {S g b : Nat} {r : Rl} {ws : List (List UInt8)} {bad : Bool} (A : At w S g b r ws bad W) (n : Int) : At w S g b { r with rank := n } ws bad (W.setCell ⟨b, 2, none⟩ (.int .i64 n)) :=
  A.set 2 (.int .i64 n) _ ⟨r, A, rfl⟩ (Joins.block_setCell A.G _)
theorem At.group {w W : World} {S g b : Nat} {r : Rl} {ws : List (List UInt8)} {bad : Bool} (A : At w S g b r ws bad W) (n : Int) : At w S g b { r with group := n } ws bad (W.setCell ⟨b, 3, none⟩ (.int .i64 n)) :=
  A.set 3 (.int .i64 n) _ ⟨r, A, rfl⟩ (Joins.block_setCell A.G _)
theorem At.kind {w W : World} {S g b : Nat} {r : Rl} {ws : List (List UInt8)} {bad : Bool} (A : At w S g b r ws bad W) (n : Int) : At w S g b { r with kind := n } ws bad (W.setCell ⟨b, 4, none⟩ (.int .i64 n)) :=
  A.set 4 (.int .i64 n) _ ⟨r, A, rfl⟩ (Joins.block_setCell A.G _)
theorem At.value {w W : World} {S g b : Nat} {r : Rl} {ws : List (List UInt8)} {bad : Bool} (A : At w S g b r ws bad W) (n : Int) : At w S g b { r with value := n } ws bad (W.setCell ⟨b, 5, none⟩ (.int .i64 n)) :=
  A.set 5 (.int .i64 n) _ ⟨r, A, rfl⟩ (Joins.block_setCell A.G _)
theorem At.cap {w W : World} {S g b : Nat} {r : Rl} {ws : List (List UInt8)} {bad : Bool} (A : At w S g b r ws bad W) (n : Int) : At w S g b { r with cap := n } ws bad (W.setCell ⟨b, 6, none⟩ (.int .i64 n)) :=
  A.set 6 (.int .i64 n) _ ⟨r, A, rfl⟩ (Joins.block_setCell A.G _)
theorem At.lo {w W : World} {S g b : Nat} {r : Rl} {ws : List (List UInt8)} {bad : Bool} (A : At w S g b r ws bad W) (n : Int) : At w S g b { r with lo := n } ws bad (W.setCell ⟨b, 7, none⟩ (.int .i64 n)) :=
  A.set 7 (.int .i64 n) _ ⟨r, A, rfl⟩ (Joins.block_setCell A.G _)
theorem At.hi {w W : World} {S g b : Nat} {r : Rl} {ws : List (List UInt8)} {bad : Bool} (A : At w S g b r ws bad W) (n : Int) : At w S g b { r with hi := n } ws bad (W.setCell ⟨b, 8, none⟩ (.int .i64 n)) :=
  A.set 8 (.int .i64 n) _ ⟨r, A, rfl⟩ (Joins.block_setCell A.G _)
theorem At.coupon {w W : World} {S g b : Nat} {r : Rl} {ws : List (List UInt8)} {bad : Bool} (A : At w S g b r ws bad W) (n : Int) : At w S g b { r with coupon := n } ws bad (W.setCell ⟨b, 10, none⟩ (.int .i64 n)) :=
  A.set 10 (.int .i64 n) _ ⟨r, A, rfl⟩ (Joins.block_setCell A.G _)
/-- the place of a number -/
theorem At.at {w W : World} {S g b : Nat} {r : Rl} {ws : List (List UInt8)} {bad : Bool} (A : At w S g b r ws bad W) (i : Nat) (u : Value) (h : (#[.int .i64 r.num, .int .i64 r.lvl, .int .i64 r.rank, .int .i64 r.group, .int .i64 r.kind, .int .i64 r.value, .int .i64 r.cap, .int .i64 r.lo, .int .i64 r.hi, .slice (some ⟨g, 0, none⟩) 3 3, .int .i64 r.coupon] : Array Value)[i]? = some u) : W.cell? ⟨b, i, none⟩ = some u ∧ W.frozen? ⟨b, i, none⟩ = false :=
  ⟨(cell_of_row W b i _ _ _ A.G).trans h, frozen_of_row W b i _ _ A.G⟩

/-! ### What is known of the text, step by step -/
theorem isW_eq {y z : List UInt8} (t : List (List UInt8)) : isW (y :: t) z = (y == z) := rfl
theorem isW_not {l : List (List UInt8)} {z : List UInt8} (h : nextNot l z) : isW l z = false := by
  cases l with
  | nil => rfl
  | cons y t => rw [isW_eq, beq_eq_false_iff_ne]; exact h y rfl
theorem num_dec {n : Int} (h0 : 0 ≤ n) (h1 : n ≤ 1000000) : vaI (dec n) = n ∧ okI (dec n) = true := by
  have h := atoiAll_dec h0 (dec_len18 h0 h1)
  unfold vaI okI
  rw [h]
  exact ⟨rfl, rfl⟩
/-- a number is read -/
theorem gh_num {T : List UInt8} {ws : List (List UInt8)} {bad : Bool} {n : Rl → Int} {rest : Rl → List (List UInt8)} {P : Rl → Prop} (h : Gh T (fun r0 => bad = false ∧ ws = dec (n r0) :: rest r0 ∧ P r0)) (hb : ∀ r0, okRu r0 = true → 0 ≤ n r0 ∧ n r0 ≤ 1000000) :
    Gh T (fun r0 => ((bad || ws.isEmpty) || !okI (ws.headD [])) = false ∧ ws.tail = rest r0 ∧ vaI (ws.headD []) = n r0 ∧ P r0) := h.imp fun r0 ok _ ⟨h1, h2, h3⟩ => by
  subst h1 h2
  have := num_dec (hb r0 ok).1 (hb r0 ok).2
  simp only [List.headD_cons, List.isEmpty_cons, List.tail_cons]
  exact ⟨by rw [this.2]; rfl, trivial, this.1, h3⟩

end Go.Proofs.YtdofpealmngmiaaGreatDoor
