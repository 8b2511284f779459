/- Walks: a text cut into words by the program. Conditions: none. -/
import Derived.Test.YtdofpealmngmiaaGreatDoorPI
import Derived.Deep.Cut
import Derived.Lib.SplitLaws
namespace Go.Proofs.YtdofpealmngmiaaGreatDoor
open Go.RowKit

theorem split_any (T : List UInt8) (W : World) (hE : EnvP W) (hl : T.length ≤ 1000000000) :
    Calls Tryz.prog 15 #[.string ⟨T.toArray⟩, .string ⟨#[32]⟩] W fun e w' => e = .returned (.slice (some ⟨W.heap.size, 0, none⟩) (wordsOf T).length (wordsOf T).length) ∧
      (∀ j x, (wordsOf T)[j]? = some x → w'.cell? ⟨W.heap.size, j, none⟩ = some (.string ⟨x.toArray⟩)) ∧ W.heap.size < w'.heap.size ∧ Below W.heap.size W w' := by
  obtain ⟨m, hm⟩ := hE.max
  refine (Tryz.strings_Split ⟨T.toArray⟩ ⟨#[32]⟩ m W (by simp [ByteArray.size]; omega) hm (by decide)).mono ?_
  rintro e w' ⟨rfl, rfl⟩
  have hd : (Lib.splitB ⟨#[32]⟩ 0 (Lib.countB ⟨T.toArray⟩ ⟨#[32]⟩) ⟨T.toArray⟩).map (·.data.toList) = wordsOf T := by
    rw [Lib.splitB_data]
    show Lib.splitK [32] 0 (Lib.count (T.toArray.toList) [32]) (T.toArray.toList) = Lib.splitK [32] 0 (Lib.count T [32]) T
    simp
  have hlen : Lib.countB ⟨T.toArray⟩ ⟨#[32]⟩ + 1 = (wordsOf T).length := by
    rw [← hd, List.length_map]
    exact (Lib.splitB_all ⟨#[32]⟩ (by decide) 0 _ ⟨T.toArray⟩ rfl).symm
  refine ⟨by rw [hlen], fun j x hj => ?_, by simp, (Below.refl _ _).alloc (Nat.le_refl _) _⟩
  rw [cell_of_row _ _ j _ _ _ (heap_alloc_new W _), List.getElem?_toArray, List.getElem?_map]
  rw [← hd, List.getElem?_map] at hj
  cases hy : (Lib.splitB ⟨#[32]⟩ 0 (Lib.countB ⟨T.toArray⟩ ⟨#[32]⟩) ⟨T.toArray⟩)[j]? with
  | none => rw [hy] at hj; cases hj
  | some y =>
    rw [hy] at hj
    simp only [Option.map_some, Option.some.injEq] at hj
    subst hj
    simp

theorem splitK_count (sep : List UInt8) : ∀ (k : Nat) (s : List UInt8), (Lib.splitK sep 0 k s).length ≤ k + 1
  | 0, _ => by simp [Lib.splitK]
  | k + 1, s => by
    unfold Lib.splitK
    split
    · simp
    · have := splitK_count sep k (s.drop ((Lib.index s sep).toNat + sep.length))
      simp only [List.length_cons]
      omega
theorem words_count (T : List UInt8) : (wordsOf T).length ≤ T.length + 1 := by
  have h1 := splitK_count [32] (Lib.count T [32]) T
  have h2 := Lib.countB_le ⟨#[32]⟩ (by decide) T.length ⟨T.toArray⟩ (by simp [ByteArray.size])
  have h3 : Lib.countB ⟨T.toArray⟩ ⟨#[32]⟩ = Lib.count T [32] := by
    show Lib.count (T.toArray.toList) [32] = _
    simp
  have h4 : (⟨T.toArray⟩ : ByteArray).size = T.length := by simp [ByteArray.size]
  unfold wordsOf Lib.split
  omega

/-- What a reading of a text ends in. -/
def Parsed (T : List UInt8) (w : World) (e : Ending) (w' : World) : Prop :=
  ((∃ (r : Rl) (v : Value), okRu r = true ∧ textR r = T ∧ (∀ r0, okRu r0 = true → textR r0 = T → r0 = r) ∧ e = .returned (.tuple #[ruV r v, .bool true]) ∧ w'.ownsRow w.heap.size 25 2 v r.counts.length (pr r.counts)) ∨
    ((∀ r0, okRu r0 = true → textR r0 ≠ T) ∧ e = .returned (.tuple #[.agg #[.int .i64 0, .int .i64 0, .int .i64 0, .int .i64 0, .int .i64 0, .int .i64 0, .int .i64 0, .int .i64 0, .int .i64 0, .slice none 0 0, .int .i64 0], .bool false]))) ∧ Below w.heap.size w w'

/-- the rule as the reading begins -/
def r00 : Rl := ⟨0, 0, 0, -1, 0, 0, 0, 0, 1000000, all3, 0⟩

/-- the start: the scanner, the counts, the rule behind a world with the words -/
theorem At.start {w w1 : World} {T : List UInt8} {bk : Nat} (h0 : w1.heap[w.heap.size]? = some (.cells #[.int .i64 0, .int .i64 0, .int .i64 0, .int .i64 0, .int .i64 0, .int .i64 0, .int .i64 0, .int .i64 0, .int .i64 0, .slice none 0 0, .int .i64 0] 30 (0, 0))) (hb : bk < w1.heap.size) (hc : ∀ j x, (wordsOf T)[j]? = some x → w1.cell? ⟨bk, j, none⟩ = some (.string ⟨x.toArray⟩))
    (hE : EnvB w.heap.size w1) (hB : Below w.heap.size w w1) (hl : T.length ≤ 1000000000) (hz : (wordsOf T).length ≤ maxLen) :
    At w w1.heap.size (w1.heap.size + 1) (w1.heap.size + 1 + 1) r00 (wordsOf T) false (((w1.alloc (.cells #[.slice (some ⟨bk, 0, none⟩) (wordsOf T).length (wordsOf T).length, .bool false] 46)).alloc (.cells #[.int .i64 0, .int .i64 1000000, .int .i64 0, .int .i64 1000000, .int .i64 0, .int .i64 1000000] 25)).alloc (.cells #[.int .i64 0, .int .i64 0, .int .i64 0, .int .i64 (-1), .int .i64 0, .int .i64 0, .int .i64 0, .int .i64 0, .int .i64 1000000, .slice (some ⟨w1.heap.size + 1, 0, none⟩) 3 3, .int .i64 0] 30)) := by
  obtain ⟨e0, e1, e2, z3, b3⟩ := three_blocks w1 (.cells #[.slice (some ⟨bk, 0, none⟩) (wordsOf T).length (wordsOf T).length, .bool false] 46) (.cells #[.int .i64 0, .int .i64 1000000, .int .i64 0, .int .i64 1000000, .int .i64 0, .int .i64 1000000] 25) (.cells #[.int .i64 0, .int .i64 0, .int .i64 0, .int .i64 (-1), .int .i64 0, .int .i64 0, .int .i64 0, .int .i64 0, .int .i64 1000000, .slice (some ⟨w1.heap.size + 1, 0, none⟩) 3 3, .int .i64 0] 30)
  have hlt := (Array.getElem?_eq_some_iff.1 h0).1
  exact ⟨⟨hlt, by omega, by omega⟩, (b3.block _ hlt).trans h0, e2, ⟨_, _, _, _, _, _, rfl, e1⟩, ⟨bk, 0, (wordsOf T).length, e0, hb, Nat.le_refl _, hz, fun j x hj => by rw [Nat.zero_add]; exact (b3.cell (p := ⟨bk, j, none⟩) hb).trans (hc j x hj)⟩,
    hE.below b3, hB.trans (b3.mono hB.size), fun x hx => Nat.le_trans (words_len T x hx) hl⟩

end Go.Proofs.YtdofpealmngmiaaGreatDoor
