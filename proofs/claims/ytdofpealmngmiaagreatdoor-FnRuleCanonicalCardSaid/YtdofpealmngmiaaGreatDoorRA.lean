/- Walks: numbers as text in the reference. Conditions: none. -/
import Derived.Test.YtdofpealmngmiaaGreatDoorRows
import Derived.Test.YtdofpealmngmiaaGreatDoorRuFns
import Derived.WalkKit
import Derived.WalkSpells
import Derived.WalkSmall
import Derived.Lib.Hide
import Derived.Deep.RegionWith
import Derived.Laws.IdiomStrings
namespace Go.Proofs.YtdofpealmngmiaaGreatDoor
open Go.RowKit

/-- One byte as text. -/
theorem conv_one (W : World) (g cap : Nat) (x : UInt8) (h : W.cell? ⟨g, 0, none⟩ = some (.int .u8 (x.toNat : Int))) :
    (convert 22 9 (.slice (some ⟨g, 0, none⟩) 1 cap)).run Tryz.prog W = .ok (.string ⟨[x].toArray⟩) W :=
  run_convert_bytes_back W 22 9 5 ⟨g, 0, none⟩ cap [x] Tryz.underlying22 Tryz.underlying5 Tryz.underlying9 (fun j hj => by
    match j, hj with
    | 0, _ => simpa [Addr.add] using h)

def digit (n : Nat) : UInt8 := UInt8.ofNat (48 + n % 10)
theorem digit_nat (n : Nat) : ((digit n).toNat : Int) = 48 + ((n % 10 : Nat) : Int) := by
  unfold digit
  rw [UInt8.toNat_ofNat']
  omega

theorem dec_small {n : Nat} (h : n < 10) : dec (n : Int) = [digit n] := by
  unfold dec digit
  rw [Int.toNat_natCast, Go.Lib.decDigits, dif_pos h, Nat.mod_eq_of_lt h]
theorem dec_large {n : Nat} (h : ¬ n < 10) : dec (n : Int) = dec ((n / 10 : Nat) : Int) ++ [digit n] := by
  unfold dec digit
  rw [Int.toNat_natCast, Int.toNat_natCast, Go.Lib.decDigits, dif_neg h]

theorem dec_length : ∀ (k n : Nat), n < 10 ^ (k + 1) → (dec (n : Int)).length ≤ k + 1 := by
  intro k
  induction k with
  | zero => intro n h; rw [dec_small (by simpa using h)]; simp
  | succ k ih =>
    intro n h
    by_cases h10 : n < 10
    · rw [dec_small h10]; simp
    · rw [dec_large h10, List.length_append]
      have := ih (n / 10) (by rw [Nat.pow_succ] at h; omega)
      simp only [List.length_cons, List.length_nil]
      omega

/-- Two texts in a row. -/
theorem add_run (W : World) (x y : List UInt8) (h : x.length + y.length ≤ 100000000000) :
    (Op.stringOp .add ⟨x.toArray⟩ ⟨y.toArray⟩).run Tryz.prog W = .ok (.string ⟨(x ++ y).toArray⟩) W := by
  rw [run_string_add_sum _ _ _ (by simp [ByteArray.size]; omega), ByteArray.mk_append_mk]

set_option maxRecDepth 100000 in
set_option maxHeartbeats 2000000 in
theorem decimal_any : ∀ (k n : Nat) (w : World), n < 10 ^ (k + 1) → n ≤ 9223372036854775807 →
    Calls Tryz.prog 44 #[.int .i64 n] w fun e w' => e = .returned (.string ⟨(dec n).toArray⟩) ∧ Below w.heap.size w w' := by
  intro k
  induction k with
  | zero =>
    intro n w hn _
    have hn10 : n < 10 := by simpa using hn
    have hs := Lib.hid (dec_small hn10)
    have hd := digit_nat n
    rw [Nat.mod_eq_of_lt hn10] at hd
    have hw1 : IntKind.i64.wrap (48 + (n : Int)) = 48 + (n : Int) := IntWalk.i64_in _ (by omega)
    have hw2 : IntKind.u8.wrap (48 + (n : Int)) = 48 + (n : Int) := IntWalk.u8_in _ (by omega)
    have hc := conv_one (w.alloc (.cells #[.int .u8 (48 + (n : Int))] 5)) w.heap.size 1 (digit n) (by rw [hd]; exact cell_of_row _ _ 0 _ _ _ (heap_alloc_new w _))
    go_enter Tryz.func44, Tryz.ntmps44
    go_wp2
    go_ret
    rw [hs.out]
    exact ⟨rfl, (Below.refl _ w).alloc (Nat.le_refl _) _⟩
  | succ k ih =>
    intro n w hn hmax
    by_cases hn10 : n < 10
    · exact (ih n w (by omega) hmax).mono fun _ _ h => h
    have hs := dec_large hn10
    have hL := dec_length 18 (n / 10) (by omega)
    have hadd : ∀ W : World, (Op.stringOp .add ⟨(dec ((n / 10 : Nat) : Int)).toArray⟩ ⟨#[digit n]⟩).run Tryz.prog W = .ok (.string ⟨(dec n).toArray⟩) W := fun W => by
      have := add_run W (dec ((n / 10 : Nat) : Int)) [digit n] (by simp only [List.length_cons, List.length_nil]; omega)
      rw [hs]; exact this
    clear hs hL
    have hd := digit_nat n
    have hm : n % 10 < 10 := Nat.mod_lt _ (by omega)
    have hq : n / 10 < 10 ^ (k + 1) := by rw [Nat.pow_succ] at hn; omega
    have hqm : n / 10 ≤ 9223372036854775807 := by omega
    have e0 : (n : Int).tdiv 10 = ((n / 10 : Nat) : Int) := by rw [Int.tdiv_eq_ediv_of_nonneg (Int.natCast_nonneg _)]; exact (Int.natCast_ediv _ _).symm
    have e1 : (n : Int).tmod 10 = ((n % 10 : Nat) : Int) := by rw [Int.tmod_eq_emod_of_nonneg (Int.natCast_nonneg _)]; exact (Int.natCast_emod _ _).symm
    obtain ⟨q, hqe⟩ : ∃ q, q = n / 10 := ⟨_, rfl⟩
    obtain ⟨m, hme⟩ : ∃ m, m = n % 10 := ⟨_, rfl⟩
    rw [← hqe] at hadd hq hqm e0
    rw [← hme] at hd hm e1
    have hn11 : ¬ (n : Int) < 10 := by omega
    clear hqe hme hn
    have hw0 : IntKind.i64.wrap (q : Int) = (q : Int) := IntWalk.i64_in _ (by omega)
    have hw1 : IntKind.i64.wrap (48 + (m : Int)) = 48 + (m : Int) := IntWalk.i64_in _ (by omega)
    have hw2 : IntKind.u8.wrap (48 + (m : Int)) = 48 + (m : Int) := IntWalk.u8_in _ (by omega)
    have hc := conv_one (w.alloc (.cells #[.int .u8 (48 + (m : Int))] 5)).drew w.heap.size 1 (digit n) (by rw [hd]; exact cell_of_row _ _ 0 _ _ _ (heap_alloc_new w _))
    go_enter Tryz.func44, Tryz.ntmps44
    go_wp2
    go_region_with (first | (go_at_call 44; (with_reducible refine (ih q w.drew hq hqm).mono ?_); rintro e w1 ⟨rfl, b⟩; have hc1 := conv_one (w1.alloc (.cells #[.int .u8 (48 + (m : Int))] 5)) w1.heap.size 1 (digit n) (by rw [hd]; exact cell_of_row _ _ 0 _ _ _ (heap_alloc_new w1 _))) | (go_at_call 44; (with_reducible refine (ih q (w.alloc (.cells #[.int .u8 (48 + (m : Int))] 5)).drew hq hqm).mono ?_); rintro e w1 ⟨rfl, b⟩; have hc1 := conv_one w1 w.heap.size 1 (digit n) (by rw [hd]; exact (b.cell (p := ⟨w.heap.size, 0, none⟩) (by show _ < (w.alloc _).heap.size; rw [World.size_alloc]; exact Nat.lt_succ_self _)).trans (cell_of_row _ _ 0 _ _ _ (heap_alloc_new w _)))))
    all_goals
      go_wp2
      go_ret
      refine ⟨rfl, ?_⟩
      first
        | exact ((Below.refl _ w).drew.trans b).alloc b.size _
        | exact ((Below.refl _ w).alloc (Nat.le_refl _) _).drew.trans (b.mono (by show w.heap.size ≤ (w.alloc _).heap.size; rw [World.size_alloc]; exact Nat.le_succ _))

theorem dec_short {n : Int} (h0 : 0 ≤ n) (h1 : n ≤ 9999999999) : (dec n).length ≤ 10 := by
  obtain ⟨k, rfl⟩ := Int.eq_ofNat_of_zero_le h0
  exact dec_length 9 k (by omega)

theorem decimal_run (n : Int) (w : World) (h0 : 0 ≤ n) (h1 : n ≤ 9999999999) :
    Calls Tryz.prog 44 #[.int .i64 n] w fun e w' => e = .returned (.string ⟨(dec n).toArray⟩) ∧ Below w.heap.size w w' := by
  obtain ⟨k, rfl⟩ := Int.eq_ofNat_of_zero_le h0
  exact decimal_any 9 k w (by omega) (by omega)

end Go.Proofs.YtdofpealmngmiaaGreatDoor
