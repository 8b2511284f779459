/- The reader of the generators: what is known of it, and what picks leave. Conditions: none. -/
import Derived.Test.YtdofpealmngmiaaGreatDoorRows
import Derived.Test.YtdofpealmngmiaaGreatDoorMem
import Derived.Deep.QuietTactic
import Derived.BigQuiet
import Derived.Handy
namespace Go.Proofs.YtdofpealmngmiaaGreatDoor
open Go.RowKit

/-- Block R is a reader over some bytes, and at most u picks have been made. -/
def Rdr (w : World) (R : Nat) (u : Nat) : Prop :=
  ∃ (bs : List Int) (ao : Option Addr) (cap : Nat) (p : Nat), w.heap[R]? = some (.cells #[.slice ao bs.length cap, .int .i64 p] 63 (0, 0)) ∧ p ≤ u ∧ bs.length ≤ 2000 ∧
    (∀ x ∈ bs, 0 ≤ x ∧ x ≤ 255) ∧ (0 < bs.length → ∃ b off, ao = some ⟨b, off, none⟩ ∧ b < R ∧ ∀ k, k < bs.length → w.cell? ⟨b, off + k, none⟩ = some (.int .u8 (iG bs k)))

theorem Rdr.lt {w : World} {R u : Nat} (h : Rdr w R u) : R < w.heap.size := by
  obtain ⟨_, _, _, _, h1, _⟩ := h
  exact (Array.getElem?_eq_some_iff.1 h1).1

theorem Rdr.mono {w : World} {R u u' : Nat} (h : Rdr w R u) (hu : u ≤ u') : Rdr w R u' := by
  obtain ⟨bs, ao, cap, p, h1, h2, h3⟩ := h
  exact ⟨bs, ao, cap, p, h1, by omega, h3⟩

/-- A reader stays while other blocks turn. -/
theorem Rdr.below {w w' : World} {R u B : Nat} (h : Rdr w R u) (hb : Below B w w') (hB : R < B) : Rdr w' R u := by
  obtain ⟨bs, ao, cap, p, h1, h2, h3, h4, h5⟩ := h
  refine ⟨bs, ao, cap, p, (hb.block R hB).trans h1, h2, h3, h4, fun hn => ?_⟩
  obtain ⟨b, off, e, hlt, hc⟩ := h5 hn
  exact ⟨b, off, e, hlt, fun k hk => (hb.cell (p := ⟨b, off + k, none⟩) (Nat.lt_trans hlt hB)).trans (hc k hk)⟩

/-- What a call leaves that only turns the reader R: R is a reader still, and all else is as it was. -/
structure RdrStep (w : World) (R u : Nat) (w' : World) : Prop where
  rdr : Rdr w' R u
  grown : w.grownBy w' (some R)

theorem RdrStep.refl {w : World} {R u : Nat} (h : Rdr w R u) : RdrStep w R u w := ⟨h, World.grownBy.refl _ _⟩
theorem RdrStep.trans {a b c : World} {R u u' : Nat} (h : RdrStep a R u b) (k : RdrStep b R u' c) : RdrStep a R u' c := ⟨k.1, grownBy_trans h.2 k.2⟩
theorem RdrStep.mono {a b : World} {R u u' : Nat} (h : RdrStep a R u b) (hu : u ≤ u') : RdrStep a R u' b := ⟨h.1.mono hu, h.2⟩
theorem RdrStep.below {a b c : World} {R u B : Nat} (h : RdrStep a R u b) (hb : Below B b c) (hR : R < B) (hB : a.heap.size ≤ B) : RdrStep a R u c :=
  ⟨h.1.below hb hR, ⟨hb.os.trans h.2.os, hb.tape.trans h.2.tape, hb.output.trans h.2.output, Nat.le_trans h.2.size hb.size, fun i hi hr => (hb.block i (Nat.lt_of_lt_of_le hi hB)).trans (h.2.block i hi hr)⟩⟩
theorem RdrStep.size {a b : World} {R u : Nat} (h : RdrStep a R u b) : a.heap.size ≤ b.heap.size := h.2.size
theorem RdrStep.drewN {a b : World} {R u : Nat} (h : RdrStep a R u b) (n : Nat) : RdrStep a R u (b.drewN n) := by
  refine h.below (B := b.heap.size) (below_drewN (Below.refl _ _) n) h.1.lt ?_
  exact h.size
theorem RdrStep.drew {a b : World} {R u : Nat} (h : RdrStep a R u b) : RdrStep a R u b.drew :=
  h.below (B := b.heap.size) (Below.drew (Below.refl _ _)) h.1.lt h.size
theorem RdrStep.alloc {a b : World} {R u : Nat} (h : RdrStep a R u b) (o : Obj) : RdrStep a R u (b.alloc o) :=
  h.below (B := b.heap.size) (Below.alloc (Below.refl _ _) (Nat.le_refl _) o) h.1.lt h.size

theorem Rdr.grown {w w' : World} {R u : Nat} {row : Option Nat} (h : Rdr w R u) (hg : w.grownBy w' row) (hr : ∀ k, row = some k → R < k) : Rdr w' R u := by
  have hR := h.lt
  obtain ⟨bs, ao, cap, p, h1, h2, h3, h4, h5⟩ := h
  refine ⟨bs, ao, cap, p, (hg.block R hR (fun e => by have := hr R e.symm; omega)).trans h1, h2, h3, h4, fun hn => ?_⟩
  obtain ⟨b, off, e, hlt, hc⟩ := h5 hn
  exact ⟨b, off, e, hlt, fun k hk => (World.cell?_of_block (a := ⟨b, off + k, none⟩) (hg.block b (by omega) (fun e => by have := hr b e.symm; omega))).trans (hc k hk)⟩

/-- A write into what is new. -/
theorem RdrStep.own {a b c : World} {R u : Nat} {row : Option Nat} (h : RdrStep a R u b) (hR : R < a.heap.size) (hg : b.grownBy c row) (hr : ∀ k, row = some k → a.heap.size ≤ k) : RdrStep a R u c :=
  ⟨h.1.grown hg (fun k hk => by have := hr k hk; omega), grownBy_new h.2 hg hr⟩

/-- A row that the generator owns stays while the reader turns. -/
theorem owns_step {w w' : World} {base e sz n R u : Nat} {v : Value} {xs : List Value} (h : w.ownsRow base e sz v n xs) (hs : RdrStep w R u w') (hR : R < base) : w'.ownsRow base e sz v n xs :=
  h.kept hs.2 (by
    cases hv : v.ownBlock with
    | none => exact .inl rfl
    | some k => right; intro e; have := (h.lt k hv).1; simp only [Option.some.injEq] at e; omega)

theorem Rd.step {w w' : World} {sz n R u : Nat} {v : Value} {xs : List Value} (h : Rd w sz v n xs) (hs : RdrStep w R u w') (hne : ∀ b off c k, v = .slice (some ⟨b, off, c⟩) n k → b ≠ R) : Rd w' sz v n xs := by
  obtain ⟨h1, ao, cap, h2, h3, h4, h5⟩ := h
  refine ⟨h1, ao, cap, h2, h3, h4, fun hn => ?_⟩
  obtain ⟨b, off, rfl, hlt, hc⟩ := h5 hn
  refine ⟨b, off, rfl, Nat.lt_of_lt_of_le hlt hs.2.size, fun j u hu => ?_⟩
  exact (World.cell?_of_block (a := ⟨b, off + j, none⟩) (hs.2.block b hlt (by have := hne b off none cap h2; simpa using this))).trans (hc j u hu)

/-- Seen from before the reader was made, only new blocks have turned. -/
theorem RdrStep.fresh {w w1 w2 : World} {R u : Nat} (h : RdrStep w1 R u w2) (hb : Below w.heap.size w w1) (hR : w.heap.size ≤ R) : Below w.heap.size w w2 :=
  ⟨h.2.os.trans hb.os, h.2.tape.trans hb.tape, h.2.output.trans hb.output, Nat.le_trans hb.size h.2.size,
    fun i hi => (h.2.block i (Nat.lt_of_lt_of_le hi hb.size) (fun e => by simp only [Option.some.injEq] at e; omega)).trans (hb.block i hi)⟩

theorem owns_base {w : World} {base base' e sz n : Nat} {v : Value} {xs : List Value} (h : w.ownsRow base e sz v n xs) (hb : base' ≤ base) : w.ownsRow base' e sz v n xs := by
  refine ⟨h.1, ?_⟩
  rcases h.2 with hn | ⟨g, cap, cur, rfl, hg, rest⟩
  · exact .inl hn
  · exact .inr ⟨g, cap, cur, rfl, by omega, rest⟩

/-! ### The numbers of a pick -/
theorem xor_nat (a b : Nat) (ha : a < 9223372036854775808) (hb : b < 9223372036854775808) : bits .xor .i64 (a : Int) (b : Int) = ((a ^^^ b : Nat) : Int) := by
  have hx : a ^^^ b < 2 ^ 63 := Nat.xor_lt_two_pow (by omega) (by omega)
  have h1 : (BitVec.ofInt 64 (a : Int)).toNat = a := by
    rw [BitVec.ofInt_natCast, BitVec.toNat_ofNat]; exact Nat.mod_eq_of_lt (by omega)
  have h2 : (BitVec.ofInt 64 (b : Int)).toNat = b := by
    rw [BitVec.ofInt_natCast, BitVec.toNat_ofNat]; exact Nat.mod_eq_of_lt (by omega)
  show IntKind.i64.wrap ((BitVec.ofInt 64 (a : Int) ^^^ BitVec.ofInt 64 (b : Int)).toNat : Int) = _
  rw [BitVec.toNat_xor, h1, h2, IntKind.wrap_i64]
  omega

theorem xor_nonneg (a b : Int) (ha : 0 ≤ a) (ha' : a ≤ 9223372036854775807) (hb : 0 ≤ b) (hb' : b ≤ 9223372036854775807) : 0 ≤ bits .xor .i64 a b := by
  obtain ⟨x, rfl⟩ := Int.eq_ofNat_of_zero_le ha
  obtain ⟨y, rfl⟩ := Int.eq_ofNat_of_zero_le hb
  have := xor_nat x y (by omega) (by omega)
  rw [this]
  exact Int.natCast_nonneg _

end Go.Proofs.YtdofpealmngmiaaGreatDoor
