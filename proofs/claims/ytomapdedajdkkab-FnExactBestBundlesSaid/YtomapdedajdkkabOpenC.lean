/- How arguments are opened: a slice of bundles. Conditions: none. -/
import Derived.Test.YtomapdedajdkkabOpenB
import Derived.Test.YtomapdedajdkkabVN
namespace Go.Proofs.Ytomapdedajdkkab
open Go.ChangeShapes Go.WideShapes Go.ChangeAt Go.RowKit Go.Deep

instance : Inhabited Bn := ⟨bZ⟩

theorem bT_map (L : Nat → Bn) (n k : Nat) (h : k < n) : bT ((List.range n).map L) k = L k := by
  simp [bT, List.getD, h]

theorem open_bundles {H : Type} {enc : TypeId × Value → H} {P : Program} {w : World} {base : Nat} {spare : Nat → Bool} {held : Bool} {t e1 e : TypeId} {g0 g1 f0 f1 : Field} {fuel : Nat} {v : Value} {x : DataW H × List MemPlace} (ht : P.underlying t = some (.slice e1)) (hst : P.underlying e1 = some (.struct #[g0, g1])) (ce1 : P.cellsOf e1 = 2)
    (p0 : g0.offset = 0) (p1 : g1.offset = 1) (q0 : P.cellsOf g0.type = 1) (q1 : P.cellsOf g1.type = 1) (hg0 : P.underlying g0.type = some (.slice e)) (hg1 : P.underlying g1.type = some (.int .i64)) (he : P.underlying e = some (.struct #[f0, f1]))
    (ce : P.cellsOf e = 2) (o0 : f0.offset = 0) (o1 : f1.offset = 1) (c0 : P.cellsOf f0.type = 1) (c1 : P.cellsOf f1.type = 1) (u0 : P.underlying f0.type = some (.int .i64)) (u1 : P.underlying f1.type = some (.int .i64))
    (h : DataW.trod enc P w base spare held fuel t [v] = some x) : ∃ B : List Bn, RdB w v B := by
  rcases open_slice ht h with ⟨hcs, _⟩ | ⟨a, len, cap, m, k, D, Pl, hcs, _, hl, hm, hmm, _, hx⟩
  · simp at hcs
    subst hcs
    exact ⟨[], RdB.nil w⟩
  · simp at hcs
    subst hcs
    have hlm : len ≤ m := by rw [hmm]; split <;> omega
    have each : ∀ i, i < len → ∃ y : Bn, w.cell? (a.add (i * 2)) = some y.v ∧ w.cell? (a.add (i * 2 + 1)) = some (.int .i64 y.p) ∧ Rd w 2 y.v y.l.length (pr y.l) := by
      intro i hi
      obtain ⟨cs', h1, h2⟩ := hx i (by omega)
      rw [ce1] at h1
      obtain ⟨_, hlen, hcell⟩ := World.cells?_some h1
      obtain ⟨a', b', rfl⟩ : ∃ a' b', cs' = [a', b'] := by
        match cs', hlen with
        | [a', b'], _ => exact ⟨a', b', rfl⟩
      obtain ⟨l, z, r1, rfl, _⟩ := open_bundle hst p0 p1 q0 q1 hg0 hg1 he ce o0 o1 c0 c1 u0 u1 h2
      have k0 := hcell 0 (by omega)
      have k1 := hcell 1 (by omega)
      rw [add_add] at k0 k1
      exact ⟨⟨l, a', z⟩, by simpa using k0, by simpa using k1, r1⟩
    obtain ⟨L, hL⟩ := choose_lt (α := Bn) (p := fun i y => w.cell? (a.add (i * 2)) = some y.v ∧ w.cell? (a.add (i * 2 + 1)) = some (.int .i64 y.p) ∧ Rd w 2 y.v y.l.length (pr y.l)) each
    have hBl : ((List.range len).map L).length = len := by simp
    refine ⟨(List.range len).map L, ⟨bn_len _, some a, cap, by rw [hBl], by rw [hBl]; exact hl, hm, fun hn => ?_⟩, fun y hy => ?_⟩
    · rw [hBl] at hn
      have d0 := (hL 0 hn).1
      have hsp : a.spot = none := by
        unfold Addr.add World.cell? at d0
        cases hsp : a.spot with
        | none => rfl
        | some s => split at d0 <;> simp_all
      obtain ⟨b, off, sp⟩ := a
      simp only at hsp
      subst hsp
      refine ⟨b, off, rfl, ?_, fun j u hu => ?_⟩
      · have := World.block_lt_of_cell? w _ d0
        rw [add_plain] at this
        exact this
      · have hj : j < len * 2 := by
          have := (List.getElem?_eq_some_iff.1 hu).1
          rwa [bn_len, hBl] at this
        have hk : j / 2 < len := by omega
        have hg := bn_get ((List.range len).map L) (j / 2) (by rw [hBl]; exact hk)
        rw [bT_map L len _ hk] at hg
        have hc := hL (j / 2) hk
        rw [add_plain, add_plain] at hc
        rcases Nat.mod_two_eq_zero_or_one j with e | e
        · have ej : j / 2 * 2 = j := by omega
          rw [ej] at hg hc
          rw [hc.1, ← hg.1]; exact hu
        · have ej : j / 2 * 2 + 1 = j := by omega
          rw [ej] at hg hc
          rw [hc.2.1, ← hg.2]; exact hu
    · obtain ⟨i, hi, rfl⟩ := List.mem_map.1 hy
      exact (hL i (List.mem_range.1 hi)).2.2

end Go.Proofs.Ytomapdedajdkkab
