/- How arguments are opened: a slice of structs of numbers as a list of cells. Conditions: none. -/
import Derived.Test.YtdofpealmngmiaaGreatDoorMem
import Derived.ProofKit
import Derived.OpenShut
import Derived.Deep.Slices
namespace Go.Proofs.YtdofpealmngmiaaGreatDoor
open Go.ChangeShapes Go.WideShapes Go.ChangeAt Go.RowKit Go.Deep

theorem flat_len {β : Type} (n s : Nat) (g : Nat → Nat → β) : ((List.range n).flatMap fun i => (List.range s).map (g i)).length = n * s := by
  induction n with
  | zero => simp
  | succ n ih => rw [List.range_succ, List.flatMap_append, List.length_append, ih]; simp [Nat.add_mul]

theorem flat_get {β : Type} (s : Nat) (hs : 0 < s) (g : Nat → Nat → β) (n j : Nat) (hj : j < n * s) :
    ((List.range n).flatMap fun i => (List.range s).map (g i))[j]? = some (g (j / s) (j % s)) := by
  induction n with
  | zero => simp at hj
  | succ n ih =>
    rw [List.range_succ, List.flatMap_append]
    by_cases h : j < n * s
    · rw [List.getElem?_append_left (by rw [flat_len]; exact h), ih h]
    · rw [List.getElem?_append_right (by rw [flat_len]; omega), flat_len]
      have h2 : j - n * s < s := by rw [Nat.add_mul, Nat.one_mul] at hj; omega
      have h3 : j = (j - n * s) + s * n := by rw [Nat.mul_comm s n]; omega
      have hd : j / s = n := by
        rw [h3, Nat.add_mul_div_left _ _ hs, Nat.div_eq_of_lt h2]; omega
      have hm : j % s = j - n * s := by
        have e : j % s = ((j - n * s) + s * n) % s := by rw [← h3]
        rw [e, Nat.add_mul_mod_self_left, Nat.mod_eq_of_lt h2]
      rw [hd, hm]
      simp [h2]

section
variable {H : Type} {enc : TypeId × Value → H} {P : Program} {w : World} {base : Nat} {spare : Nat → Bool} {held : Bool}

/-- A slice of structs whose fields are ints: its cells. -/
theorem open_recs {t e : TypeId} {fs : Array Field} {fuel : Nat} {v : Value} {x : DataW H × List MemPlace} (ht : P.underlying t = some (.slice e)) (he : P.underlying e = some (.struct fs))
    (ce : P.cellsOf e = fs.size) (hs : 0 < fs.size) (hfs : ∀ (j : Nat) (f : Field), fs[j]? = some f → f.offset = j ∧ P.cellsOf f.type = 1 ∧ P.underlying f.type = some (.int .i64))
    (h : DataW.trod enc P w base spare held fuel t [v] = some x) :
    ∃ n, ∃ L : Nat → Nat → Int, Rd w fs.size v n ((List.range n).flatMap fun i => (List.range fs.size).map fun j => Value.int .i64 (L i j)) ∧ ∀ i j, i < n → j < fs.size → (Lit.int .i64 (L i j)).wf = true := by
  rcases open_slice ht h with ⟨hcs, _⟩ | ⟨a, len, cap, m, k, D, Pl, hcs, _, hl, hm, hmm, _, hx⟩
  · simp at hcs
    subst hcs
    exact ⟨0, fun _ _ => 0, ⟨by simp, none, 0, rfl, Nat.le_refl _, Nat.zero_le _, fun h => absurd h (Nat.lt_irrefl _)⟩, fun i j hi => absurd hi (Nat.not_lt_zero _)⟩
  · simp at hcs
    subst hcs
    have hlm : len ≤ m := by rw [hmm]; split <;> omega
    have each : ∀ i, i < len → ∃ g : Nat → Int, ∀ j, j < fs.size → w.cell? (a.add (i * fs.size + j)) = some (.int .i64 (g j)) ∧ (Lit.int .i64 (g j)).wf = true := by
      intro i hi
      obtain ⟨cs', h1, h2⟩ := hx i (by omega)
      rw [ce] at h1
      obtain ⟨_, hlen, hcell⟩ := World.cells?_some h1
      obtain ⟨xs, k', _, _, _, hxl, hf⟩ := DataW.trod_struct he h2
      have one : ∀ j, j < fs.size → ∃ q : Int, cs'[j]? = some (.int .i64 q) ∧ (Lit.int .i64 q).wf = true := by
        intro j hj
        obtain ⟨f, hf1⟩ : ∃ f, fs[j]? = some f := ⟨_, Array.getElem?_eq_getElem hj⟩
        obtain ⟨o1, c1, u1⟩ := hfs j f hf1
        have h3 := hf j f hf1
        rw [o1, c1] at h3
        have hdr : (cs'.drop j).take 1 = [cs'[j]'(by omega)] := by
          rw [List.drop_eq_getElem_cons (by omega), List.take_succ_cons, List.take_zero]
        rw [hdr, List.getElem?_eq_getElem (by omega)] at h3
        obtain ⟨q, e1, _, e3⟩ := DataW.trod_int u1 h3
        simp only [List.cons.injEq, and_true] at e1
        exact ⟨q, by rw [List.getElem?_eq_getElem (by omega), e1], e3⟩
      obtain ⟨g, hg⟩ := choose_lt (α := Int) (p := fun j q => cs'[j]? = some (.int .i64 q) ∧ (Lit.int .i64 q).wf = true) one
      refine ⟨g, fun j hj => ⟨?_, (hg j hj).2⟩⟩
      have := hcell j hj
      rw [add_add] at this
      rw [this, (hg j hj).1]
    obtain ⟨L, hL⟩ := choose_lt (α := Nat → Int) (p := fun i g => ∀ j, j < fs.size → w.cell? (a.add (i * fs.size + j)) = some (.int .i64 (g j)) ∧ (Lit.int .i64 (g j)).wf = true) each
    refine ⟨len, L, ⟨flat_len _ _ _, some a, cap, rfl, hl, hm, fun hn => ?_⟩, fun i j hi hj => (hL i hi j hj).2⟩
    have c0 := (hL 0 hn 0 hs).1
    have hsp : a.spot = none := by
      unfold Addr.add World.cell? at c0
      cases hsp : a.spot with
      | none => rfl
      | some s => split at c0 <;> simp_all
    obtain ⟨b, off, sp⟩ := a
    simp only at hsp
    subst hsp
    refine ⟨b, off, rfl, ?_, fun j u hu => ?_⟩
    · have := World.block_lt_of_cell? w _ c0
      rw [add_plain] at this
      exact this
    · have hj : j < len * fs.size := by
        have := (List.getElem?_eq_some_iff.1 hu).1
        rwa [flat_len] at this
      rw [flat_get _ hs _ _ _ hj] at hu
      have h1 := (hL (j / fs.size) (Nat.div_lt_of_lt_mul (by rwa [Nat.mul_comm] at hj)) (j % fs.size) (Nat.mod_lt _ hs)).1
      rw [add_plain, Nat.mul_comm, Nat.div_add_mod] at h1
      rw [h1]; exact hu

/-- A slice of pairs. -/
theorem open_prs {t e : TypeId} {f0 f1 : Field} {fuel : Nat} {v : Value} {x : DataW H × List MemPlace} (ht : P.underlying t = some (.slice e)) (he : P.underlying e = some (.struct #[f0, f1]))
    (ce : P.cellsOf e = 2) (o0 : f0.offset = 0) (o1 : f1.offset = 1) (c0 : P.cellsOf f0.type = 1) (c1 : P.cellsOf f1.type = 1) (u0 : P.underlying f0.type = some (.int .i64)) (u1 : P.underlying f1.type = some (.int .i64))
    (h : DataW.trod enc P w base spare held fuel t [v] = some x) : ∃ l : List (Int × Int), Rd w 2 v l.length (pr l) := by
  obtain ⟨n, L, hR, _⟩ := open_recs ht he (by simpa using ce) (by simp) (fun j f hf => by
    match j, hf with
    | 0, hf => simp at hf; subst hf; exact ⟨o0, c0, u0⟩
    | 1, hf => simp at hf; subst hf; exact ⟨o1, c1, u1⟩
    | j + 2, hf => simp at hf) h
  refine ⟨(List.range n).map fun i => (L i 0, L i 1), ?_⟩
  have e : pr ((List.range n).map fun i => (L i 0, L i 1)) = (List.range n).flatMap fun i => (List.range (#[f0, f1] : Array Field).size).map fun j => Value.int .i64 (L i j) := by
    simp [pr, List.flatMap_map, List.range_succ]
  rw [e]
  simpa using hR

/-- A slice of bytes. -/
theorem open_bytes {t e : TypeId} {fuel : Nat} {v : Value} {x : DataW H × List MemPlace} (ht : P.underlying t = some (.slice e)) (he : P.underlying e = some (.int .u8)) (ce : P.cellsOf e = 1)
    (h : DataW.trod enc P w base spare held fuel t [v] = some x) : ∃ z : List Int, Rd w 1 v z.length (z.map (Value.int .u8)) ∧ ∀ x ∈ z, 0 ≤ x ∧ x ≤ 255 := by
  rcases open_ints ht he ce h with ⟨hcs, _⟩ | ⟨a, len, cap, zs, hcs, _, hl, hm, hz, _, hcell, hwz⟩
  · simp at hcs
    subst hcs
    exact ⟨[], ⟨by simp, none, 0, rfl, Nat.le_refl _, Nat.zero_le _, fun h => absurd h (Nat.lt_irrefl _)⟩, by simp⟩
  · simp at hcs
    subst hcs
    have hlz : len ≤ zs.length := by rw [hz]; split <;> omega
    have hlen : (zs.take len).length = len := by rw [List.length_take]; omega
    refine ⟨zs.take len, ⟨by simp, some a, cap, by rw [hlen], by rw [hlen]; exact hl, hm, fun hn => ?_⟩, fun x hx => ?_⟩
    · rw [hlen] at hn
      have c0 := hcell 0 (by omega)
      have hsp : a.spot = none := by
        unfold Addr.add World.cell? at c0
        cases hsp : a.spot with
        | none => rfl
        | some s => split at c0 <;> simp_all
      obtain ⟨b, off, sp⟩ := a
      simp only at hsp
      subst hsp
      refine ⟨b, off, rfl, ?_, fun j u hu => ?_⟩
      · have := World.block_lt_of_cell? w _ c0
        rw [add_plain] at this
        exact this
      · have hj : j < len := by
          have := (List.getElem?_eq_some_iff.1 hu).1
          rwa [List.length_map, hlen] at this
        have h1 := hcell j (by omega)
        rw [add_plain] at h1
        rw [h1, ← hu]
        simp [List.getD, hj, show j < zs.length by omega]
    · have := hwz x (List.mem_of_mem_take hx)
      exact Go.bounds_u8 this

/-- A slice of numbers. -/
theorem open_nums {t e : TypeId} {fuel : Nat} {v : Value} {x : DataW H × List MemPlace} (ht : P.underlying t = some (.slice e)) (he : P.underlying e = some (.int .i64)) (ce : P.cellsOf e = 1)
    (h : DataW.trod enc P w base spare held fuel t [v] = some x) : ∃ z : List Int, Rd w 1 v z.length (it z) := by
  rcases open_ints ht he ce h with ⟨hcs, _⟩ | ⟨a, len, cap, zs, hcs, _, hl, hm, hz, _, hcell, _⟩
  · simp at hcs
    subst hcs
    exact ⟨[], ⟨by simp [it], none, 0, rfl, Nat.le_refl _, Nat.zero_le _, fun h => absurd h (Nat.lt_irrefl _)⟩⟩
  · simp at hcs
    subst hcs
    have hlz : len ≤ zs.length := by rw [hz]; split <;> omega
    have hlen : (zs.take len).length = len := by rw [List.length_take]; omega
    refine ⟨zs.take len, ⟨by simp [it], some a, cap, by rw [hlen], by rw [hlen]; exact hl, hm, fun hn => ?_⟩⟩
    rw [hlen] at hn
    have c0 := hcell 0 (by omega)
    have hsp : a.spot = none := by
      unfold Addr.add World.cell? at c0
      cases hsp : a.spot with
      | none => rfl
      | some s => split at c0 <;> simp_all
    obtain ⟨b, off, sp⟩ := a
    simp only at hsp
    subst hsp
    refine ⟨b, off, rfl, ?_, fun j u hu => ?_⟩
    · have := World.block_lt_of_cell? w _ c0
      rw [add_plain] at this
      exact this
    · have hj : j < len := by
        have := (List.getElem?_eq_some_iff.1 hu).1
        rwa [it, List.length_map, hlen] at this
      have h1 := hcell j (by omega)
      rw [add_plain] at h1
      rw [h1, ← hu]
      simp [it, List.getD, hj, show j < zs.length by omega]

theorem wf_bounds {z : Int} (h : (Lit.int .i64 z).wf = true) : -9223372036854775808 ≤ z ∧ z ≤ 9223372036854775807 := by
  exact Go.bounds_i64 h

end
end Go.Proofs.YtdofpealmngmiaaGreatDoor
