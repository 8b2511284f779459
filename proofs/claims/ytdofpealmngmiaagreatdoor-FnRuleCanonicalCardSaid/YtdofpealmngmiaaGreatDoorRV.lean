/- Walks: a whole struct moved from one box into another. Conditions: none. -/
import Derived.Test.YtdofpealmngmiaaGreatDoorRows
import Derived.Test.YtdofpealmngmiaaGreatDoorMem
import Derived.Laws.Rows
import Derived.Laws.Tables
import Derived.Below
namespace Go.Proofs.YtdofpealmngmiaaGreatDoor
open Go.RowKit

theorem grown_setRow (w : World) (g : Nat) (cs : Array Value) : w.grownBy (w.setRow g cs) (some g) :=
  ⟨rfl, rfl, rfl, by simp, fun k _ hk => setRow_other w g k cs (fun e => hk (by rw [e]))⟩
theorem owns_setRow {w : World} {base e sz n g : Nat} {v : Value} {xs : List Value} (h : w.ownsRow base e sz v n xs) (hg : g < base) (cs : Array Value) : (w.setRow g cs).ownsRow base e sz v n xs :=
  h.kept (grown_setRow w g cs) (by
    cases hv : v.ownBlock with
    | none => exact .inl rfl
    | some k => right; intro e; have := (h.lt k hv).1; simp only [Option.some.injEq] at e; omega)
theorem setRow_below {B : Nat} {a w : World} (h : Below B a w) {g : Nat} (hg : B ≤ g) (hB : B ≤ w.heap.size) (cs : Array Value) : Below B a (w.setRow g cs) :=
  h.grown (grown_setRow w g cs) hB (fun k e => by simp only [Option.some.injEq] at e; omega)

/-- type ty is a struct or an array, of n cells -/
def RowTy (P : Program) (ty n : Nat) : Prop := (P.underlying ty).any (fun d => match d with | .struct _ | .array _ _ => true | _ => false) = true ∧ (P.info? ty).map (·.size) = some n
theorem row30 : RowTy Tryz.prog 30 11 := ⟨by kernel_rfl, by kernel_rfl⟩
theorem row28 : RowTy Tryz.prog 28 4 := ⟨by kernel_rfl, by kernel_rfl⟩
theorem row25 : RowTy Tryz.prog 25 2 := ⟨by kernel_rfl, by kernel_rfl⟩
theorem RowTy.parts {P : Program} {ty n : Nat} (h : RowTy P ty n) : ∃ dd, P.underlying ty = some dd ∧ (match dd with | .struct _ | .array _ _ => true | _ => false) = true := by
  have h1 := h.1
  cases hu : P.underlying ty with
  | none => rw [hu] at h1; exact absurd h1 (by simp)
  | some d => rw [hu] at h1; exact ⟨d, rfl, by simpa using h1⟩

/-- A struct is loaded from box s, slot t gets it, box d takes it. -/
theorem wp_copy {P : Program} {id t pd ps ty : Nat} {Q : Exit → Act → World → Prop} {a : Act} {w : World} {o1 o2 : Oper}
    (h1 : o1.op = .load ty (.tmp ps)) (g1 : o1.guard = none) (d1 : o1.dst = some t) (h2 : o2.op = .store ty (.tmp pd) (.tmp t)) (g2 : o2.guard = none)
    (s d : Nat) (cs old : Array Value) (tys : TypeId) (td : TypeId) (n : Nat) (hr : RowTy P ty n) (hn : cs.size = n) (ho : old.size = n)
    (hs : a.eval (.tmp ps) = .pointer (some ⟨s, 0, none⟩)) (hsh : w.heap[s]? = some (.cells cs tys (0, 0)))
    (hdd : (a.put (some t) (.agg cs)).eval (.tmp pd) = .pointer (some ⟨d, 0, none⟩)) (hdh : w.heap[d]? = some (.cells old td (0, 0)))
    (hv : (a.put (some t) (.agg cs)).eval (.tmp t) = .agg cs) (h1c : cs.all (·.oneCell') = true)
    (h : Q .normal ((a.put (some t) (.agg cs)).put o2.dst undef) (w.setRow d cs)) :
    (Code.region id #[o1, o2] false).wp P Q a w := by
  obtain ⟨dd, hu, hd⟩ := hr.parts
  have hi := hr.2
  refine wp_region_lit ?_
  refine wpList_load_row g1 ty (.tmp ps) h1 s hs tys cs (0, 0) dd hsh hu (by cases dd <;> first | rfl | exact hd) (hi.trans (by rw [hn])) ?_
  rw [d1]
  refine wpList_store_row g2 ty (.tmp pd) (.tmp t) h2 d cs hdd hv td old hdh (hi.trans (by rw [hn])) (ho.trans hn.symm) h1c ?_
  exact h

/-- .. and handed back. -/
theorem results_row {P : Program} {fn : Func} {p : Tmp} {ty n : Nat} (h : fn.results = #[.cell p ty]) (hr : RowTy P ty n) (tmps : Array Value) (w : World) (g : Nat) (t : TypeId) (cs : Array Value) (hn : cs.size = n)
    (hp : tmps.getD p undef = .pointer (some ⟨g, 0, none⟩)) (hg : w.heap[g]? = some (.cells cs t (0, 0))) : (results fn tmps).run P w = .ok (.agg cs) w := by
  obtain ⟨dd, hu, hd⟩ := hr.parts
  exact results_cell_row h tmps w g t cs (0, 0) dd hp hg hu (by cases dd <;> first | rfl | exact hd) (hr.2.trans (by rw [hn]))

theorem results_row_tmp {P : Program} {fn : Func} {p q : Tmp} {ty n : Nat} (h : fn.results = #[.cell p ty, .tmp q]) (hr : RowTy P ty n) (tmps : Array Value) (w : World) (g : Nat) (t : TypeId) (cs : Array Value) (hn : cs.size = n)
    (hp : tmps.getD p undef = .pointer (some ⟨g, 0, none⟩)) (hg : w.heap[g]? = some (.cells cs t (0, 0))) : (results fn tmps).run P w = .ok (.tuple #[.agg cs, tmps.getD q undef]) w := by
  obtain ⟨dd, hu, hd⟩ := hr.parts
  have hp' : tmps[p]?.getD undef = .pointer (some ⟨g, 0, none⟩) := by simpa using hp
  have hl := run_loadVar_row (P := P) w g t ty cs (0, 0) dd hg hu (by cases dd <;> first | rfl | exact hd) (hr.2.trans (by rw [hn]))
  simp [results, h, hp', asAddr, hl]

end Go.Proofs.YtdofpealmngmiaaGreatDoor
