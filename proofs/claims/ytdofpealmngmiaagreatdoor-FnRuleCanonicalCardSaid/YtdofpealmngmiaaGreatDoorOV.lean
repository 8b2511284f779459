/- What the package's variables hold when the call begins. Conditions: none. -/
import Derived.Test.YtdofpealmngmiaaGreatDoorOpen
import Derived.Test.YtdofpealmngmiaaGreatDoorRE
import Derived.ProofKit
import Derived.LaidMore
import Derived.OpenShut
import Derived.OpenVars
import Derived.MakeChecks
import Derived.Stop.Joined
import Derived.Lib.LaidTab
import Derived.Maps.StringElems
import Derived.ChangeBears2
namespace Go.Proofs.YtdofpealmngmiaaGreatDoor
open Go.ChangeShapes Go.WideShapes Go.ChangeAt Go.RowKit Go.WideElems Go.Maps

theorem cInt : Tryz.prog.cellsOf 3 = 1 := by kernel_rfl

theorem gKinds : Tryz.prog.globalNamed "loop.example/promotionengine/impl.kindNames" = some 1 := by kernel_rfl
theorem gAll : Tryz.prog.globalNamed "loop.example/promotionengine/impl.anySpan" = some 0 := by kernel_rfl
theorem tKinds : (Tryz.prog.globals[1]?).map (·.type) = some 49 := by kernel_rfl
theorem tAll : (Tryz.prog.globals[0]?).map (·.type) = some 25 := by kernel_rfl
theorem keyInt : Keyed Tryz.prog 3 := int_keyed Tryz.underlying3

theorem gBig : Tryz.prog.globalNamed "math/bits.deBruijn64tab" = some 9 := by kernel_rfl
theorem gTen : Tryz.prog.globalNamed "internal/strconv.uint64pow10" = some 3 := by kernel_rfl
theorem tTen : (Tryz.prog.globals[3]?).map (·.type) = some 109 := by kernel_rfl
theorem cTen : Tryz.prog.cellsOf 109 = 20 := by kernel_rfl
theorem cU64 : Tryz.prog.cellsOf 93 = 1 := by kernel_rfl
theorem tenIs : (Rows.laid_internal_strconv_uint64pow10 : DataW Unit) = Lib.tabData .u64 Lib.pow10Tab := by kernel_rfl
theorem zeroStr (W : World) : (zeroValue 9).run Tryz.prog W = .ok (.string ⟨#[]⟩) W := by kernel_rfl

theorem var_lt {W : World} {n : String} {g : Nat} {cs : Array Value} (hg : Tryz.prog.globalNamed n = some g) (hv : W.var? Tryz.prog n = some cs) : g < W.heap.size := by
  unfold World.var? at hv
  rw [hg] at hv
  simp only [Option.bind_some] at hv
  cases hh : W.heap[g]? with
  | none => rw [hh] at hv; cases hv
  | some o => exact (Array.getElem?_eq_some_iff.1 hh).1

/-- The table of the powers of ten. -/
theorem tab_of {W : World} {cs : Array Value} {f : Nat} {p : List MemPlace} (hv : W.var? Tryz.prog "internal/strconv.uint64pow10" = some cs)
    (hd : DataW.trod (fun _ => ()) Tryz.prog W 0 (fun _ => true) false f 109 cs.toList = some (Rows.laid_internal_strconv_uint64pow10, p)) : Lib.TabIs Tryz.prog W "internal/strconv.uint64pow10" .u64 Lib.pow10Tab := by
  rw [tenIs] at hd
  have e := Lib.cells_of_tab Tryz.underlying109 Tryz.underlying93 cU64 cTen hd
  unfold Lib.TabIs
  rw [hv, ← e]

/-- The span of all numbers. -/
theorem span_of {W : World} {cs : Array Value} {f : Nat} {p : List MemPlace} (hv : W.var? Tryz.prog "loop.example/promotionengine/impl.anySpan" = some cs)
    (hd : DataW.trod (fun _ => ()) Tryz.prog W 0 (fun _ => true) false f 25 cs.toList = some (Rows.laid_loop_example_promotionengine_impl_anySpan, p)) :
    W.cell? ⟨0, 0, none⟩ = some (.int .i64 0) ∧ W.cell? ⟨0, 1, none⟩ = some (.int .i64 1000000) := by
  obtain ⟨y0, y1, n, hx, hl, h0, h1⟩ := trod_struct2 Tryz.underlying25 hd
  rw [show Tryz.prog.cellsOf 25 = 2 by kernel_rfl] at hl
  have c0 := World.var?_cell gAll hv 0
  have c1 := World.var?_cell gAll hv 1
  obtain ⟨l⟩ := cs
  rcases l with _ | ⟨a, _ | ⟨b, _ | ⟨b2, l2⟩⟩⟩
  · simp at hl
  · simp at hl
  · have h0 : DataW.trod (fun _ => ()) Tryz.prog W 0 (fun _ => true) false n 3 (([a, b].drop 0).take (Tryz.prog.cellsOf 3)) = some y0 := h0
    have h1 : DataW.trod (fun _ => ()) Tryz.prog W 0 (fun _ => true) false n 3 (([a, b].drop 1).take (Tryz.prog.cellsOf 3)) = some y1 := h1
    rw [cInt] at h0 h1
    obtain ⟨z0, e0, f0, _⟩ := DataW.trod_int Tryz.underlying3 (show DataW.trod (fun _ => ()) Tryz.prog W 0 (fun _ => true) false n 3 [a] = some y0 from h0)
    obtain ⟨z1, e1, f1, _⟩ := DataW.trod_int Tryz.underlying3 (show DataW.trod (fun _ => ()) Tryz.prog W 0 (fun _ => true) false n 3 [b] = some y1 from h1)
    simp only [List.cons.injEq, and_true] at e0 e1
    subst f0 f1 e0 e1
    simp only [Rows.laid_loop_example_promotionengine_impl_anySpan, Prod.mk.injEq, DataW.agg.injEq, List.cons.injEq, DataW.lit.injEq, Lit.int.injEq, true_and, and_true] at hx
    obtain ⟨⟨rfl, rfl⟩, _⟩ := hx
    exact ⟨by simpa using c0, by simpa using c1⟩
  · simp at hl

/-- The names of the kinds. -/
theorem kinds_of {W : World} {cs : Array Value} {f : Nat} {p : List MemPlace} (hv : W.var? Tryz.prog "loop.example/promotionengine/impl.kindNames" = some cs)
    (hd : DataW.trod (fun _ => ()) Tryz.prog W 0 (fun _ => true) false f 49 cs.toList = some (Rows.laid_loop_example_promotionengine_impl_kindNames, p)) :
    ∃ bm, W.cell? ⟨1, 0, none⟩ = some (.map (some bm)) ∧ ∀ W', Below W.heap.size W W' → ∀ k : Int, k = 1 ∨ k = 2 ∨ k = 3 → (Instr.lookup 49 (.map (some bm)) (.int .i64 k) false).run Tryz.prog W' = .ok (.string ⟨(kindW k).toArray⟩) W' := by
  rcases open_map Tryz.underlying49 hd with ⟨_, hx⟩ | ⟨bm, es, clock, m, _, hcs, hb, _, F, hx⟩
  · simp [Rows.laid_loop_example_promotionengine_impl_kindNames] at hx
  simp only [Prod.mk.injEq] at hx
  obtain ⟨hdd, _⟩ := hx
  have hbm : bm < W.heap.size := (Array.getElem?_eq_some_iff.1 hb).1
  have hown := World.ownsMap_of_fit (R := plainElem Tryz.prog 9) hb F (fun x _ z hz => elemAt_plainElem_string Tryz.underlying9 hz)
  rw [← hdd] at hown
  have c0 := World.var?_cell gKinds hv 0
  have hcs' : cs = #[.map (some bm)] := by
    cases cs
    simp_all
  subst hcs'
  refine ⟨bm, by simpa using c0, fun W' hB k hk => ?_⟩
  obtain ⟨es', clock', hb', F', hle, hDD⟩ := hown
  have hown' : W'.ownsMap Tryz.prog 3 (plainElem Tryz.prog 9) bm es.size (Rows.laid_loop_example_promotionengine_impl_kindNames : DataW Unit) := ⟨es', clock', by rw [hB.block bm hbm]; exact hb', F', hle, hDD⟩
  have hw : (Lit.int .i64 k).wf = true := by rcases hk with rfl | rfl | rfl <;> decide
  obtain ⟨v, ps, hrun, hR⟩ := hown'.lookup keyInt Tryz.underlying49 (zeroStr _) (plainElem_string Tryz.underlying9 (s := ⟨#[]⟩) (by decide)) (keyOf_int_mk Tryz.underlying3 hw)
  obtain ⟨s, rfl, hz, _⟩ := plainElem_string_inv Tryz.underlying9 hR
  rw [hrun]
  simp only [Prod.mk.injEq] at hz
  have hs : s.data.toList = kindW k := by
    have h1 := hz.1
    rcases hk with rfl | rfl | rfl
    · have e : (Rows.laid_loop_example_promotionengine_impl_kindNames : DataW Unit).atKey (.int .i64 1) (.lit (.string [])) = .lit (.string (kindW 1)) := rfl
      rw [e] at h1
      simpa using h1.symm
    · have e : (Rows.laid_loop_example_promotionengine_impl_kindNames : DataW Unit).atKey (.int .i64 2) (.lit (.string [])) = .lit (.string (kindW 2)) := rfl
      rw [e] at h1
      simpa using h1.symm
    · have e : (Rows.laid_loop_example_promotionengine_impl_kindNames : DataW Unit).atKey (.int .i64 3) (.lit (.string [])) = .lit (.string (kindW 3)) := rfl
      rw [e] at h1
      simpa using h1.symm
  have hs2 : (⟨s.data.toList.toArray⟩ : ByteArray) = s := by cases s; simp
  rw [← hs, hs2]

end Go.Proofs.YtdofpealmngmiaaGreatDoor
