/- How a rule is opened; what the package's variables hold when the call begins. Conditions: none. -/
import Derived.Test.YtdofpealmngmiaaDoorOpen
import Derived.Test.YtdofpealmngmiaaDoorRE
import Derived.ProofKit
import Derived.LaidMore
import Derived.OpenShut
import Derived.OpenVars
import Derived.MakeChecks
import Derived.Stop.Joined
import Derived.Lib.LaidTab
import Derived.Maps.StringElems
import Derived.ChangeBears2
namespace Go.Proofs.YtdofpealmngmiaaDoor
open Go.ChangeShapes Go.WideShapes Go.ChangeAt Go.RowKit Go.WideElems Go.Maps

theorem cInt : Tryd.prog.cellsOf 3 = 1 := by kernel_rfl
theorem cSpan : Tryd.prog.cellsOf 34 = 2 := by kernel_rfl
theorem cSpans : Tryd.prog.cellsOf 35 = 1 := by kernel_rfl
theorem cGuard : Tryd.prog.cellsOf 37 = 4 := by kernel_rfl
theorem cRule : Tryd.prog.cellsOf 39 = 11 := by kernel_rfl

section
variable {H : Type} {enc : TypeId × Value → H} {w : World} {base : Nat} {spare : Nat → Bool} {held : Bool}
theorem int_cell {n : Nat} {a : Value} {y : Option (DataW H × List MemPlace)} (hy : y.isSome = true) (h : DataW.trod enc Tryd.prog w base spare held n 3 [a] = y) : ∃ z : Int, a = .int .i64 z := by
  cases y with
  | none => simp at hy
  | some y =>
    obtain ⟨z, e, _⟩ := DataW.trod_int Tryd.underlying3 h
    simp only [List.cons.injEq, and_true] at e
    exact ⟨z, e⟩

/-- A rule: ten numbers and the spans of its counts. -/
theorem open_rule {fuel : Nat} {a0 a1 a2 a3 a4 a5 a6 a7 a8 a9 a10 : Value} {x : DataW H × List MemPlace} (h : DataW.trod enc Tryd.prog w base spare held fuel 39 [a0, a1, a2, a3, a4, a5, a6, a7, a8, a9, a10] = some x) :
    ∃ r : Rl, Value.agg #[a0, a1, a2, a3, a4, a5, a6, a7, a8, a9, a10] = ruV r a9 ∧ Rd w 2 a9 r.counts.length (pr r.counts) := by
  obtain ⟨xs, n, _, _, _, hlen, hf⟩ := DataW.trod_struct Tryd.underlying39 h
  have hs : ∀ i, i < 8 → (xs[i]?).isSome = true := fun i hi => by
    have : xs.length = 8 := hlen
    rw [List.getElem?_eq_getElem (by omega)]; rfl
  have f0 : DataW.trod enc Tryd.prog w base spare held n 3 (([a0, a1, a2, a3, a4, a5, a6, a7, a8, a9, a10].drop 0).take (Tryd.prog.cellsOf 3)) = xs[0]? := hf 0 _ rfl
  have f1 : DataW.trod enc Tryd.prog w base spare held n 3 (([a0, a1, a2, a3, a4, a5, a6, a7, a8, a9, a10].drop 1).take (Tryd.prog.cellsOf 3)) = xs[1]? := hf 1 _ rfl
  have f2 : DataW.trod enc Tryd.prog w base spare held n 3 (([a0, a1, a2, a3, a4, a5, a6, a7, a8, a9, a10].drop 2).take (Tryd.prog.cellsOf 3)) = xs[2]? := hf 2 _ rfl
  have f3 : DataW.trod enc Tryd.prog w base spare held n 3 (([a0, a1, a2, a3, a4, a5, a6, a7, a8, a9, a10].drop 3).take (Tryd.prog.cellsOf 3)) = xs[3]? := hf 3 _ rfl
  have f4 : DataW.trod enc Tryd.prog w base spare held n 3 (([a0, a1, a2, a3, a4, a5, a6, a7, a8, a9, a10].drop 4).take (Tryd.prog.cellsOf 3)) = xs[4]? := hf 4 _ rfl
  have f5 : DataW.trod enc Tryd.prog w base spare held n 3 (([a0, a1, a2, a3, a4, a5, a6, a7, a8, a9, a10].drop 5).take (Tryd.prog.cellsOf 3)) = xs[5]? := hf 5 _ rfl
  have f6 : DataW.trod enc Tryd.prog w base spare held n 3 (([a0, a1, a2, a3, a4, a5, a6, a7, a8, a9, a10].drop 6).take (Tryd.prog.cellsOf 3)) = xs[6]? := hf 6 _ rfl
  have f7 : DataW.trod enc Tryd.prog w base spare held n 37 (([a0, a1, a2, a3, a4, a5, a6, a7, a8, a9, a10].drop 7).take (Tryd.prog.cellsOf 37)) = xs[7]? := hf 7 _ rfl
  rw [cInt] at f0 f1 f2 f3 f4 f5 f6
  rw [cGuard] at f7
  obtain ⟨z0, rfl⟩ := int_cell (hs 0 (by decide)) (show DataW.trod enc Tryd.prog w base spare held n 3 [a0] = _ from f0)
  obtain ⟨z1, rfl⟩ := int_cell (hs 1 (by decide)) (show DataW.trod enc Tryd.prog w base spare held n 3 [a1] = _ from f1)
  obtain ⟨z2, rfl⟩ := int_cell (hs 2 (by decide)) (show DataW.trod enc Tryd.prog w base spare held n 3 [a2] = _ from f2)
  obtain ⟨z3, rfl⟩ := int_cell (hs 3 (by decide)) (show DataW.trod enc Tryd.prog w base spare held n 3 [a3] = _ from f3)
  obtain ⟨z4, rfl⟩ := int_cell (hs 4 (by decide)) (show DataW.trod enc Tryd.prog w base spare held n 3 [a4] = _ from f4)
  obtain ⟨z5, rfl⟩ := int_cell (hs 5 (by decide)) (show DataW.trod enc Tryd.prog w base spare held n 3 [a5] = _ from f5)
  obtain ⟨z6, rfl⟩ := int_cell (hs 6 (by decide)) (show DataW.trod enc Tryd.prog w base spare held n 3 [a6] = _ from f6)
  have h7 := hs 7 (by decide)
  cases e7 : xs[7]? with
  | none => rw [e7] at h7; simp at h7
  | some y7 =>
  rw [e7] at f7
  obtain ⟨ys, m, _, _, _, hlen2, hg⟩ := DataW.trod_struct Tryd.underlying37 (show DataW.trod enc Tryd.prog w base spare held n 37 [a7, a8, a9, a10] = some y7 from f7)
  have ht : ∀ i, i < 3 → (ys[i]?).isSome = true := fun i hi => by
    have : ys.length = 3 := hlen2
    rw [List.getElem?_eq_getElem (by omega)]; rfl
  have g0 : DataW.trod enc Tryd.prog w base spare held m 34 (([a7, a8, a9, a10].drop 0).take (Tryd.prog.cellsOf 34)) = ys[0]? := hg 0 _ rfl
  have g1 : DataW.trod enc Tryd.prog w base spare held m 35 (([a7, a8, a9, a10].drop 2).take (Tryd.prog.cellsOf 35)) = ys[1]? := hg 1 _ rfl
  have g2 : DataW.trod enc Tryd.prog w base spare held m 3 (([a7, a8, a9, a10].drop 3).take (Tryd.prog.cellsOf 3)) = ys[2]? := hg 2 _ rfl
  rw [cSpan] at g0
  rw [cSpans] at g1
  rw [cInt] at g2
  obtain ⟨z10, rfl⟩ := int_cell (ht 2 (by decide)) (show DataW.trod enc Tryd.prog w base spare held m 3 [a10] = _ from g2)
  have k0 := ht 0 (by decide)
  have k1 := ht 1 (by decide)
  cases e0 : ys[0]? with
  | none => rw [e0] at k0; simp at k0
  | some u0 =>
  cases e1 : ys[1]? with
  | none => rw [e1] at k1; simp at k1
  | some u1 =>
  rw [e0] at g0
  rw [e1] at g1
  obtain ⟨s0, s1, q, _, _, t0, t1⟩ := trod_struct2 Tryd.underlying34 (show DataW.trod enc Tryd.prog w base spare held m 34 [a7, a8] = some u0 from g0)
  have t0 : DataW.trod enc Tryd.prog w base spare held q 3 (([a7, a8].drop 0).take (Tryd.prog.cellsOf 3)) = some s0 := t0
  have t1 : DataW.trod enc Tryd.prog w base spare held q 3 (([a7, a8].drop 1).take (Tryd.prog.cellsOf 3)) = some s1 := t1
  rw [cInt] at t0 t1
  obtain ⟨z7, rfl⟩ := int_cell rfl (show DataW.trod enc Tryd.prog w base spare held q 3 [a7] = some s0 from t0)
  obtain ⟨z8, rfl⟩ := int_cell rfl (show DataW.trod enc Tryd.prog w base spare held q 3 [a8] = some s1 from t1)
  obtain ⟨l, hl⟩ := open_prs Tryd.underlying35 Tryd.underlying34 cSpan rfl rfl cInt cInt Tryd.underlying3 Tryd.underlying3 (show DataW.trod enc Tryd.prog w base spare held m 35 [a9] = some u1 from g1)
  exact ⟨⟨z0, z1, z2, z3, z4, z5, z6, z7, z8, l, z10⟩, rfl, hl⟩
end

/-! ### What the package's variables hold -/
theorem gKinds : Tryd.prog.globalNamed "loop.example/promotionengine/impl.kindNames" = some 0 := by kernel_rfl
theorem gAll : Tryd.prog.globalNamed "loop.example/promotionengine/impl.anySpan" = some 1 := by kernel_rfl
theorem tKinds : (Tryd.prog.globals[0]?).map (·.type) = some 55 := by kernel_rfl
theorem tAll : (Tryd.prog.globals[1]?).map (·.type) = some 24 := by kernel_rfl
theorem keyInt : Keyed Tryd.prog 3 := int_keyed Tryd.underlying3

theorem gBig : Tryd.prog.globalNamed "math/bits.deBruijn64tab" = some 9 := by kernel_rfl
theorem gTen : Tryd.prog.globalNamed "internal/strconv.uint64pow10" = some 2 := by kernel_rfl
theorem tTen : (Tryd.prog.globals[2]?).map (·.type) = some 148 := by kernel_rfl
theorem cTen : Tryd.prog.cellsOf 148 = 20 := by kernel_rfl
theorem cU64 : Tryd.prog.cellsOf 123 = 1 := by kernel_rfl
theorem tenIs : (Rows.laid_internal_strconv_uint64pow10 : DataW Unit) = Lib.tabData .u64 Lib.pow10Tab := by kernel_rfl
theorem zeroStr (W : World) : (zeroValue 9).run Tryd.prog W = .ok (.string ⟨#[]⟩) W := by kernel_rfl

theorem var_lt {W : World} {n : String} {g : Nat} {cs : Array Value} (hg : Tryd.prog.globalNamed n = some g) (hv : W.var? Tryd.prog n = some cs) : g < W.heap.size := by
  unfold World.var? at hv
  rw [hg] at hv
  simp only [Option.bind_some] at hv
  cases hh : W.heap[g]? with
  | none => rw [hh] at hv; cases hv
  | some o => exact (Array.getElem?_eq_some_iff.1 hh).1

/-- The table of the powers of ten. -/
theorem tab_of {W : World} {cs : Array Value} {f : Nat} {p : List MemPlace} (hv : W.var? Tryd.prog "internal/strconv.uint64pow10" = some cs)
    (hd : DataW.trod (fun _ => ()) Tryd.prog W 0 (fun _ => true) false f 148 cs.toList = some (Rows.laid_internal_strconv_uint64pow10, p)) : Lib.TabIs Tryd.prog W "internal/strconv.uint64pow10" .u64 Lib.pow10Tab := by
  rw [tenIs] at hd
  have e := Lib.cells_of_tab Tryd.underlying148 Tryd.underlying123 cU64 cTen hd
  unfold Lib.TabIs
  rw [hv, ← e]

/-- The span of all numbers. -/
theorem span_of {W : World} {cs : Array Value} {f : Nat} {p : List MemPlace} (hv : W.var? Tryd.prog "loop.example/promotionengine/impl.anySpan" = some cs)
    (hd : DataW.trod (fun _ => ()) Tryd.prog W 0 (fun _ => true) false f 24 cs.toList = some (Rows.laid_loop_example_promotionengine_impl_anySpan, p)) :
    W.cell? ⟨1, 0, none⟩ = some (.int .i64 0) ∧ W.cell? ⟨1, 1, none⟩ = some (.int .i64 1000000) := by
  obtain ⟨y0, y1, n, hx, hl, h0, h1⟩ := trod_struct2 Tryd.underlying24 hd
  rw [show Tryd.prog.cellsOf 24 = 2 by kernel_rfl] at hl
  have c0 := World.var?_cell gAll hv 0
  have c1 := World.var?_cell gAll hv 1
  obtain ⟨l⟩ := cs
  rcases l with _ | ⟨a, _ | ⟨b, _ | ⟨b2, l2⟩⟩⟩
  · simp at hl
  · simp at hl
  · have h0 : DataW.trod (fun _ => ()) Tryd.prog W 0 (fun _ => true) false n 3 (([a, b].drop 0).take (Tryd.prog.cellsOf 3)) = some y0 := h0
    have h1 : DataW.trod (fun _ => ()) Tryd.prog W 0 (fun _ => true) false n 3 (([a, b].drop 1).take (Tryd.prog.cellsOf 3)) = some y1 := h1
    rw [cInt] at h0 h1
    obtain ⟨z0, e0, f0, _⟩ := DataW.trod_int Tryd.underlying3 (show DataW.trod (fun _ => ()) Tryd.prog W 0 (fun _ => true) false n 3 [a] = some y0 from h0)
    obtain ⟨z1, e1, f1, _⟩ := DataW.trod_int Tryd.underlying3 (show DataW.trod (fun _ => ()) Tryd.prog W 0 (fun _ => true) false n 3 [b] = some y1 from h1)
    simp only [List.cons.injEq, and_true] at e0 e1
    subst f0 f1 e0 e1
    simp only [Rows.laid_loop_example_promotionengine_impl_anySpan, Prod.mk.injEq, DataW.agg.injEq, List.cons.injEq, DataW.lit.injEq, Lit.int.injEq, true_and, and_true] at hx
    obtain ⟨⟨rfl, rfl⟩, _⟩ := hx
    exact ⟨by simpa using c0, by simpa using c1⟩
  · simp at hl

/-- The names of the kinds. -/
theorem kinds_of {W : World} {cs : Array Value} {f : Nat} {p : List MemPlace} (hv : W.var? Tryd.prog "loop.example/promotionengine/impl.kindNames" = some cs)
    (hd : DataW.trod (fun _ => ()) Tryd.prog W 0 (fun _ => true) false f 55 cs.toList = some (Rows.laid_loop_example_promotionengine_impl_kindNames, p)) :
    ∃ bm, W.cell? ⟨0, 0, none⟩ = some (.map (some bm)) ∧ ∀ W', Below W.heap.size W W' → ∀ k : Int, k = 1 ∨ k = 2 ∨ k = 3 → (Instr.lookup 55 (.map (some bm)) (.int .i64 k) false).run Tryd.prog W' = .ok (.string ⟨(kindW k).toArray⟩) W' := by
  rcases open_map Tryd.underlying55 hd with ⟨_, hx⟩ | ⟨bm, es, clock, m, _, hcs, hb, _, F, hx⟩
  · simp [Rows.laid_loop_example_promotionengine_impl_kindNames] at hx
  simp only [Prod.mk.injEq] at hx
  obtain ⟨hdd, _⟩ := hx
  have hbm : bm < W.heap.size := (Array.getElem?_eq_some_iff.1 hb).1
  have hown := World.ownsMap_of_fit (R := plainElem Tryd.prog 9) hb F (fun x _ z hz => elemAt_plainElem_string Tryd.underlying9 hz)
  rw [← hdd] at hown
  have c0 := World.var?_cell gKinds hv 0
  have hcs' : cs = #[.map (some bm)] := by
    cases cs
    simp_all
  subst hcs'
  refine ⟨bm, by simpa using c0, fun W' hB k hk => ?_⟩
  obtain ⟨es', clock', hb', F', hle, hDD⟩ := hown
  have hown' : W'.ownsMap Tryd.prog 3 (plainElem Tryd.prog 9) bm es.size (Rows.laid_loop_example_promotionengine_impl_kindNames : DataW Unit) := ⟨es', clock', by rw [hB.block bm hbm]; exact hb', F', hle, hDD⟩
  have hw : (Lit.int .i64 k).wf = true := by rcases hk with rfl | rfl | rfl <;> decide
  obtain ⟨v, ps, hrun, hR⟩ := hown'.lookup keyInt Tryd.underlying55 (zeroStr _) (plainElem_string Tryd.underlying9 (s := ⟨#[]⟩) (by decide)) (keyOf_int_mk Tryd.underlying3 hw)
  obtain ⟨s, rfl, hz, _⟩ := plainElem_string_inv Tryd.underlying9 hR
  rw [hrun]
  simp only [Prod.mk.injEq] at hz
  have hs : s.data.toList = kindW k := by
    have h1 := hz.1
    rcases hk with rfl | rfl | rfl
    · have e : (Rows.laid_loop_example_promotionengine_impl_kindNames : DataW Unit).atKey (.int .i64 1) (.lit (.string [])) = .lit (.string (kindW 1)) := rfl
      rw [e] at h1
      simpa using h1.symm
    · have e : (Rows.laid_loop_example_promotionengine_impl_kindNames : DataW Unit).atKey (.int .i64 2) (.lit (.string [])) = .lit (.string (kindW 2)) := rfl
      rw [e] at h1
      simpa using h1.symm
    · have e : (Rows.laid_loop_example_promotionengine_impl_kindNames : DataW Unit).atKey (.int .i64 3) (.lit (.string [])) = .lit (.string (kindW 3)) := rfl
      rw [e] at h1
      simpa using h1.symm
  have hs2 : (⟨s.data.toList.toArray⟩ : ByteArray) = s := by cases s; simp
  rw [← hs, hs2]

end Go.Proofs.YtdofpealmngmiaaDoor
