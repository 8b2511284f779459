/- Joined texts: What the package's variables hold when the call begins. What the package's variables hold when a call of the rows over ParseRule begins. The package's variables as the text lays them, for the rows over ParseRule: a world that holds them. Conditions: none. -/
import Derived.Test.YtijofgaekmahkaaGreatDoorM39
import Derived.ProofKit
import Derived.LaidMore
import Derived.OpenShut
import Derived.OpenVars
import Derived.MakeChecks
import Derived.Stop.Joined
import Derived.Lib.LaidTab
import Derived.Maps.StringElems
import Derived.ChangeBears2
import Derived.HandedShaped
import Derived.Lay
namespace Go.Proofs.YtijofgaekmahkaaGreatDoor
open Go.ChangeShapes Go.WideShapes Go.ChangeAt Go.RowKit Go.WideElems Go.Maps
theorem cInt : Tryz.prog.cellsOf 3 = 1 := by kernel_rfl
theorem gKinds : Tryz.prog.globalNamed "loop.example/promotionengine/impl.kindNames" = some 1 := by kernel_rfl
theorem gAll : Tryz.prog.globalNamed "loop.example/promotionengine/impl.anySpan" = some 0 := by kernel_rfl
theorem tKinds : (Tryz.prog.globals[1]?).map (·.type) = some 107 := by kernel_rfl
theorem tAll : (Tryz.prog.globals[0]?).map (·.type) = some 38 := by kernel_rfl
theorem keyInt : Keyed Tryz.prog 3 := int_keyed Tryz.underlying3
theorem gBig : Tryz.prog.globalNamed "math/bits.deBruijn64tab" = some 9 := by kernel_rfl
theorem gTen : Tryz.prog.globalNamed "internal/strconv.uint64pow10" = some 5 := by kernel_rfl
theorem tTen : (Tryz.prog.globals[5]?).map (·.type) = some 191 := by kernel_rfl
theorem cTen : Tryz.prog.cellsOf 191 = 20 := by kernel_rfl
theorem cU64 : Tryz.prog.cellsOf 161 = 1 := by kernel_rfl
theorem tenIs : (Rows.laid_internal_strconv_uint64pow10 : DataW Unit) = Lib.tabData .u64 Lib.pow10Tab := by kernel_rfl
theorem zeroStr (W : World) : (zeroValue 9).run Tryz.prog W = .ok (.string ⟨#[]⟩) W := by kernel_rfl
theorem var_lt {W : World} {n : String} {g : Nat} {cs : Array Value} (hg : Tryz.prog.globalNamed n = some g) (hv : W.var? Tryz.prog n = some cs) : g < W.heap.size := by
 unfold World.var? at hv
 rw [hg] at hv
 simp only [Option.bind_some] at hv
 cases hh : W.heap[g]? with
 | none => rw [hh] at hv; cases hv
 | some o => exact (Array.getElem?_eq_some_iff.1 hh).1
theorem tab_of {W : World} {cs : Array Value} {f : Nat} {p : List MemPlace} (hv : W.var? Tryz.prog "internal/strconv.uint64pow10" = some cs)
   (hd : DataW.trod (fun _ => ()) Tryz.prog W 0 (fun _ => true) false f 191 cs.toList = some (Rows.laid_internal_strconv_uint64pow10, p)) : Lib.TabIs Tryz.prog W "internal/strconv.uint64pow10" .u64 Lib.pow10Tab := by
 rw [tenIs] at hd
 have e := Lib.cells_of_tab Tryz.underlying191 Tryz.underlying161 cU64 cTen hd
 unfold Lib.TabIs
 rw [hv, ← e]
theorem span_of {W : World} {cs : Array Value} {f : Nat} {p : List MemPlace} (hv : W.var? Tryz.prog "loop.example/promotionengine/impl.anySpan" = some cs)
   (hd : DataW.trod (fun _ => ()) Tryz.prog W 0 (fun _ => true) false f 38 cs.toList = some (Rows.laid_loop_example_promotionengine_impl_anySpan, p)) :
   W.cell? ⟨0, 0, none⟩ = some (.int .i64 0) ∧ W.cell? ⟨0, 1, none⟩ = some (.int .i64 1000000) := by
 obtain ⟨y0, y1, n, hx, hl, h0, h1⟩ := trod_struct2 Tryz.underlying38 hd
 rw [show Tryz.prog.cellsOf 38 = 2 by kernel_rfl] at hl
 have c0 := World.var?_cell gAll hv 0
 have c1 := World.var?_cell gAll hv 1
 obtain ⟨l⟩ := cs
 rcases l with _ | ⟨a, _ | ⟨b, _ | ⟨b2, l2⟩⟩⟩
 · simp at hl
 · simp at hl
 · have h0 : DataW.trod (fun _ => ()) Tryz.prog W 0 (fun _ => true) false n 3 (([a, b].drop 0).take (Tryz.prog.cellsOf 3)) = some y0 := h0
   have h1 : DataW.trod (fun _ => ()) Tryz.prog W 0 (fun _ => true) false n 3 (([a, b].drop 1).take (Tryz.prog.cellsOf 3)) = some y1 := h1
   rw [cInt] at h0 h1
   obtain ⟨z0, e0, f0, _⟩ := DataW.trod_int Tryz.underlying3 (show DataW.trod (fun _ => ()) Tryz.prog W 0 (fun _ => true) false n 3 [a] = some y0 from h0)
   obtain ⟨z1, e1, f1, _⟩ := DataW.trod_int Tryz.underlying3 (show DataW.trod (fun _ => ()) Tryz.prog W 0 (fun _ => true) false n 3 [b] = some y1 from h1)
   simp only [List.cons.injEq, and_true] at e0 e1
   subst f0 f1 e0 e1
   simp only [Rows.laid_loop_example_promotionengine_impl_anySpan, Prod.mk.injEq, DataW.agg.injEq, List.cons.injEq, DataW.lit.injEq, Lit.int.injEq, true_and, and_true] at hx
   obtain ⟨⟨rfl, rfl⟩, _⟩ := hx
   exact ⟨by simpa using c0, by simpa using c1⟩
 · simp at hl
theorem kinds_of {W : World} {cs : Array Value} {f : Nat} {p : List MemPlace} (hv : W.var? Tryz.prog "loop.example/promotionengine/impl.kindNames" = some cs)
   (hd : DataW.trod (fun _ => ()) Tryz.prog W 0 (fun _ => true) false f 107 cs.toList = some (Rows.laid_loop_example_promotionengine_impl_kindNames, p)) :
   ∃ bm, W.cell? ⟨1, 0, none⟩ = some (.map (some bm)) ∧ ∀ W', Below W.heap.size W W' → ∀ k : Int, k = 1 ∨ k = 2 ∨ k = 3 → (Instr.lookup 107 (.map (some bm)) (.int .i64 k) false).run Tryz.prog W' = .ok (.string ⟨(kindW k).toArray⟩) W' := by
 rcases open_map Tryz.underlying107 hd with ⟨_, hx⟩ | ⟨bm, es, clock, m, _, hcs, hb, _, F, hx⟩
 · simp [Rows.laid_loop_example_promotionengine_impl_kindNames] at hx
 simp only [Prod.mk.injEq] at hx
 obtain ⟨hdd, _⟩ := hx
 have hbm : bm < W.heap.size := (Array.getElem?_eq_some_iff.1 hb).1
 have hown := World.ownsMap_of_fit (R := plainElem Tryz.prog 9) hb F (fun x _ z hz => elemAt_plainElem_string Tryz.underlying9 hz)
 rw [← hdd] at hown
 have c0 := World.var?_cell gKinds hv 0
 have hcs' : cs = #[.map (some bm)] := by
   cases cs
   simp_all
 subst hcs'
 refine ⟨bm, by simpa using c0, fun W' hB k hk => ?_⟩
 obtain ⟨es', clock', hb', F', hle, hDD⟩ := hown
 have hown' : W'.ownsMap Tryz.prog 3 (plainElem Tryz.prog 9) bm es.size (Rows.laid_loop_example_promotionengine_impl_kindNames : DataW Unit) := ⟨es', clock', by rw [hB.block bm hbm]; exact hb', F', hle, hDD⟩
 have hw : (Lit.int .i64 k).wf = true := by rcases hk with rfl | rfl | rfl <;> decide
 obtain ⟨v, ps, hrun, hR⟩ := hown'.lookup keyInt Tryz.underlying107 (zeroStr _) (plainElem_string Tryz.underlying9 (s := ⟨#[]⟩) (by decide)) (keyOf_int_mk Tryz.underlying3 hw)
 obtain ⟨s, rfl, hz, _⟩ := plainElem_string_inv Tryz.underlying9 hR
 rw [hrun]
 simp only [Prod.mk.injEq] at hz
 have hs : s.data.toList = kindW k := by
   have h1 := hz.1
   rcases hk with rfl | rfl | rfl
   · have e : (Rows.laid_loop_example_promotionengine_impl_kindNames : DataW Unit).atKey (.int .i64 1) (.lit (.string [])) = .lit (.string (kindW 1)) := rfl
     rw [e] at h1
     simpa using h1.symm
   · have e : (Rows.laid_loop_example_promotionengine_impl_kindNames : DataW Unit).atKey (.int .i64 2) (.lit (.string [])) = .lit (.string (kindW 2)) := rfl
     rw [e] at h1
     simpa using h1.symm
   · have e : (Rows.laid_loop_example_promotionengine_impl_kindNames : DataW Unit).atKey (.int .i64 3) (.lit (.string [])) = .lit (.string (kindW 3)) := rfl
     rw [e] at h1
     simpa using h1.symm
 have hs2 : (⟨s.data.toList.toArray⟩ : ByteArray) = s := by cases s; simp
 rw [← hs, hs2]
end Go.Proofs.YtijofgaekmahkaaGreatDoor

namespace Go.Proofs.YtijofgaekmahkaaGreatDoor
open Go.ChangeShapes Go.WideShapes Go.ChangeAt Go.RowKit Go.WideElems Go.Maps
theorem laid_get {P : Program} {w : World} : ∀ {l : List (String × DataW Unit)} {ps : List MemPlace}, DataW.LaidVars P w l ps → ∀ {n : String} {d : DataW Unit}, (n, d) ∈ l →
   ∃ g t cs fuel p, P.globalNamed n = some g ∧ (P.globals[g]?).map (·.type) = some t ∧ w.var? P n = some cs ∧ DataW.trod (fun _ => ()) P w 0 (fun _ => true) false fuel t cs.toList = some (d, p)
 | [], _, _, _, _, hm => by cases hm
 | (n0, d0) :: r, ps, h, n, d, hm => by
   obtain ⟨g, t, cs, fuel, p, q, h1, h2, h3, h4, h5, _⟩ := h
   rcases List.mem_cons.1 hm with e | hm
   · cases e
     exact ⟨g, t, cs, fuel, p, h1, h2, h3, h4⟩
   · exact laid_get h5 hm
theorem iface_cell {H : Type} {enc : TypeId × Value → H} {P : Program} {w : World} {base : Nat} {spare : Nat → Bool} {held : Bool} {t : TypeId} {f : Nat} {cs : List Value} {n : String} {d : DataW H} {p : List MemPlace}
   (ht : ∃ m, P.underlying t = some (.interface m)) (h : DataW.trod enc P w base spare held f t cs = some (.iface n d, p)) : ∃ u v, cs = [.iface u v] := by
 obtain ⟨m, ht⟩ := ht
 cases f with
 | zero => simp [DataW.trod] at h
 | succ f =>
   unfold DataW.trod at h
   rw [ht] at h
   split at h <;> simp_all
theorem gSyn : Tryz.prog.globalNamed "strconv.ErrSyntax" = some 3 := by kernel_rfl
theorem gRan : Tryz.prog.globalNamed "strconv.ErrRange" = some 4 := by kernel_rfl
theorem tSyn : (Tryz.prog.globals[3]?).map (·.type) = some 99 := by kernel_rfl
theorem tRan : (Tryz.prog.globals[4]?).map (·.type) = some 99 := by kernel_rfl
theorem err_cell {W : World} {n : String} {g : Nat} {cs : Array Value} {f : Nat} {p : List MemPlace} {nm : String} {d : DataW Unit} (hg : Tryz.prog.globalNamed n = some g) (hv : W.var? Tryz.prog n = some cs)
   (hd : DataW.trod (fun _ => ()) Tryz.prog W 0 (fun _ => true) false f 99 cs.toList = some (.iface nm d, p)) : ∃ te pe, W.cell? ⟨g, 0, none⟩ = some (.iface te pe) := by
 obtain ⟨u, v, hcs⟩ := iface_cell ⟨_, Tryz.underlying99⟩ hd
 have c0 := World.var?_cell hg hv 0
 have e : cs = #[.iface u v] := by cases cs; simp_all
 subst e
 exact ⟨u, v, by simpa using c0⟩
abbrev laidP : List (String × DataW Unit) := Rows.fnExactRunSessionRow.laid
theorem envP_of_laid {W : World} (h : laidMetH Tryz.prog laidP W) (hsh : W.ShapedOpen Tryz.prog) : EnvB W.heap.size W := by
 rw [MakeChecks.laidMetH_plain _ _ _ (by kernel_rfl)] at h
 obtain ⟨ps, h, _⟩ := h
 obtain ⟨gb, tb, csb, fb, pb, hgb, htb, hvb, hdb⟩ := laid_get h (n := "math/bits.deBruijn64tab") (List.mem_of_getElem? (i := 1) rfl)
 obtain ⟨gc, tc, csc, fc, pc, hgc, htc, hvc, hdc⟩ := laid_get h (n := "internal/strconv.uint64pow10") (List.mem_of_getElem? (i := 2) rfl)
 obtain ⟨gr, tr, csr, fr, pr, hgr, htr, hvr, hdr⟩ := laid_get h (n := "strconv.ErrRange") (List.mem_of_getElem? (i := 4) rfl)
 obtain ⟨gs, ts, css, fs, ps, hgs, hts, hvs, hds⟩ := laid_get h (n := "strconv.ErrSyntax") (List.mem_of_getElem? (i := 5) rfl)
 obtain ⟨gd, td, csd, fd, pd, hgd, htd, hvd, hdd⟩ := laid_get h (n := "loop.example/promotionengine/impl.anySpan") (List.mem_of_getElem? (i := 6) rfl)
 obtain ⟨ge, te, cse, fe, pe, hge, hte, hve, hde⟩ := laid_get h (n := "loop.example/promotionengine/impl.kindNames") (List.mem_of_getElem? (i := 7) rfl)
 obtain rfl := Option.some.inj (gTen.symm.trans hgc)
 obtain rfl := Option.some.inj (tTen.symm.trans htc)
 obtain rfl := Option.some.inj (gAll.symm.trans hgd)
 obtain rfl := Option.some.inj (tAll.symm.trans htd)
 obtain rfl := Option.some.inj (gKinds.symm.trans hge)
 obtain rfl := Option.some.inj (tKinds.symm.trans hte)
 obtain rfl := Option.some.inj (gSyn.symm.trans hgs)
 obtain rfl := Option.some.inj (tSyn.symm.trans hts)
 obtain rfl := Option.some.inj (gRan.symm.trans hgr)
 obtain rfl := Option.some.inj (tRan.symm.trans htr)
 have h1 := span_of hvd hdd
 have hsz := var_lt gBig hvb
 have h7 : 7 < W.heap.size := by omega
 have e0 : Env0 W := ⟨tab_of hvc hdc, h7, kinds_of hve hde, h1.1, h1.2⟩
 have hm : ∃ m, W.cell? ⟨2, 0, none⟩ = some (.int .i64 m) :=
   Go.Proofs.cell_of_shapedOpen_int (zero := #[.int .i64 0]) (t := 3) hsh (of_decide_eq_true (by kernel_rfl)) (by kernel_rfl) rfl (by kernel_rfl) (by kernel_rfl) Tryz.underlying3
 exact ⟨W, Nat.le_refl _, e0, ⟨⟨W, e0, Below.refl _ _⟩, hm, err_cell gSyn hvs hds, err_cell gRan hvr hdr, h7⟩, Below.refl _ _⟩
theorem handed_shaped {H : Type} {enc : TypeId × Value → H} {a : Assume} {C : Checked} {os : Os} {f : FuncId} {fn : Func} {s : ChangeSpec} {conds : List PathCond} {apart fresh handsOn again : Bool} {X : World → Array Value → Prop}
   (hX : ∀ (w w' : World) (args : Array Value), w.heap = w'.heap → X w args → X w' args)
   (own : ownKnob C.prog.godebug = none) (started : os.Started) (noInit : C.prog.inits.idxOf? f = none) (hfn : C.prog.funcs[f]? = some fn)
   (witness : ∃ (w : World) (tape : Tape) (i : Input), w.os = os ∧ (w.forCall tape i).Shaped C.prog ∧ i.vars = [] ∧ Input.okWide C.prog (w.forCall tape i) .any w.heap.size f i ∧
     ((s.pre enc C.prog fn conds apart (w.forCall tape i).memory i.args ∧ X (w.forCall tape i).memory i.args) ∧ sizedMet enc C.prog fn (OpenSpec.ofChange s) apart (w.forCall tape i).memory i.args) ∧ a.holds C.prog (lone (Frame.enter C.prog f i.args .normal) [] (w.forCall tape i)))
   (run : ∀ (W : World) (base : Nat) (args : Array Value) (ds gs : List (DataW H)) (before : List MemPlace),
     (∀ (j : Nat) t v, fn.params[j]? = some t → args[j]? = some v → Value.okWide C.prog W .any base t v) →
     DataW.Whole enc C.prog fn.params.toList s.vars apart W args.toList ds gs before → X W args → W.ShapedOpen C.prog →
     Calls C.prog f args W fun e W' => ∃ v, e = .returned v ∧ s.post enc C.prog fn apart fresh handsOn again W args v W') :
   ReturnsInHanded a C os f .any (fun w args => (s.pre enc C.prog fn conds apart w args ∧ X w args) ∧ sizedMet enc C.prog fn (OpenSpec.ofChange s) apart w args) (s.post enc C.prog fn apart fresh handsOn again) := by
 refine returnsInHanded_of_calls own started noInit witness ?_
 intro w tape i _ hsh _ hok hpre _
 obtain ⟨_, _, _, fn', hfn', _, _, _, _, hval⟩ := hok
 obtain rfl : fn' = fn := Option.some.inj (hfn'.symm.trans hfn)
 obtain ⟨⟨⟨ds, gs, before, hw, _⟩, hx⟩, _⟩ := hpre
 refine (run (w.forCall tape i) w.heap.size i.args ds gs before hval (DataW.Whole.of_heap (w' := w.forCall tape i) (by rfl) hw) (hX _ _ _ (by rfl) hx) hsh).mono fun e W' ⟨v, he, hp⟩ => ?_
 subst he
 exact ChangeSpec.post_blind hp
theorem lawOwnP : ownKnob Tryz.prog.godebug = none := by kernel_rfl
theorem lawOutP : laidOutB Tryz.prog = true := by kernel_rfl
end Go.Proofs.YtijofgaekmahkaaGreatDoor

namespace Go.Proofs.YtijofgaekmahkaaGreatDoor
open Go.ChangeShapes Go.WideShapes Go.ChangeAt Go.RowKit
noncomputable def worldP (os : Os) : World := (World.doorLaid Tryz.prog 400 os).layVars Tryz.prog [("unicode/utf8.first", Go.Pinned.utf8First)]
theorem worldP_os (os : Os) : (worldP os).os = os := World.layVars_os _ _ _
noncomputable def blocksP (os : Os) : List Nat := (List.range (World.doorLaid Tryz.prog 400 os).heap.size).filter (fun b => b != 6)
theorem restP (os : Os) : LaidIn Tryz.prog (worldP os) (laidP.filter fun x => !["unicode/utf8.first"].contains x.1) (blocksP os) :=
 LaidIn.of_run (blocksP os) 8 (by kernel_rfl) (by kernel_rfl) (by kernel_rfl) (by kernel_rfl)
theorem metP (os : Os) : laidMet Tryz.prog laidP (worldP os) :=
 laidMet_layVars (w0 := World.doorLaid Tryz.prog 400 os) ["unicode/utf8.first"] (blocksP os) (by kernel_rfl) (by kernel_rfl) (by kernel_rfl) (restP os)
theorem laidMetP (os : Os) (args : Array Value) : laidMetH Tryz.prog laidP ((worldP os).forCall (fun _ _ => 0) ⟨#[], args, []⟩).memory := by
 rw [MakeChecks.laidMetH_plain _ _ _ (by kernel_rfl)]
 exact (metP os).of_heap (by simp [World.memory, World.forCall, Input.heap])
theorem laidShapedP (os : Os) (args : Array Value) : ((worldP os).forCall (fun _ _ => 0) ⟨#[], args, []⟩).Shaped Tryz.checked.prog := World.shaped_of_ZipB (by kernel_rfl) (by kernel_rfl)
end Go.Proofs.YtijofgaekmahkaaGreatDoor
