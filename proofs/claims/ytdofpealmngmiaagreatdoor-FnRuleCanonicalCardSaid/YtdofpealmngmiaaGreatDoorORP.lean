/- What the package's variables hold when a call of the rows over ParseRule begins. Conditions: none. -/
import Derived.Test.YtdofpealmngmiaaGreatDoorOV
import Derived.Test.YtdofpealmngmiaaGreatDoorSN
import Derived.HandedShaped
namespace Go.Proofs.YtdofpealmngmiaaGreatDoor
open Go.ChangeShapes Go.WideShapes Go.ChangeAt Go.RowKit Go.WideElems Go.Maps

/-- one of the listed variables -/
theorem laid_get {P : Program} {w : World} : ∀ {l : List (String × DataW Unit)} {ps : List MemPlace}, DataW.LaidVars P w l ps → ∀ {n : String} {d : DataW Unit}, (n, d) ∈ l →
    ∃ g t cs fuel p, P.globalNamed n = some g ∧ (P.globals[g]?).map (·.type) = some t ∧ w.var? P n = some cs ∧ DataW.trod (fun _ => ()) P w 0 (fun _ => true) false fuel t cs.toList = some (d, p)
  | [], _, _, _, _, hm => by cases hm
  | (n0, d0) :: r, ps, h, n, d, hm => by
    obtain ⟨g, t, cs, fuel, p, q, h1, h2, h3, h4, h5, _⟩ := h
    rcases List.mem_cons.1 hm with e | hm
    · cases e
      exact ⟨g, t, cs, fuel, p, h1, h2, h3, h4⟩
    · exact laid_get h5 hm

/-- a variable that reads as an error holds an interface value -/
theorem iface_cell {H : Type} {enc : TypeId × Value → H} {P : Program} {w : World} {base : Nat} {spare : Nat → Bool} {held : Bool} {t : TypeId} {f : Nat} {cs : List Value} {n : String} {d : DataW H} {p : List MemPlace}
    (ht : ∃ m, P.underlying t = some (.interface m)) (h : DataW.trod enc P w base spare held f t cs = some (.iface n d, p)) : ∃ u v, cs = [.iface u v] := by
  obtain ⟨m, ht⟩ := ht
  cases f with
  | zero => simp [DataW.trod] at h
  | succ f =>
    unfold DataW.trod at h
    rw [ht] at h
    split at h <;> simp_all

theorem gSyn : Tryz.prog.globalNamed "strconv.ErrSyntax" = some 6 := by kernel_rfl
theorem gRan : Tryz.prog.globalNamed "strconv.ErrRange" = some 7 := by kernel_rfl
theorem tSyn : (Tryz.prog.globals[6]?).map (·.type) = some 80 := by kernel_rfl
theorem tRan : (Tryz.prog.globals[7]?).map (·.type) = some 80 := by kernel_rfl

theorem err_cell {W : World} {n : String} {g : Nat} {cs : Array Value} {f : Nat} {p : List MemPlace} {nm : String} {d : DataW Unit} (hg : Tryz.prog.globalNamed n = some g) (hv : W.var? Tryz.prog n = some cs)
    (hd : DataW.trod (fun _ => ()) Tryz.prog W 0 (fun _ => true) false f 80 cs.toList = some (.iface nm d, p)) : ∃ te pe, W.cell? ⟨g, 0, none⟩ = some (.iface te pe) := by
  obtain ⟨u, v, hcs⟩ := iface_cell ⟨_, Tryz.underlying80⟩ hd
  have c0 := World.var?_cell hg hv 0
  have e : cs = #[.iface u v] := by cases cs; simp_all
  subst e
  exact ⟨u, v, by simpa using c0⟩

/-- The variables that the rows list, as the text lays them. -/
abbrev laidP : List (String × DataW Unit) := Rows.fnRuleCanonicalRow.laid

theorem envP_of_laid {W : World} (h : laidMetH Tryz.prog laidP W) (hsh : W.ShapedOpen Tryz.prog) : EnvB W.heap.size W := by
  rw [MakeChecks.laidMetH_plain _ _ _ (by kernel_rfl)] at h
  obtain ⟨ps, h, _⟩ := h
  obtain ⟨gb, tb, csb, fb, pb, hgb, htb, hvb, hdb⟩ := laid_get h (n := "math/bits.deBruijn64tab") (List.mem_of_getElem? (i := 1) rfl)
  obtain ⟨gc, tc, csc, fc, pc, hgc, htc, hvc, hdc⟩ := laid_get h (n := "internal/strconv.uint64pow10") (List.mem_of_getElem? (i := 2) rfl)
  obtain ⟨gr, tr, csr, fr, pr, hgr, htr, hvr, hdr⟩ := laid_get h (n := "strconv.ErrRange") (List.mem_of_getElem? (i := 4) rfl)
  obtain ⟨gs, ts, css, fs, ps, hgs, hts, hvs, hds⟩ := laid_get h (n := "strconv.ErrSyntax") (List.mem_of_getElem? (i := 5) rfl)
  obtain ⟨gd, td, csd, fd, pd, hgd, htd, hvd, hdd⟩ := laid_get h (n := "loop.example/promotionengine/impl.anySpan") (List.mem_of_getElem? (i := 6) rfl)
  obtain ⟨ge, te, cse, fe, pe, hge, hte, hve, hde⟩ := laid_get h (n := "loop.example/promotionengine/impl.kindNames") (List.mem_of_getElem? (i := 7) rfl)
  obtain rfl := Option.some.inj (gTen.symm.trans hgc)
  obtain rfl := Option.some.inj (tTen.symm.trans htc)
  obtain rfl := Option.some.inj (gAll.symm.trans hgd)
  obtain rfl := Option.some.inj (tAll.symm.trans htd)
  obtain rfl := Option.some.inj (gKinds.symm.trans hge)
  obtain rfl := Option.some.inj (tKinds.symm.trans hte)
  obtain rfl := Option.some.inj (gSyn.symm.trans hgs)
  obtain rfl := Option.some.inj (tSyn.symm.trans hts)
  obtain rfl := Option.some.inj (gRan.symm.trans hgr)
  obtain rfl := Option.some.inj (tRan.symm.trans htr)
  have h1 := span_of hvd hdd
  have hsz := var_lt gBig hvb
  have h7 : 7 < W.heap.size := by omega
  have e0 : Env0 W := ⟨tab_of hvc hdc, h7, kinds_of hve hde, h1.1, h1.2⟩
  have hm : ∃ m, W.cell? ⟨2, 0, none⟩ = some (.int .i64 m) :=
    Go.Proofs.cell_of_shapedOpen_int (zero := #[.int .i64 0]) (t := 3) hsh (of_decide_eq_true (by kernel_rfl)) (by kernel_rfl) rfl (by kernel_rfl) (by kernel_rfl) Tryz.underlying3
  exact ⟨W, Nat.le_refl _, e0, ⟨⟨W, e0, Below.refl _ _⟩, hm, err_cell gSyn hvs hds, err_cell gRan hvr hdr, h7⟩, Below.refl _ _⟩

/-- The wrap that hands on both what the row lists and the world's shape. -/
theorem handed_shaped {H : Type} {enc : TypeId × Value → H} {a : Assume} {C : Checked} {os : Os} {f : FuncId} {fn : Func} {s : ChangeSpec} {conds : List PathCond} {apart fresh handsOn again : Bool} {X : World → Array Value → Prop}
    (hX : ∀ (w w' : World) (args : Array Value), w.heap = w'.heap → X w args → X w' args)
    (own : ownKnob C.prog.godebug = none) (started : os.Started) (noInit : C.prog.inits.idxOf? f = none) (hfn : C.prog.funcs[f]? = some fn)
    (witness : ∃ (w : World) (tape : Tape) (i : Input), w.os = os ∧ (w.forCall tape i).Shaped C.prog ∧ i.vars = [] ∧ Input.okWide C.prog (w.forCall tape i) .any w.heap.size f i ∧
      ((s.pre enc C.prog fn conds apart (w.forCall tape i).memory i.args ∧ X (w.forCall tape i).memory i.args) ∧ sizedMet enc C.prog fn (OpenSpec.ofChange s) apart (w.forCall tape i).memory i.args) ∧ a.holds C.prog (lone (Frame.enter C.prog f i.args .normal) [] (w.forCall tape i)))
    (run : ∀ (W : World) (base : Nat) (args : Array Value) (ds gs : List (DataW H)) (before : List MemPlace),
      (∀ (j : Nat) t v, fn.params[j]? = some t → args[j]? = some v → Value.okWide C.prog W .any base t v) →
      DataW.Whole enc C.prog fn.params.toList s.vars apart W args.toList ds gs before → X W args → W.ShapedOpen C.prog →
      Calls C.prog f args W fun e W' => ∃ v, e = .returned v ∧ s.post enc C.prog fn apart fresh handsOn again W args v W') :
    ReturnsInHanded a C os f .any (fun w args => (s.pre enc C.prog fn conds apart w args ∧ X w args) ∧ sizedMet enc C.prog fn (OpenSpec.ofChange s) apart w args) (s.post enc C.prog fn apart fresh handsOn again) := by
  refine returnsInHanded_of_calls own started noInit witness ?_
  intro w tape i _ hsh _ hok hpre _
  obtain ⟨_, _, _, fn', hfn', _, _, _, _, hval⟩ := hok
  obtain rfl : fn' = fn := Option.some.inj (hfn'.symm.trans hfn)
  obtain ⟨⟨⟨ds, gs, before, hw, _⟩, hx⟩, _⟩ := hpre
  refine (run (w.forCall tape i) w.heap.size i.args ds gs before hval (DataW.Whole.of_heap (w' := w.forCall tape i) (by rfl) hw) (hX _ _ _ (by rfl) hx) hsh).mono fun e W' ⟨v, he, hp⟩ => ?_
  subst he
  exact ChangeSpec.post_blind hp

theorem lawOwnP : ownKnob Tryz.prog.godebug = none := by kernel_rfl
theorem lawOutP : laidOutB Tryz.prog = true := by kernel_rfl

end Go.Proofs.YtdofpealmngmiaaGreatDoor
