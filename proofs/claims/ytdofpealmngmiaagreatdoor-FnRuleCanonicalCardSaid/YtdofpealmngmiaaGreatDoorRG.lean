/- Walks: the text of a rule in the program: rows of words. Conditions: none. -/
import Derived.Test.YtdofpealmngmiaaGreatDoorRE
import Derived.Laws.AppendOwn
namespace Go.Proofs.YtdofpealmngmiaaGreatDoor
open Go.RowKit

/-- words as cells -/
def sw (ws : List (List UInt8)) : List Value := ws.map fun x => Value.string ⟨x.toArray⟩
theorem sw_len (ws : List (List UInt8)) : (sw ws).length = ws.length := by simp [sw]
theorem sw_append (a b : List (List UInt8)) : sw (a ++ b) = sw a ++ sw b := by simp [sw]

theorem cells_new (w : World) (xs : List Value) (t : TypeId) : ∀ j u, xs[j]? = some u → (w.alloc (.cells xs.toArray t)).cell? ((⟨w.heap.size, 0, none⟩ : Addr).add j) = some u := by
  intro j u h
  have : ((⟨w.heap.size, 0, none⟩ : Addr).add j) = ⟨w.heap.size, j, none⟩ := by unfold Addr.add; simp; try omega
  rw [this, cell_of_row _ _ j _ _ _ (heap_alloc_new w _)]
  simpa using h

/-- append of new words to a row of the call's own. -/
theorem app_words {P : Program} {w : World} {ops : Array Oper} {rest : List Oper} {o : Oper} {a : Act} {Q : Exit → Act → World → Prop} (hgd : o.guard = none) (s x : Operand) (t : TypeId)
    (ho : o.op = .call { callee := .builtin .append, args := #[s, x], argTypes := #[t, t] }) (base : Nat) (e t2 : TypeId) (i : TypeInfo) (z : Value) (ht : P.underlying t = some (.slice e)) (hi : P.info? e = some i) (hz : i.zero = some z)
    (hs : i.size = 1) (hby : i.bytes = 16) (hzs : z.cells.size = 1) (v : Value) (ws : List (List UInt8)) (ys : List (List UInt8)) (xs : List Value) (hxs : xs = sw ys) (c : Nat) (hv : a.eval s = v) (hown : w.ownsRow base e 1 v ws.length (sw ws))
    (hx : a.eval x = .slice (some ⟨w.heap.size, 0, none⟩) ys.length c) (hlen : ws.length ≤ 100000) (hlen2 : ys.length ≤ 100000) (hbase : base ≤ w.heap.size)
    (h : ∀ v' w1, w1.ownsRow base e 1 v' (ws ++ ys).length (sw (ws ++ ys)) → (w.alloc (.cells xs.toArray t2)).grownBy w1 v.ownBlock → wpList P ops Q rest (a.put o.dst v') w1) :
    wpList P ops Q (o :: rest) a (w.alloc (.cells xs.toArray t2)) := by
  subst hxs
  refine wpList_append_own _ hgd s x t ho base e i z 1 16 ht hi hz hs hby hzs (by decide) v ws.length (sw ws) hv (hown.alloc _) ⟨w.heap.size, 0, none⟩ ys.length c (sw ys) hx (by rw [sw_len, Nat.mul_one]) (cells_new w _ t2) (by
    intro u hu
    obtain ⟨y, _, rfl⟩ := List.mem_map.1 hu
    rfl) (by unfold maxLen; omega) (by omega) (by rw [World.size_alloc]; omega) ?_
  intro v' w1 h1 h2 _
  refine h v' w1 ?_ h2
  rw [List.length_append, sw_append]
  exact h1

theorem two_fields {fs : List Field} {T : TypeId} (h : fs.map (fun f => (f.name == "_", f.type, f.offset)) = [(false, T, 0), (false, T, 1)]) :
    ∃ f0 f1, fs = [f0, f1] ∧ f0.name ≠ "_" ∧ f0.type = T ∧ f0.offset = 0 ∧ f1.name ≠ "_" ∧ f1.type = T ∧ f1.offset = 1 := by
  match fs, h with
  | [], h => simp at h
  | [_], h => simp at h
  | _ :: _ :: _ :: _, h => simp at h
  | [f0, f1], h =>
    simp only [List.map_cons, List.map_nil, List.cons.injEq, Prod.mk.injEq, beq_eq_false_iff_ne, and_true] at h
    exact ⟨f0, f1, rfl, h.1.1, h.1.2.1, h.1.2.2, h.2.1, h.2.2.1, h.2.2.2⟩

theorem neqSpan (a b : Int) (w : World) : (binOp .neq 25 (.agg #[.int .i64 a, .int .i64 b]) (.agg #[.int .i64 0, .int .i64 1000000])).run Tryz.prog w = .ok (.bool (!allSp a b)) w := by
  have h1 : Tryz.prog.underlying 25 = some (.struct (Tryz.prog.fieldsOf 25)) := by kernel_rfl
  have h2 : Tryz.prog.stoodInHeld 25 = false := by kernel_rfl
  have h3 : (Tryz.prog.fieldsOf 25).toList.map (fun f => (f.name == "_", f.type, f.offset)) = [(false, 3, 0), (false, 3, 1)] := by kernel_rfl
  have p0 : ∀ x y : Value, (part 3 #[x, y] 0).run Tryz.prog w = .ok x w := fun x y => by kernel_rfl
  have p1 : ∀ x y : Value, (part 3 #[x, y] 1).run Tryz.prog w = .ok y w := fun x y => by kernel_rfl
  have hu : ∀ x y : Int, (Op.equalIn (9998 + 1) 3 (.int .i64 x) (.int .i64 y)).run Tryz.prog w = .ok (x == y) w := fun x y => run_equalIn_int w 9998 3 .i64 .i64 x y Tryz.underlying3
  obtain ⟨f0, f1, hf, n0, t0, o0, n1, t1, o1⟩ := two_fields h3
  rw [run_neq_struct, run_equalIn_agg w _ _ _ _ h1 h2, hf]
  cases hx : (a == 0) <;> cases hy : (b == 1000000) <;>
    simp [Op.eqFields, n0, t0, o0, n1, t1, o1, p0, p1, hu, allSp, hx, hy] <;> simp_all

/-! ### The state of the writing -/
theorem RuAt.of_block {W W' : World} {g : Nat} {r : Rl} {v : Value} (h : RuAt W g r v) (hb : W'.heap[g]? = W.heap[g]?) (hs : W.heap.size ≤ W'.heap.size) : RuAt W' g r v :=
  ⟨Nat.lt_of_lt_of_le h.1 hs, fun i u hu => (World.cell?_of_block (w := W) (a := ⟨g, i, none⟩) hb).trans (h.2 i u hu)⟩

structure St (w : World) (r : Rl) (v v4 : Value) (ws : List (List UInt8)) (W : World) : Prop where
  below : Below w.heap.size w W
  box : RuAt W w.heap.size r v
  own : W.ownsRow (w.heap.size + 1) 9 1 v4 ws.length (sw ws)

theorem St.step {w W W' : World} {r : Rl} {v v4 : Value} {ws : List (List UInt8)} (h : St w r v v4 ws W) (hb : Below W.heap.size W W') : St w r v v4 ws W' :=
  ⟨h.below.trans (hb.mono h.below.size), h.box.below hb (Nat.le_refl _), ownsRow_below h.own hb (Nat.le_refl _)⟩
theorem St.alloc {w W : World} {r : Rl} {v v4 : Value} {ws : List (List UInt8)} (h : St w r v v4 ws W) (o : Obj) : St w r v v4 ws (W.alloc o) := h.step ((Below.refl _ W).alloc (Nat.le_refl _) o)
theorem St.app {w W W' : World} {r : Rl} {v v4 v' : Value} {ws zs : List (List UInt8)} {o : Obj} (h : St w r v v4 ws W) (hg : (W.alloc o).grownBy W' v4.ownBlock) (ho : W'.ownsRow (w.heap.size + 1) 9 1 v' zs.length (sw zs)) : St w r v v' zs W' := by
  have h1 := h.alloc o
  have hlt : ∀ k, v4.ownBlock = some k → w.heap.size + 1 ≤ k := fun k hk => (h.own.lt k hk).1
  refine ⟨Below.grown h1.below hg h1.below.size (fun k hk => Nat.le_of_succ_le (hlt k hk)), h1.box.of_block (hg.block _ h1.box.1 (fun e => ?_)) hg.size, ho⟩
  have := hlt _ e.symm
  omega
theorem St.size {w W : World} {r : Rl} {v v4 : Value} {ws : List (List UInt8)} (h : St w r v v4 ws W) : w.heap.size + 1 ≤ W.heap.size := h.box.1
/-- the first words -/
theorem St.start {w W : World} {r : Rl} {v : Value} (hb : Below w.heap.size w W) (hr : RuAt W w.heap.size r v) (ws : List (List UInt8)) (xs : List Value) (hxs : xs = sw ws) (n : Nat) (hn : n = ws.length) (hl : n ≤ 1000) :
    St w r v (.slice (some ⟨W.heap.size, 0, none⟩) n n) ws (W.alloc (.cells xs.toArray 9)) := by
  subst hxs hn
  have hb1 := (Below.refl W.heap.size W).alloc (Nat.le_refl _) (.cells (sw ws).toArray 9)
  refine ⟨hb.trans (hb1.mono hb.size), hr.below hb1 (Nat.le_refl _), by rw [sw_len, Nat.mul_one], .inr ⟨W.heap.size, ws.length, (sw ws).toArray, rfl, hr.1, heap_alloc_new W _, Nat.le_refl _, by unfold maxLen; omega, by simp [sw], ?_⟩⟩
  rw [Nat.mul_one, List.take_of_length_le (by simp [sw])]

end Go.Proofs.YtdofpealmngmiaaGreatDoor
