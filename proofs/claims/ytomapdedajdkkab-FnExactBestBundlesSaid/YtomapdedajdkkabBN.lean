/- Bundles as rows of cells, and the parts that they hold. Conditions: none. -/
import Derived.Test.YtomapdedajdkkabCF
import Derived.Test.YtomapdedajdkkabRdr
namespace Go.Proofs.Ytomapdedajdkkab
open Go.RowKit

/-- A bundle: its parts, the slice that holds them, its price. -/
structure Bn where
  l : List (Int × Int)
  v : Value
  p : Int

def bn (B : List Bn) : List Value := B.flatMap fun x => [x.v, Value.int .i64 x.p]
def bZ : Bn := ⟨[], .slice none 0 0, 0⟩
def bT (B : List Bn) (k : Nat) : Bn := B.getD k bZ

theorem bn_cons (x : Bn) (B : List Bn) : bn (x :: B) = x.v :: Value.int .i64 x.p :: bn B := by simp [bn]
theorem bn_append (B C : List Bn) : bn (B ++ C) = bn B ++ bn C := by simp [bn, List.flatMap_append]
theorem bn_len (B : List Bn) : (bn B).length = B.length * 2 := by
  induction B with
  | nil => rfl
  | cons a l ih => rw [bn_cons, List.length_cons, List.length_cons, List.length_cons, ih]; omega

theorem bn_get (B : List Bn) (k : Nat) (hk : k < B.length) : (bn B)[k * 2]? = some (bT B k).v ∧ (bn B)[k * 2 + 1]? = some (.int .i64 (bT B k).p) := by
  induction B generalizing k with
  | nil => simp at hk
  | cons a l ih =>
    rw [bn_cons]
    match k, hk with
    | 0, _ => simp [bT]
    | k + 1, hk =>
      have := ih k (by simpa using hk)
      simpa [Nat.add_mul, bT] using this

theorem bT_mem {B : List Bn} {k : Nat} (h : k < B.length) : bT B k ∈ B := by
  unfold bT; rw [List.getD_eq_getElem?_getD, List.getElem?_eq_getElem h]; exact List.getElem_mem h

theorem bn_set (B : List Bn) (k : Nat) (x : Bn) : ((bn B).set (k * 2) x.v).set (k * 2 + 1) (.int .i64 x.p) = bn (B.set k x) := by
  induction B generalizing k with
  | nil => simp [bn]
  | cons a l ih =>
    match k with
    | 0 => simp [bn_cons]
    | k + 1 =>
      rw [bn_cons, show (k + 1) * 2 = k * 2 + 1 + 1 by omega]
      simp only [List.set_cons_succ]
      rw [bn_cons, ih k]

/-- The parts of all bundles are rows of their own, none in block o. -/
def PartsB (w : World) (base : Nat) (e : TypeId) (B : List Bn) (o : Option Nat) : Prop :=
  ∀ x ∈ B, w.ownsRow base e 2 x.v x.l.length (pr x.l) ∧ x.l.length ≤ 1048576 ∧ ∀ k, x.v.ownBlock = some k → o ≠ some k

theorem PartsB.nil {w : World} {base : Nat} {e : TypeId} {o : Option Nat} : PartsB w base e [] o := fun x hx => by cases hx

theorem PartsB.grown {w w' : World} {base : Nat} {e : TypeId} {B : List Bn} {o row : Option Nat} (h : PartsB w base e B o) (hg : w.grownBy w' row) (hr : ∀ x ∈ B, ∀ k, x.v.ownBlock = some k → row ≠ some k) : PartsB w' base e B o :=
  fun x hx => ⟨(h x hx).1.kept hg (by
    cases hv : x.v.ownBlock with
    | none => exact .inl rfl
    | some k => right; intro e; exact hr x hx k hv e.symm), (h x hx).2⟩

theorem PartsB.step {w w' : World} {base R u : Nat} {e : TypeId} {B : List Bn} {o : Option Nat} (h : PartsB w base e B o) (hs : RdrStep w R u w') (hR : R < base) : PartsB w' base e B o :=
  h.grown hs.2 (fun x hx k hk he => by have := ((h x hx).1.lt k hk).1; simp only [Option.some.injEq] at he; omega)

theorem PartsB.below {w w' : World} {base b : Nat} {e : TypeId} {B : List Bn} {o : Option Nat} (h : PartsB w base e B o) (hb : Below b w w') (hB : w.heap.size ≤ b) : PartsB w' base e B o :=
  fun x hx => ⟨ownsRow_below (h x hx).1 hb hB, (h x hx).2⟩

theorem PartsB.alloc {w : World} {base : Nat} {e : TypeId} {B : List Bn} {o : Option Nat} (h : PartsB w base e B o) (X : Obj) : PartsB (w.alloc X) base e B o :=
  fun x hx => ⟨(h x hx).1.alloc X, (h x hx).2⟩

/-- One bundle more; the row of bundles has been appended to. -/
theorem PartsB.snoc {w w' : World} {base : Nat} {e : TypeId} {B : List Bn} {v v' : Value} {x : Bn} (h : PartsB w base e B v.ownBlock) (hx : w.ownsRow base e 2 x.v x.l.length (pr x.l)) (hl : x.l.length ≤ 1048576) (hne : ∀ k, x.v.ownBlock = some k → v.ownBlock ≠ some k)
    (hg : w.grownBy w' v.ownBlock) (hn : Near w v v') : PartsB w' base e (B ++ [x]) v'.ownBlock := by
  have key : PartsB w base e (B ++ [x]) v.ownBlock := by
    intro y hy
    rcases List.mem_append.1 hy with hy | hy
    · exact h y hy
    · rw [List.mem_singleton.1 hy]; exact ⟨hx, hl, hne⟩
  have k2 := key.grown hg (fun y hy k hk => (key y hy).2.2 k hk)
  intro y hy
  refine ⟨(k2 y hy).1, (k2 y hy).2.1, fun k hk => ?_⟩
  rcases hn with hn | ⟨g, hn, hgs⟩
  · rw [hn]; exact (k2 y hy).2.2 k hk
  · rw [hn]
    have := ((key y hy).1.lt k hk).2
    intro e
    simp only [Option.some.injEq] at e
    omega

theorem cells_bn_new (w : World) (a : Option Addr) (n c : Nat) (q : Int) (t : TypeId) : ∀ j u, [Value.slice a n c, Value.int .i64 q][j]? = some u → (w.alloc (.cells #[.slice a n c, .int .i64 q] t)).cell? ((⟨w.heap.size, 0, none⟩ : Addr).add j) = some u := by
  intro j u hj
  match j, hj with
  | 0, hj => simp at hj; subst hj; simp [Addr.add]
  | 1, hj => simp at hj; subst hj; simp [Addr.add]
  | j + 2, hj => simp at hj

/-- append of one bundle, told where the new row lies. -/
theorem app_bn {P : Program} {w : World} {ops : Array Oper} {rest : List Oper} {o : Oper} {a : Act} {Q : Exit → Act → World → Prop} (hgd : o.guard = none) (s x : Operand) (t : TypeId)
    (ho : o.op = .call { callee := .builtin .append, args := #[s, x], argTypes := #[t, t] }) (base : Nat) (e t2 : TypeId) (i : TypeInfo) (z : Value) (ht : P.underlying t = some (.slice e)) (hi : P.info? e = some i) (hz : i.zero = some z)
    (hs : i.size = 2) (hby : i.bytes = 32) (hzs : z.cells.size = 2) (v : Value) (B : List Bn) (l : List (Int × Int)) (ao : Option Addr) (n cap : Nat) (q : Int) (hv : a.eval s = v) (hown : w.ownsRow base e 2 v B.length (bn B))
    (hx : a.eval x = .slice (some ⟨w.heap.size, 0, none⟩) 1 1) (hlen : B.length ≤ 1099511627776) (hbase : base ≤ w.heap.size)
    (h : ∀ v' w1, w1.ownsRow base e 2 v' (B ++ [(⟨l, .slice ao n cap, q⟩ : Bn)]).length (bn (B ++ [(⟨l, .slice ao n cap, q⟩ : Bn)])) → (w.alloc (.cells #[.slice ao n cap, .int .i64 q] t2)).grownBy w1 v.ownBlock → Near (w.alloc (.cells #[.slice ao n cap, .int .i64 q] t2)) v v' → wpList P ops Q rest (a.put o.dst v') w1) :
    wpList P ops Q (o :: rest) a (w.alloc (.cells #[.slice ao n cap, .int .i64 q] t2)) := by
  refine wpList_append_near hgd s x t ho base e i z 2 32 ht hi hz hs hby hzs (by decide) v B.length (bn B) hv (hown.alloc _) ⟨w.heap.size, 0, none⟩ 1 1 [.slice ao n cap, .int .i64 q] hx rfl (cells_bn_new w _ _ _ _ t2) (by
    intro u hu
    rcases List.mem_cons.1 hu with rfl | hu
    · rfl
    · rcases List.mem_cons.1 hu with rfl | hu
      · rfl
      · cases hu) (by unfold maxLen; omega) (by omega) (by simp; omega) ?_
  intro v' w1 h1 h2 h3
  refine h v' w1 ?_ h2 h3
  rw [List.length_append, bn_append]
  exact h1

end Go.Proofs.Ytomapdedajdkkab
