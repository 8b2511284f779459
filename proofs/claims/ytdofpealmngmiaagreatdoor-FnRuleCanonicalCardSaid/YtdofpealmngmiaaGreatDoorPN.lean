/- Walks: a struct handed over into the result's box, a flag set beside it. Conditions: none. -/
import Derived.Test.YtdofpealmngmiaaGreatDoorRV
import Derived.BigFrame
namespace Go.Proofs.YtdofpealmngmiaaGreatDoor
open Go.RowKit

theorem wp_copy3 {P : Program} {id t pd ps ty : Nat} {Q : Exit → Act → World → Prop} {a : Act} {w : World} {o1 o2 o3 : Oper}
    (h1 : o1.op = .load ty (.tmp ps)) (g1 : o1.guard = none) (d1 : o1.dst = some t) (h2 : o2.op = .store ty (.tmp pd) (.tmp t)) (g2 : o2.guard = none) (v3 : Value) (h3 : o3.op = .assign (.const v3)) (g3 : o3.guard = none)
    (s d : Nat) (cs old : Array Value) (tys : TypeId) (td : TypeId) (n : Nat) (hr : RowTy P ty n) (hn : cs.size = n) (ho : old.size = n)
    (hs : a.eval (.tmp ps) = .pointer (some ⟨s, 0, none⟩)) (hsh : w.heap[s]? = some (.cells cs tys (0, 0)))
    (hdd : (a.put (some t) (.agg cs)).eval (.tmp pd) = .pointer (some ⟨d, 0, none⟩)) (hdh : w.heap[d]? = some (.cells old td (0, 0)))
    (hv : (a.put (some t) (.agg cs)).eval (.tmp t) = .agg cs) (h1c : cs.all (·.oneCell') = true)
    (h : Q .normal (((a.put (some t) (.agg cs)).put o2.dst undef).put o3.dst v3) (w.setRow d cs)) :
    (Code.region id #[o1, o2, o3] false).wp P Q a w := by
  obtain ⟨dd, hu, hd⟩ := hr.parts
  have hi := hr.2
  refine wp_region_lit ?_
  refine wpList_load_row g1 ty (.tmp ps) h1 s hs tys cs (0, 0) dd hsh hu (by cases dd <;> first | rfl | exact hd) (hi.trans (by rw [hn])) ?_
  rw [d1]
  refine wpList_store_row g2 ty (.tmp pd) (.tmp t) h2 d cs hdd hv td old hdh (hi.trans (by rw [hn])) (ho.trans hn.symm) h1c ?_
  refine wpList_plain g3 fun _ hK => Go.BigFrame.wp_assign (.const v3) h3 (hK _ _ (wpList_nil ?_))
  exact h

theorem wp_zero3 {P : Program} {id t pd ty : Nat} {Q : Exit → Act → World → Prop} {a : Act} {w : World} {o1 o2 o3 : Oper}
    (h1 : o1.op = .build ty #[]) (g1 : o1.guard = none) (d1 : o1.dst = some t) (h2 : o2.op = .store ty (.tmp pd) (.tmp t)) (g2 : o2.guard = none) (v3 : Value) (h3 : o3.op = .assign (.const v3)) (g3 : o3.guard = none)
    (d : Nat) (cs old : Array Value) (td : TypeId) (n : Nat) (hr : RowTy P ty n) (hn : cs.size = n) (ho : old.size = n) (hb : P.built ty [] = some cs)
    (hdd : (a.put (some t) (.agg cs)).eval (.tmp pd) = .pointer (some ⟨d, 0, none⟩)) (hdh : w.heap[d]? = some (.cells old td (0, 0)))
    (hv : (a.put (some t) (.agg cs)).eval (.tmp t) = .agg cs) (h1c : cs.all (·.oneCell') = true)
    (h : Q .normal (((a.put (some t) (.agg cs)).put o2.dst undef).put o3.dst v3) (w.setRow d cs)) :
    (Code.region id #[o1, o2, o3] false).wp P Q a w := by
  have hi := hr.2
  have hb' : P.built ty ((#[] : Array (Nat × Operand)).map fun (i, x) => (i, a.eval x)).toList = some cs := by simpa using hb
  refine wp_region_lit ?_
  refine wpList_build g1 ty #[] h1 (by rw [hb']; rfl) ?_
  rw [hb', d1]
  simp only [Option.getD_some]
  refine wpList_store_row g2 ty (.tmp pd) (.tmp t) h2 d cs hdd hv td old hdh (hi.trans (by rw [hn])) (ho.trans hn.symm) h1c ?_
  refine wpList_plain g3 fun _ hK => Go.BigFrame.wp_assign (.const v3) h3 (hK _ _ (wpList_nil ?_))
  exact h

theorem built_rule : Tryz.prog.built 30 [] = some #[.int .i64 0, .int .i64 0, .int .i64 0, .int .i64 0, .int .i64 0, .int .i64 0, .int .i64 0, .int .i64 0, .int .i64 0, .slice none 0 0, .int .i64 0] := by kernel_rfl

end Go.Proofs.YtdofpealmngmiaaGreatDoor
