/- Joined texts: Notes as cells; walk: the notes of a rule, in the reference. append to a slice of no room; a row under way that is the first empty slice or a row of the call's own. Walks: do two guards meet, in the program. Conditions: none. -/
import Derived.Test.YtijofgaekmahkaaGreatDoorM10
import Derived.Deep.CutRange
import Derived.Deep.RegionHeld3
namespace Go.Proofs.YtijofgaekmahkaaGreatDoor
open Go.RowKit
def ntv (x : Nt) : List Value := [.int .i64 x.ln, .int .i64 x.ru, .int .i64 x.am]
def nts (l : List Nt) : List Value := l.flatMap ntv
theorem nts_len (l : List Nt) : (nts l).length = l.length * 3 := by
 induction l with
 | nil => rfl
 | cons a l ih =>
   have : nts (a :: l) = ntv a ++ nts l := by simp [nts]
   rw [this, List.length_append, ih]
   simp [ntv]; omega
theorem nts_snoc (l : List Nt) (x : Nt) : nts (l ++ [x]) = nts l ++ ntv x := by simp [nts]
theorem nts_append (l m : List Nt) : nts (l ++ m) = nts l ++ nts m := by simp [nts]
theorem ntv_one {x : Nt} : ∀ v ∈ ntv x, v.oneCell' = true := by
 intro v hv
 simp only [ntv, List.mem_cons, List.not_mem_nil, or_false] at hv
 rcases hv with rfl | rfl | rfl <;> rfl
theorem Tryz.info80z : (Tryz.prog.info? 80).map (fun i => (i.zero, i.size, i.bytes)) = some (some (.agg #[.int .i64 0, .int .i64 0, .int .i64 0]), 3, 24) := by kernel_rfl
theorem three_at {w : World} {g : Nat} {x y z : Value} {t : TypeId} (h : w.heap[g]? = some (.cells #[x, y, z] t (0, 0))) : ∀ j u, [x, y, z][j]? = some u → w.cell? ((⟨g, 0, none⟩ : Addr).add j) = some u := fun j u hu => by
 have h9 : w.cell? ⟨g, j, none⟩ = some u := by rw [cell_of_row _ _ j _ _ _ h]; simpa using hu
 unfold Addr.add
 by_cases hj : j = 0
 · subst hj; simpa using h9
 · simpa [hj] using h9
set_option maxHeartbeats 4000000 in
set_option maxRecDepth 100000 in
theorem notesOf_any (r : Rl) (ro : Option Addr) (rn rcap : Nat) (m : List Int) (v : Value) (w : World) (hv : Rd w 1 v m.length (it m)) (hm8 : m.length ≤ 8) :
   Calls Tryz.prog 169 #[ruV r (.slice ro rn rcap), v] w fun e w' => ∃ o, e = .returned o ∧ w'.ownsRow w.heap.size 80 3 o (ntsL r m).length (nts (ntsL r m)) ∧ Below w.heap.size w w' := by
 unfold ruV
 obtain ⟨bo, capb, rfl, _, _, hrb⟩ := hv.ints
 have HRB := Lib.hid hrb
 obtain ⟨i0, hi, hz0, hz1, hz2⟩ := info_parts Tryz.info80z
 have HI := Lib.hid hi
 have HZ0 := Lib.hid hz0
 have HZ1 := Lib.hid hz1
 have HZ2 := Lib.hid hz2
 have bx := box11 w r (.slice ro rn rcap) 43
 have b0 : Below w.heap.size w (w.alloc (.cells #[.int .i64 r.num, .int .i64 r.lvl, .int .i64 r.rank, .int .i64 r.group, .int .i64 r.kind, .int .i64 r.value, .int .i64 r.cap, .int .i64 r.lo, .int .i64 r.hi, .slice ro rn rcap, .int .i64 r.coupon] 43)) := (Below.refl _ w).alloc (Nat.le_refl _) _
 obtain ⟨W0, hW0⟩ : ∃ W0, W0 = w.alloc (.cells #[.int .i64 r.num, .int .i64 r.lvl, .int .i64 r.rank, .int .i64 r.group, .int .i64 r.kind, .int .i64 r.value, .int .i64 r.cap, .int .i64 r.lo, .int .i64 r.hi, .slice ro rn rcap, .int .i64 r.coupon] 43) := ⟨_, rfl⟩
 rw [← hW0] at bx b0
 have HW0 := Lib.hid hW0
 have BX := Lib.hid bx
 have HB0 := Lib.hid b0
 have O0 := Lib.hid (World.ownsRow_made W0 #[] 0 (Nat.le_refl _) (by simp) (by simp) : (W0.alloc (.cells #[] 80)).ownsRow W0.heap.size 80 3 (.slice (some ⟨W0.heap.size, 0, none⟩) 0 0) 0 (nts []))
 have b1 : Below W0.heap.size W0 (W0.alloc (.cells #[] 80)) := (Below.refl _ W0).alloc (Nat.le_refl _) _
 have B1 := Lib.hid b1
 clear hi hz0 hz1 hz2 hv hrb b0 bx hW0 b1
 go_enter Tryz.func169, Tryz.ntmps169
 go_upto_region 1 with fail
 rw [← HW0.out]
 clear HW0
 go_wp2
 go_loopw [5, 6] (fun o_ i_ wr => ∃ k : Nat, k ≤ m.length ∧ i_ = .int .i64 k ∧ Hid (wr.ownsRow W0.heap.size 80 3 o_ (ntK r m k).length (nts (ntK r m k))) ∧ Below W0.heap.size W0 wr) (fun _ i_ _ => m.length - (intOf i_).toNat)
 case atStart => exact ⟨0, Nat.zero_le _, rfl, O0, B1.out⟩
 case round =>
   clear O0 B1
   obtain ⟨k, hk, rfl, O, hbl⟩ := hrel
   obtain ⟨oo, ocap, hso, _⟩ := owns_shape O.out
   subst hso
   have hnl := ntK_len r m k
   by_cases hlt : k < m.length
   · obtain ⟨b2, off2, rfl, hb2, hcell2⟩ := HRB.out (by omega)
     have hbl2 := HB0.out.trans (hbl.mono HB0.out.size)
     have g1 := (hbl2.cell (p := ⟨b2, off2 + k, none⟩) hb2).trans (hcell2 k hlt)
     have hbw2 : b2 < wr.heap.size := Nat.lt_of_lt_of_le hb2 hbl2.size
     have x3 := BX.out.below hbl (Nat.le_refl _)
     have c0 := x3.c0
     have hx3 := x3.1
     have hk0 : (0 : Int) ≤ (k : Int) := by omega
     have hk1 : (k : Int) < (m.length : Int) := by omega
     by_cases hp : 0 < iG m k
     · have hpb : decide (0 < iG m k) = true := by simp [hp]
       have HNY := Lib.hid (ntK_yes (r := r) hp)
       have HBL := Lib.hid ((hbl.alloc hbl.size (.cells #[.int .i64 (k : Int), .int .i64 r.num, .int .i64 (iG m k)] 80)).drew)
       have ha : ((wr.alloc (.cells #[.int .i64 (k : Int), .int .i64 r.num, .int .i64 (iG m k)] 80)).drew).heap[wr.heap.size]? = some (.cells #[.int .i64 (k : Int), .int .i64 r.num, .int .i64 (iG m k)] 80 (0, 0)) := heap_alloc_new wr _
       have HA := Lib.hid ha
       clear ha hcell2 x3 hp hbl2
       go_wp2
       go_region_law (refine step_near rfl (.tmp 19) (.tmp 28) 74 rfl W0.heap.size 80 i0 _ 3 24 Tryz.underlying74 HI.out HZ0.out HZ1.out HZ2.out rfl (by decide) _ (ntK r m k).length (nts (ntK r m k)) rfl (by first | exact (O.out.alloc _).drew | exact O.out.drew.alloc _) ⟨wr.heap.size, 0, none⟩ 1 1 (ntv ⟨k, r.num, iG m k⟩) rfl rfl (three_at HA.out) ntv_one (by unfold maxLen; omega) (by omega) HBL.out.size ?_; intro vA wA hoA hgA _; have hoB : wA.ownsRow W0.heap.size 80 3 vA (ntK r m (k + 1)).length (nts (ntK r m (k + 1))) := (by rw [HNY.out, List.length_append, nts_snoc]; exact hoA); obtain ⟨qo, qc, hq9, _⟩ := owns_shape hoB; subst hq9; have OB := Lib.hid hoB; have BOB := below_row HBL.out hgA (fun k hk => (O.out.lt k hk).1); clear hoA hoB hgA)
       all_goals go_wp2
       all_goals go_roundw
       all_goals first
         | exact ⟨k + 1, by omega, by go_num, OB, BOB⟩
         | (simp [intOf]; omega)
     · have hpb : decide (0 < iG m k) = false := by simp; omega
       have HNN := Lib.hid (ntK_no (r := r) hp)
       clear hcell2 x3 hp hbl2
       go_wp2
       go_roundw
       case rel => exact ⟨k + 1, by omega, by go_num, by rw [HNN.out]; exact O, hbl⟩
       case measure => simp [intOf]; omega
   · have hk9 : k = m.length := by omega
     have hle : decide ((k : Int) < (m.length : Int)) = false := by simp; omega
     have O9 : Hid (wr.ownsRow w.heap.size 80 3 (.slice oo (ntK r m k).length ocap) (ntsL r m).length (nts (ntsL r m))) := by have h9 := O.out; rw [Hid, ntsL, ← hk9]; exact owns_base h9 HB0.out.size
     clear hk9
     go_wp2
     go_ret
     exact ⟨_, rfl, O9.out, HB0.out.trans (hbl.mono HB0.out.size)⟩
end Go.Proofs.YtijofgaekmahkaaGreatDoor

namespace Go.Proofs.YtijofgaekmahkaaGreatDoor
open Go.RowKit
theorem run_append_zero {P : Program} (w : World) (t ty e : TypeId) (i : TypeInfo) (z : Value) (size bytes : Nat) (ht : P.underlying t = some (.slice e)) (hi : P.info? e = some i) (hz : i.zero = some z)
   (hsize : i.size = size) (hby : i.bytes = bytes) (hzs : z.cells.size = size) (hsz : 0 < size) (g : Nat)
   (a : Addr) (m c : Nat) (news : List Value) (hl : news.length = m * size) (hnews : ∀ j u, news[j]? = some u → w.cell? (a.add j) = some u) (h1 : ∀ u ∈ news, u.oneCell' = true)
   (h63 : m ≤ maxLen) (hbytes : m * bytes ≤ 140737488355328) :
   ∃ v' w', (Builtin.append_ #[t, t] ty #[.slice (some ⟨g, 0, none⟩) 0 0, .slice (some a) m c]).run P w = .ok v' w' ∧ Below w.heap.size w w' ∧
     ((m = 0 ∧ v' = .slice (some ⟨g, 0, none⟩) 0 0 ∧ w' = w) ∨ (0 < m ∧ w'.ownsRow w.heap.size e size v' m news)) := by
 by_cases hm : m = 0
 · subst hm
   have hn : news = [] := List.eq_nil_of_length_eq_zero (by simpa using hl)
   subst hn
   refine ⟨.slice (some ⟨g, 0, none⟩) 0 0, w, ?_, Below.refl _ _, .inl ⟨rfl, rfl, rfl⟩⟩
   simp [Builtin.append_, run_underlying ht, sizeOf, typeInfo, hi, Builtin.lenOf, Builtin.firstCells, loadCells, loadCellsFrom, storeCells]
 · obtain ⟨v', w', hr, h2, h3, _⟩ := run_append_own (P := P) w w.heap.size t ty e i z ht hi hz (size := size) (bytes := bytes) hsize hby hzs hsz (.slice none 0 0) 0 [] ⟨by simp, .inl ⟨rfl, rfl⟩⟩ a m c news hl hnews h1 (by omega) (by simpa using hbytes) (Nat.le_refl _)
   subst hsize
   subst hby
   have hsm : m ≤ 9223372036854775807 := by simp only [maxLen] at h63; omega
   have hn := run_append_nil (P := P) w t ty e i z ht hi hz a m c news hl hnews (by omega) (by omega) (by omega)
   have hg := run_append_grow (P := P) w t ty e i z ht hi hz ⟨g, 0, none⟩ 0 0 [] (by simp) (by simp) a m c news hl hnews (by omega) (by omega) (growslice_fits (by omega) (by simpa using hbytes))
   rw [hn] at hr
   simp only [Result.ok.injEq] at hr
   obtain ⟨e1, e2⟩ := hr
   simp only [Nat.zero_add, List.nil_append] at h2
   refine ⟨v', w', ?_, below_of_grownBy ?_, .inr ⟨by omega, h2⟩⟩
   · rw [hg, ← e1, ← e2]
     simp
   · exact h3
def NtR (B : Nat) (w : World) (n0 : Nat) (v : Value) (l : List Nt) : Prop := (v = .slice (some ⟨n0, 0, none⟩) 0 0 ∧ l = []) ∨ w.ownsRow B 80 3 v l.length (nts l)
theorem NtR.shape {B n0 : Nat} {w : World} {v : Value} {l : List Nt} (h : NtR B w n0 v l) : ∃ ao cap, v = .slice ao l.length cap := by
 rcases h with ⟨rfl, rfl⟩ | h
 · exact ⟨_, 0, rfl⟩
 · obtain ⟨ao, cap, e, _⟩ := owns_shape h
   exact ⟨ao, cap, e⟩
theorem NtR.below {B C n0 : Nat} {w w' : World} {v : Value} {l : List Nt} (h : NtR B w n0 v l) (hb : Below C w w') (hC : w.heap.size ≤ C) : NtR B w' n0 v l := by
 rcases h with h | h
 · exact .inl h
 · exact .inr (ownsRow_below h hb hC)
theorem NtR.drew {B n0 : Nat} {w : World} {v : Value} {l : List Nt} (h : NtR B w n0 v l) : NtR B w.drew n0 v l := h.below (Below.refl _ w).drew (Nat.le_refl _)
theorem NtR.rd {B n0 : Nat} {w : World} {v : Value} {l : List Nt} (h : NtR B w n0 v l) : Rd w 3 v l.length (nts l) := by
 rcases h with ⟨rfl, rfl⟩ | h
 · exact ⟨rfl, _, 0, rfl, Nat.le_refl _, Nat.zero_le _, fun h => absurd h (Nat.lt_irrefl _)⟩
 · exact Rd.of_owns h
def KeepT (w w' : World) : Prop := ∀ (base e sz n : Nat) (v : Value) (xs : List Value), e ≠ 80 → w.ownsRow base e sz v n xs → w'.ownsRow base e sz v n xs
theorem keep_below {w w' : World} (h : Below w.heap.size w w') : KeepT w w' := fun _ _ _ _ _ _ _ ho => ownsRow_below ho h (Nat.le_refl _)
theorem keep_grown {w w' : World} {B n : Nat} {v : Value} {xs : List Value} (ho : w.ownsRow B 80 3 v n xs) (hg : w.grownBy w' v.ownBlock) : KeepT w w' := fun base e sz n2 v2 xs2 he h2 =>
 owns_apart h2 hg fun k k' h1 h3 hk => by
   subst hk
   obtain ⟨_, h2'⟩ := h2
   rcases h2' with ⟨rfl, _⟩ | ⟨g, cap, cur, rfl, _, hgc, _⟩
   · cases h1
   · have hgk : g = k := Option.some.inj h1
     subst hgk
     exact owns_ne_ty ho hgc he g h3 rfl
theorem run_nt (B n0 : Nat) (w : World) (ty : TypeId) (v x : Value) (l m : List Nt) (h : NtR B w n0 v l) (hB : B ≤ w.heap.size) (hx : Rd w 3 x m.length (nts m)) (hlen : l.length + m.length ≤ 1000000) :
   ∃ v' w', (Builtin.append_ #[74, 74] ty #[v, x]).run Tryz.prog w = .ok v' w' ∧ NtR B w' n0 v' (l ++ m) ∧ Below B w w' ∧ KeepT w w' := by
 obtain ⟨i0, hi, hz0, hz1, hz2⟩ := info_parts Tryz.info80z
 have hone : ∀ u ∈ nts m, u.oneCell' = true := fun u hu => by
   obtain ⟨y, _, hu⟩ := List.mem_flatMap.1 hu
   exact ntv_one u hu
 obtain ⟨_, ao, cap, rfl, _, _, h5⟩ := hx
 cases ao with
 | none =>
   have hm : m = [] := by
     by_cases hz : 0 < m.length
     · obtain ⟨b, off, h6, _⟩ := h5 hz; cases h6
     · exact List.eq_nil_of_length_eq_zero (by omega)
   subst hm
   refine ⟨v, w, ?_, by rw [List.append_nil]; exact h, Below.refl _ _, keep_below (Below.refl _ _)⟩
   rcases h with ⟨rfl, rfl⟩ | h
   · simp [Builtin.append_, run_underlying Tryz.underlying74, sizeOf, typeInfo, hi, Builtin.lenOf, Builtin.firstCells, storeCells]
   · rcases h.2 with ⟨rfl, h0⟩ | ⟨g, cap2, cur, rfl, _, _, hnc, _⟩
     · simp [Builtin.append_, run_underlying Tryz.underlying74, sizeOf, typeInfo, hi, Builtin.lenOf, Builtin.firstCells]
     · simp [Builtin.append_, run_underlying Tryz.underlying74, sizeOf, typeInfo, hi, Builtin.lenOf, Builtin.firstCells, hnc, storeCells]
 | some ad =>
   have hnews : ∀ j u, (nts m)[j]? = some u → w.cell? (ad.add j) = some u := fun j u hu => by
     by_cases hz : 0 < m.length
     · obtain ⟨b, off, h6, _, h8⟩ := h5 hz
       have h6' := Option.some.inj h6
       subst h6'
       have := h8 j u hu
       unfold Addr.add
       by_cases hj : j = 0
       · subst hj; simpa using this
       · simpa [hj] using this
     · have : m = [] := List.eq_nil_of_length_eq_zero (by omega)
       subst this
       simp [nts] at hu
   rcases h with ⟨rfl, rfl⟩ | h
   · obtain ⟨v', w', h1, h2, h3⟩ := run_append_zero (P := Tryz.prog) w 74 ty 80 i0 _ 3 24 Tryz.underlying74 hi hz0 hz1 hz2 rfl (by decide) n0 ad m.length cap (nts m) (nts_len m) hnews hone (by unfold maxLen; omega) (by omega)
     refine ⟨v', w', h1, ?_, h2.mono hB, keep_below h2⟩
     rcases h3 with ⟨h4, rfl, rfl⟩ | ⟨_, h4⟩
     · have : m = [] := List.eq_nil_of_length_eq_zero h4
       subst this
       exact .inl ⟨rfl, rfl⟩
     · exact .inr (owns_base h4 hB)
   · obtain ⟨v', w', h1, h2, h3, _⟩ := run_append_near (P := Tryz.prog) w B 74 ty 80 i0 _ 3 24 Tryz.underlying74 hi hz0 hz1 hz2 rfl (by decide) v l.length (nts l) h ad m.length cap (nts m) (nts_len m) hnews hone (by unfold maxLen; omega) (by omega) hB
     refine ⟨v', w', h1, .inr ?_, (Below.refl B w).grown h3 hB (fun k hk => (h.lt k hk).1), keep_grown h h3⟩
     rw [List.length_append, nts_append]
     exact h2
theorem wp_nt {ops : Array Oper} {rest : List Oper} {o : Oper} {a : Act} {w : World} {Q : Exit → Act → World → Prop} (hgd : o.guard = none) (s x : Operand)
   (ho : o.op = .call { callee := .builtin .append, args := #[s, x], argTypes := #[74, 74] }) (B n0 : Nat) (v xv : Value) (l m : List Nt) (hs : a.eval s = v) (hx : a.eval x = xv) (h : NtR B w n0 v l) (hB : B ≤ w.heap.size) (hr : Rd w 3 xv m.length (nts m)) (hlen : l.length + m.length ≤ 1000000)
   (hk : ∀ v' w', NtR B w' n0 v' (l ++ m) → Below B w w' → KeepT w w' → wpList Tryz.prog ops Q rest (a.put o.dst v') w') : wpList Tryz.prog ops Q (o :: rest) a w :=
 wpList_plain hgd fun _ hK => by
   obtain ⟨v', w', hrn, h2, h3, h4⟩ := run_nt B n0 w o.type v xv l m h hB hr hlen
   unfold Oper.wp execOp
   simp only [ho, resolve, invoke, builtin, Sem.run_bind, Sem.run_pure, Result.andThen_ok, List.map_toArray, List.map_cons, List.map_nil, hs, hx, hrn]
   exact hK _ _ (hk v' w' h2 h3 h4)
end Go.Proofs.YtijofgaekmahkaaGreatDoor

namespace Go.Proofs.YtijofgaekmahkaaGreatDoor
open Go.RowKit
theorem mt_start {w w3 : World} (r q : Rl) (u v : Value) (o : Obj) (x : Int) (h0 : w3.heap[w.heap.size]? = some (.cells #[.int .i64 r.lo, .int .i64 r.hi, u, .int .i64 r.coupon] 41 (0, 0))) (h1 : w3.heap[w.heap.size + 1]? = some (.cells #[.int .i64 q.lo, .int .i64 q.hi, v, .int .i64 q.coupon] 41 (0, 0)))
   (h2 : w3.heap[w.heap.size + 1 + 1]? = some (.cells #[.int .i64 0, .slice none 0 0, .slice none 0 0] 110 (0, 0))) (hb : Below w.heap.size w w3) :
   Mt w (w3.heap.size + 1 + 1 + 1) r q u v ((((w3.alloc o).alloc (.cells #[] 3)).alloc (.cells #[] 3)).alloc (.cells #[.int .i64 x, .slice (some ⟨w3.heap.size + 1, 0, none⟩) 0 0, .slice (some ⟨w3.heap.size + 1 + 1, 0, none⟩) 0 0] 110)) x (.slice (some ⟨w3.heap.size + 1, 0, none⟩) 0 0) (.slice (some ⟨w3.heap.size + 1 + 1, 0, none⟩) 0 0) [] [] := by
 obtain ⟨e0, e1, e2, e3, z4, b4⟩ := four_blocks w3 o (.cells #[] 3) (.cells #[] 3) (.cells #[.int .i64 x, .slice (some ⟨w3.heap.size + 1, 0, none⟩) 0 0, .slice (some ⟨w3.heap.size + 1 + 1, 0, none⟩) 0 0] 110)
 have l2 := (Array.getElem?_eq_some_iff.1 h2).1
 exact ⟨(b4.block _ (by omega)).trans h0, (b4.block _ (by omega)).trans h1, (b4.block _ (by omega)).trans h2, e3, ⟨rfl, .inr ⟨_, 0, #[], rfl, by omega, e1, Nat.le_refl _, Nat.zero_le _, rfl, rfl⟩⟩, ⟨rfl, .inr ⟨_, 0, #[], rfl, by omega, e2, Nat.le_refl _, Nat.zero_le _, rfl, rfl⟩⟩,
   fun k k' h h' => by have a : w3.heap.size + 1 = k := Option.some.inj h; have b : w3.heap.size + 1 + 1 = k' := Option.some.inj h'; omega, by omega, hb.trans (b4.mono hb.size)⟩
set_option maxHeartbeats 8000000 in
set_option maxRecDepth 100000 in
theorem guardsMeet_any (r q : Rl) (u v : Value) (w : World) (hu : Rd w 2 u r.counts.length (pr r.counts)) (hv : Rd w 2 v q.counts.length (pr q.counts)) (hg : okGd r = true) (hq : okGd q = true) :
   Calls Tryz.prog 120 #[gdV r u, gdV q v] w fun e w' => ∃ (t : Int) (a1 : Option Addr) (n1 c1 : Nat) (a2 : Option Addr) (n2 c2 : Nat), e = .returned (.tuple #[.agg #[.int .i64 t, .slice a1 n1 c1, .slice a2 n2 c2], .bool (metQ r q)]) ∧ Below w.heap.size w w' := by
 unfold gdV
 have HU := Lib.hid hu
 have HV := Lib.hid hv
 have HG := Lib.hid hg
 have HQ := Lib.hid hq
 obtain ⟨gr1, gr2, gr3⟩ := okGd_pr hg
 obtain ⟨gq1, gq2, gq3⟩ := okGd_pr hq
 have GR1 := Lib.hid gr1
 have GR2 := Lib.hid gr2
 have GR3 := Lib.hid gr3
 have GQ1 := Lib.hid gq1
 have GQ2 := Lib.hid gq2
 have GQ3 := Lib.hid gq3
 obtain ⟨uo, ucap, rfl, _, _, hru⟩ := hu.pairs
 have HRU := Lib.hid hru
 obtain ⟨vo, vcap, rfl, _, _, hrv⟩ := hv.pairs
 have HRV := Lib.hid hrv
 clear hu hv hg hq gr1 gr2 gq1 gq2 hru hrv
 rw [gr3] at HRU HU ⊢
 rw [gq3] at HRV HV ⊢
 clear gr3 gq3
 obtain ⟨i0, hi, hz0, hz1, hz2⟩ := info_parts Tryz.info3z
 have HI := Lib.hid hi
 have HZ0 := Lib.hid hz0
 have HZ1 := Lib.hid hz1
 have HZ2 := Lib.hid hz2
 clear hi hz0 hz1 hz2
 obtain ⟨e0, e1, e2, z3, b3⟩ := three_blocks w (.cells #[.int .i64 r.lo, .int .i64 r.hi, .slice uo 3 ucap, .int .i64 r.coupon] 41) (.cells #[.int .i64 q.lo, .int .i64 q.hi, .slice vo 3 vcap, .int .i64 q.coupon] 41) (.cells #[.int .i64 0, .slice none 0 0, .slice none 0 0] 110)
 obtain ⟨W, hW⟩ : ∃ W, W = ((w.alloc (.cells #[.int .i64 r.lo, .int .i64 r.hi, .slice uo 3 ucap, .int .i64 r.coupon] 41)).alloc (.cells #[.int .i64 q.lo, .int .i64 q.hi, .slice vo 3 vcap, .int .i64 q.coupon] 41)).alloc (.cells #[.int .i64 0, .slice none 0 0, .slice none 0 0] 110) := ⟨_, rfl⟩
 rw [← hW] at e0 e1 e2 z3 b3
 have E0 := Lib.hid e0
 have E1 := Lib.hid e1
 have E2 := Lib.hid e2
 have HB := Lib.hid b3
 have HW := Lib.hid hW
 obtain ⟨⟨c0, c1, c2, c3⟩, _⟩ := row4 e0
 obtain ⟨⟨d0, d1, d2, d3⟩, _⟩ := row4 e1
 clear e0 e1 e2 b3 hW
 go_enter Tryz.func120, Tryz.ntmps120
 go_upto_region 1 with fail
 rw [← HW.out]
 clear HW
 go_wp2_with fail
 refine (implGuard_any r _ _ (by rw [GR3.out]; exact HU.out.below HB.out (Nat.le_refl _))).mono ?_
 rintro e w1 ⟨rfl, x1⟩
 rw [HG.out]
 have k0 := (x1.block w.heap.size (by omega)).trans E0.out
 have k1 := (x1.block (w.heap.size + 1) (by omega)).trans E1.out
 have k2 := (x1.block (w.heap.size + 2) (by omega)).trans E2.out
 have B1 := HB.out.trans (x1.mono HB.out.size)
 have z1 := x1.size
 clear c0 c1 c2 c3 d0 d1 d2 d3 x1
 obtain ⟨⟨c0, c1, c2, c3⟩, _⟩ := row4 k0
 obtain ⟨⟨d0, d1, d2, d3⟩, _⟩ := row4 k1
 go_wp2_with fail
 refine (implGuard_any q _ _ (by rw [GQ3.out]; exact HV.out.below B1 (Nat.le_refl _))).mono ?_
 rintro e w2 ⟨rfl, x2⟩
 rw [HQ.out]
 have j0 := (x2.block w.heap.size (by omega)).trans k0
 have j1 := (x2.block (w.heap.size + 1) (by omega)).trans k1
 have j2 := (x2.block (w.heap.size + 2) (by omega)).trans k2
 have B2 := B1.trans (x2.mono B1.size)
 have z2 := x2.size
 clear c0 c1 c2 c3 d0 d1 d2 d3 x2 k0 k1 k2 B1
 obtain ⟨⟨c0, c1, c2, c3⟩, _⟩ := row4 j0
 obtain ⟨⟨d0, d1, d2, d3⟩, _⟩ := row4 j1
 go_wp2_with fail
 refine (meetSpans_any r.lo r.hi q.lo q.hi _ GR1.out GQ1.out).mono ?_
 rintro e w3 ⟨rfl, x3⟩
 have i0' := (x3.block w.heap.size (by omega)).trans j0
 have i1' := (x3.block (w.heap.size + 1) (by omega)).trans j1
 have i2' : w3.heap[w.heap.size + 1 + 1]? = _ := (x3.block (w.heap.size + 2) (by omega)).trans j2
 have B3 := B2.trans (x3.mono B2.size)
 have z5 := x3.size
 clear c0 c1 c2 c3 d0 d1 d2 d3 x3 j0 j1 j2 B2
 obtain ⟨lo, hlo⟩ : ∃ y, y = mvL r.lo r.hi q.lo q.hi := ⟨_, rfl⟩
 obtain ⟨hi, hhi⟩ : ∃ y, y = mvH r.lo r.hi q.lo q.hi := ⟨_, rfl⟩
 rw [← hlo, ← hhi]
 obtain ⟨P, hP⟩ : ∃ P, P = w3.heap.size + 1 + 1 + 1 := ⟨_, rfl⟩
 have MS := mt_start r q (.slice uo 3 ucap) (.slice vo 3 vcap) (.cells #[.int .i64 lo, .int .i64 hi] 38) lo i0' i1' i2' B3
 rw [← hP] at MS
 have MM := Lib.hid MS
 clear MS i0' i1' i2' B3 hlo hhi
 go_upto_region 5 with fail
 rw [← hP]
 have HPP := Lib.hid hP
 clear hP
 go_wp2
 go_loopw [7, 35] (fun ok_ i_ wr => ∃ (k : Nat) (d : Bool) (x : Int) (vc vp : Value) (l1 l2 : List Int), k ≤ 3 ∧ i_ = .int .i64 k ∧ ok_ = .bool d ∧ Hid (d = metK r q k) ∧ l1.length ≤ k ∧ l2.length ≤ 0 ∧ Hid (Mt w P r q (.slice uo 3 ucap) (.slice vo 3 vcap) wr x vc vp l1 l2)) (fun _ i_ _ => 3 - (intOf i_).toNat)
 case atStart => exact ⟨0, _, _, _, _, _, _, Nat.zero_le _, rfl, rfl, rfl, Nat.le_refl _, Nat.le_refl _, MM⟩
 case round =>
   clear MM
   obtain ⟨k, d, x0, vc, vp, l1, l2, hk, rfl, rfl, HD, hl1, hl2, M⟩ := hrel
   have hw0 : w.heap.size < wr.heap.size := (Array.getElem?_eq_some_iff.1 M.out.a).1
   have hw1 : w.heap.size + 1 < wr.heap.size := (Array.getElem?_eq_some_iff.1 M.out.b).1
   by_cases hlt : k < 3
   · obtain ⟨b, off, rfl, hb, hcell⟩ := HRU.out (by omega)
     obtain ⟨b2, off2, rfl, hb2, hcell2⟩ := HRV.out (by omega)
     have hx := hcell k hlt
     have hy := hcell2 k hlt
     have g0 := (M.out.bel.cell (p := ⟨b, off + k*2, none⟩) hb).trans hx.1
     have g1 := (M.out.bel.cell (p := ⟨b, off + k*2+1, none⟩) hb).trans hx.2
     have g2 := (M.out.bel.cell (p := ⟨b2, off2 + k*2, none⟩) hb2).trans hy.1
     have g3 := (M.out.bel.cell (p := ⟨b2, off2 + k*2+1, none⟩) hb2).trans hy.2
     have hbw : b < wr.heap.size := Nat.lt_of_lt_of_le hb M.out.bel.size
     have hbw2 : b2 < wr.heap.size := Nat.lt_of_lt_of_le hb2 M.out.bel.size
     obtain ⟨⟨_, _, c2, _⟩, _⟩ := row4 M.out.a
     obtain ⟨⟨_, _, d2, _⟩, _⟩ := row4 M.out.b
     have KK : ∀ w' : World, Below wr.heap.size wr w' → w'.cell? ⟨w.heap.size, 2, none⟩ = some (.slice (some ⟨b, off, none⟩) 3 ucap) ∧ w'.cell? ⟨w.heap.size + 1, 2, none⟩ = some (.slice (some ⟨b2, off2, none⟩) 3 vcap) ∧ w'.cell? ⟨b, off + k*2, none⟩ = some (.int .i64 (pA r.counts k)) ∧ w'.cell? ⟨b, off + k*2+1, none⟩ = some (.int .i64 (pB r.counts k)) ∧ w'.cell? ⟨b2, off2 + k*2, none⟩ = some (.int .i64 (pA q.counts k)) ∧ w'.cell? ⟨b2, off2 + k*2+1, none⟩ = some (.int .i64 (pB q.counts k)) ∧ Below wr.heap.size wr w' :=
       fun w' h => ⟨(h.cell (p := ⟨w.heap.size, 2, none⟩) hw0).trans c2, (h.cell (p := ⟨w.heap.size + 1, 2, none⟩) hw1).trans d2, (h.cell (p := ⟨b, off + k*2, none⟩) hbw).trans g0, (h.cell (p := ⟨b, off + k*2+1, none⟩) hbw).trans g1, (h.cell (p := ⟨b2, off2 + k*2, none⟩) hbw2).trans g2, (h.cell (p := ⟨b2, off2 + k*2+1, none⟩) hbw2).trans g3, h⟩
     have KP := Lib.hid KK
     have hk0 : (0 : Int) ≤ (k : Int) := by omega
     have hk1 : (k : Int) < (3 : Int) := by omega
     clear hx hy hcell hcell2 KK
     have pr1 := GR2.out k hlt
     have pq1 := GQ2.out k hlt
     have hst : metK r q (k + 1) = (metK r q k && meeQ (pA r.counts k) (pB r.counts k) (pA q.counts k) (pB q.counts k)) := rfl
     rw [← HD.out] at hst
     have HS := Lib.hid hst
     have b0 : Below wr.heap.size wr wr.drew := (Below.refl _ wr).drew
     have b1 : Below wr.heap.size wr (wr.drew.alloc (.cells #[.int .i64 0, .int .i64 0] 38)) := b0.alloc (Nat.le_refl _) _
     have a1 : (wr.drew.alloc (.cells #[.int .i64 0, .int .i64 0] 38)).heap[wr.heap.size]? = some (.cells #[.int .i64 0, .int .i64 0] 38 (0, 0)) := heap_alloc_new wr.drew _
     have s1 : wr.heap.size < (wr.drew.alloc (.cells #[.int .i64 0, .int .i64 0] 38)).heap.size := by rw [World.size_alloc]; exact Nat.lt_succ_self _
     have A1 := Lib.hid a1
     have B0 := Lib.hid b0
     have B1 := Lib.hid b1
     clear hst a1 b0 b1
     go_upto_region 8 with fail
     go_cut [10, 11, 35] from 35 to 63 (fun p_ f_ i_ wx => ∃ g : Nat, p_ = .pointer (some ⟨g, 0, none⟩) ∧ f_ = .bool (meeQ (pA r.counts k) (pB r.counts k) (pA q.counts k) (pB q.counts k)) ∧ i_ = .int .i64 k ∧ wx.cell? ⟨g, 0, none⟩ = some (.int .i64 (mvL (pA r.counts k) (pB r.counts k) (pA q.counts k) (pB q.counts k))) ∧ Below wr.heap.size wr wx)
     case first =>
       clear g0 g1 g2 g3 c2 d2
       go_region_held3 (fun w' => w'.cell? ⟨w.heap.size, 2, none⟩ = some (.slice (some ⟨b, off, none⟩) 3 ucap) ∧ w'.cell? ⟨w.heap.size + 1, 2, none⟩ = some (.slice (some ⟨b2, off2, none⟩) 3 vcap) ∧ w'.cell? ⟨b, off + k*2, none⟩ = some (.int .i64 (pA r.counts k)) ∧ w'.cell? ⟨b, off + k*2+1, none⟩ = some (.int .i64 (pB r.counts k)) ∧ w'.cell? ⟨b2, off2 + k*2, none⟩ = some (.int .i64 (pA q.counts k)) ∧ w'.cell? ⟨b2, off2 + k*2+1, none⟩ = some (.int .i64 (pB q.counts k)) ∧ Below wr.heap.size wr w')
         (first
           | assumption
           | exact KP.out _ B0.out
           | exact KP.out _ B1.out
           | exact KP.out _ b9
           | (exact KP.out _ (b9.alloc b9.size _))
           | (exact KP.out _ ((b9.setCell (Nat.le_refl _) _).setCell (Nat.le_refl _) _))
           | (exact KP.out _ (((b9.alloc b9.size _).setCell b9.size _).setCell b9.size _)))
         ((first
           | (go_at_call 150; (with_reducible refine (meetSpans_any (pA r.counts k) (pB r.counts k) (pA q.counts k) (pB q.counts k) _ pr1 pq1).mono ?_); rintro e w9 ⟨rfl, x9⟩; first | (have b9 : Below wr.heap.size wr w9 := B0.out.trans (x9.mono B0.out.size)) | (have b9 : Below wr.heap.size wr w9 := B1.out.trans (x9.mono B1.out.size); obtain ⟨⟨y0, y1⟩, y2, y3⟩ := row2 ((x9.block wr.heap.size s1).trans A1.out)))))
       all_goals go_wp2
       all_goals go_meet
       all_goals first
         | exact ⟨wr.heap.size, rfl, rfl, rfl, (row2 (Joins.block_setCell (i := 1) (Joins.block_setCell (i := 0) ((x9.block wr.heap.size s1).trans A1.out) _) _)).1.1, (b9.setCell (Nat.le_refl _) _).setCell (Nat.le_refl _) _⟩
         | exact ⟨w9.heap.size, rfl, rfl, rfl, cell_of_row _ _ 0 _ _ _ (heap_alloc_new w9 _), b9.alloc b9.size _⟩
     case rest =>
       obtain ⟨g, rfl, rfl, rfl, cg, bc⟩ := hcut
       have M2 := M.out.below bc
       have cp := (row3z M2.p).1.2.1
       have ca : ∀ o, (wc.alloc o).cell? ⟨P, 1, none⟩ = some vc := fun o => (row3z (M2.alloc o).p).1.2.1
       have M2 := Lib.hid M2
       have SZ := M2.out.bel.size
       obtain ⟨lo, hlo⟩ : ∃ y, y = (mvL (pA r.counts k) (pB r.counts k) (pA q.counts k) (pB q.counts k)) := ⟨_, rfl⟩
       rw [← hlo] at cg
       clear hlo B0 B1 A1 KP
       cases hm : meeQ (pA r.counts k) (pB r.counts k) (pA q.counts k) (pB q.counts k)
       all_goals rw [hm] at HS
       all_goals cases d
       all_goals go_wp2_with (at_builtin; refine app_one rfl (.tmp 57) (.tmp 60) 34 rfl w.heap.size 3 i0 _ Tryz.underlying34 HI.out HZ0.out HZ1.out HZ2.out rfl _ l1 lo rfl (M2.out.alloc _).o1 wc.heap.size rfl (cell_of_row _ _ 0 _ _ _ (heap_alloc_new wc _)) (by omega) (M2.out.alloc _).bel.size ?_; intro v' W1 h1 h2 h3; obtain ⟨so, scap, rfl, _⟩ := owns_shape h1; have n1 := (M2.out.alloc _).app1 h2 h1 h3; obtain ⟨⟨_, n2, _⟩, _, n3, _⟩ := row3z (grown_blk (M2.out.alloc _).o1 h2 (M2.out.alloc _).p ne_pi); rw [show (l1 ++ [lo]).length = l1.length + 1 by simp] at n1; have N1 := Lib.hid n1; clear n1 h1 h2 h3)
       all_goals (go_roundw; (exact ⟨k + 1, _, x0, _, vp, l1 ++ [lo], l2, by omega, by go_num, rfl, by rw [Hid, HS.out] <;> rfl, by rw [List.length_append, List.length_singleton]; omega, hl2, N1⟩); (simp [intOf]; omega))
   · have hk3 : ¬ (k : Int) < 3 := by omega
     have HM : Hid (metQ r q = d) := by rw [Hid, HD.out, show k = 3 by omega]; rfl
     cases d
     · obtain ⟨⟨r0, r1, r2⟩, r3, r4, r5⟩ := row3z M.out.r
       have zB : w.heap.size ≤ w.heap.size + 1 + 1 := by omega
       go_wp2
       refine bodyPost_ret (results_row_tmp (p := 4) (q := 5) (ty := 110) rfl row110 _ _ (w.heap.size + 1 + 1) 110 #[.int .i64 0, .slice none 0 0, .slice none 0 0] rfl rfl (Joins.block_setCell (i := 2) (Joins.block_setCell (i := 1) (Joins.block_setCell (i := 0) M.out.r _) _) _)) rfl ?_
       exact ⟨⟨0, none, 0, 0, none, 0, 0, by rw [HM.out] <;> rfl⟩, ((M.out.bel.setCell zB _).setCell zB _).setCell zB _⟩
     · go_wp2
       go_loopw [12] (fun i_ wr => ∃ (n : Nat) (vp : Value) (l2 : List Int), 1 ≤ n ∧ n ≤ 10 ∧ i_ = .int .i64 n ∧ l2.length ≤ n ∧ Hid (Mt w P r q (.slice uo 3 ucap) (.slice vo 3 vcap) wr x0 vc vp l1 l2)) (fun i_ _ => 10 - (intOf i_).toNat)
       case atStart => exact ⟨1, vp, l2, Nat.le_refl _, by omega, rfl, by omega, M⟩
       case round =>
         clear M hl2
         obtain ⟨n, vp, l2, hn1, hn2, rfl, hl2, M⟩ := hrel
         obtain ⟨⟨_, _, _, c3⟩, _⟩ := row4 M.out.a
         obtain ⟨⟨_, _, _, d3⟩, _⟩ := row4 M.out.b
         have cp : ∀ o, (wr.alloc o).cell? ⟨P, 2, none⟩ = some vp := fun o => (row3z (M.out.alloc o).p).1.2.2
         have cp0 := (row3z M.out.p).1.2.2
         by_cases hlt : n ≤ 9
         · have hle : (n : Int) ≤ 9 := by omega
           cases e1 : (r.coupon == (n : Int))
           · cases e2 : (q.coupon == (n : Int))
             · go_wp2
               go_roundw
               case rel => exact ⟨n + 1, vp, l2, by omega, by omega, by go_num, by omega, M⟩
               case measure => simp [intOf]; omega
             · go_wp2_with (at_builtin; refine app_one rfl (.tmp 82) (.tmp 84) 34 rfl w.heap.size 3 i0 _ Tryz.underlying34 HI.out HZ0.out HZ1.out HZ2.out rfl _ l2 (n : Int) rfl (M.out.alloc _).o2 wr.heap.size rfl (cell_of_row _ _ 0 _ _ _ (heap_alloc_new wr _)) (by omega) (M.out.alloc _).bel.size ?_; intro v' W1 h1 h2 h3; obtain ⟨so, scap, rfl, _⟩ := owns_shape h1; have n1 := (M.out.alloc _).app2 h2 h1 h3; obtain ⟨⟨_, _, n2⟩, _, _, n3⟩ := row3z (grown_blk (M.out.alloc _).o2 h2 (M.out.alloc _).p ne_pi); rw [show (l2 ++ [(n : Int)]).length = l2.length + 1 by simp] at n1; have N1 := Lib.hid n1; clear n1 h1 h2 h3)
               go_roundw
               case rel => exact ⟨n + 1, _, l2 ++ [(n : Int)], by omega, by omega, by go_num, by rw [List.length_append, List.length_singleton]; omega, N1⟩
               case measure => simp [intOf]; omega
           · go_wp2_with (at_builtin; refine app_one rfl (.tmp 82) (.tmp 84) 34 rfl w.heap.size 3 i0 _ Tryz.underlying34 HI.out HZ0.out HZ1.out HZ2.out rfl _ l2 (n : Int) rfl (M.out.alloc _).o2 wr.heap.size rfl (cell_of_row _ _ 0 _ _ _ (heap_alloc_new wr _)) (by omega) (M.out.alloc _).bel.size ?_; intro v' W1 h1 h2 h3; obtain ⟨so, scap, rfl, _⟩ := owns_shape h1; have n1 := (M.out.alloc _).app2 h2 h1 h3; obtain ⟨⟨_, _, n2⟩, _, _, n3⟩ := row3z (grown_blk (M.out.alloc _).o2 h2 (M.out.alloc _).p ne_pi); rw [show (l2 ++ [(n : Int)]).length = l2.length + 1 by simp] at n1; have N1 := Lib.hid n1; clear n1 h1 h2 h3)
             go_roundw
             case rel => exact ⟨n + 1, _, l2 ++ [(n : Int)], by omega, by omega, by go_num, by rw [List.length_append, List.length_singleton]; omega, N1⟩
             case measure => simp [intOf]; omega
         · have hle : decide ((n : Int) ≤ 9) = false := by simp; omega
           obtain ⟨ao1, cap1, e1, _⟩ := owns_shape M.out.o1
           obtain ⟨ao2, cap2, e2, _⟩ := owns_shape M.out.o2
           subst e1
           subst e2
           obtain ⟨⟨p0, p1, p2⟩, _⟩ := row3z M.out.p
           obtain ⟨⟨r0, r1, r2⟩, r3, r4, r5⟩ := row3z M.out.r
           have zB : w.heap.size ≤ w.heap.size + 1 + 1 := by omega
           clear c3 d3 cp cp0
           go_wp2
           refine bodyPost_ret (results_row_tmp (p := 4) (q := 5) (ty := 110) rfl row110 _ _ (w.heap.size + 1 + 1) 110 #[.int .i64 x0, .slice ao1 l1.length cap1, .slice ao2 l2.length cap2] rfl rfl (Joins.block_setCell (i := 2) (Joins.block_setCell (i := 1) (Joins.block_setCell (i := 0) M.out.r _) _) _)) rfl ?_
           first | exact ⟨x0, ao1, l1.length, cap1, ao2, l2.length, cap2, by rw [HM.out] <;> rfl, ((M.out.bel.setCell zB _).setCell zB _).setCell zB _⟩ | exact ⟨⟨x0, ao1, l1.length, cap1, ao2, l2.length, cap2, by rw [HM.out] <;> rfl⟩, ((M.out.bel.setCell zB _).setCell zB _).setCell zB _⟩
end Go.Proofs.YtijofgaekmahkaaGreatDoor
