/- What the reference's reading of a rule keeps in memory, and what is known of the text step by step. Conditions: none. -/
import Derived.Test.YtdofpealmngmiaaGreatDoorPU
import Derived.Test.YtdofpealmngmiaaGreatDoorPM
namespace Go.Proofs.YtdofpealmngmiaaGreatDoor
open Go.RowKit

/-- In block b a rule of the call's own, its counts in block g, a scanner in block S, in the first new block the result's box. -/
structure As (w : World) (S g b : Nat) (r : Rl) (ws : List (List UInt8)) (W : World) : Prop where
  ord : w.heap.size < S ∧ S < g ∧ g < b
  K : W.heap[w.heap.size]? = some (.cells #[.int .i64 0, .int .i64 0, .int .i64 0, .int .i64 0, .int .i64 0, .int .i64 0, .int .i64 0, .int .i64 0, .int .i64 0, .slice none 0 0, .int .i64 0] 30 (0, 0))
  G : W.heap[b]? = some (.cells #[.int .i64 r.num, .int .i64 r.lvl, .int .i64 r.rank, .int .i64 r.group, .int .i64 r.kind, .int .i64 r.value, .int .i64 r.cap, .int .i64 r.lo, .int .i64 r.hi, .slice (some ⟨g, 0, none⟩) 3 3, .int .i64 r.coupon] 30 (0, 0))
  F : ∃ a0 b0 a1 b1 a2 b2 : Int, r.counts = [(a0, b0), (a1, b1), (a2, b2)] ∧ W.heap[g]? = some (.cells #[.int .i64 a0, .int .i64 b0, .int .i64 a1, .int .i64 b1, .int .i64 a2, .int .i64 b2] 25 (0, 0))
  sw : Sw W S ws
  bel : Below w.heap.size w W
  sh : Sh ws

theorem As.step {w W W' : World} {S g b : Nat} {r : Rl} {ws ws' : List (List UInt8)}  (A : As w S g b r ws W) (st : SwStep W S ws' W') (sh : Sh ws') : As w S g b r ws' W' := by
  obtain ⟨o1, o2, o3⟩ := A.ord
  obtain ⟨a0, b0, a1, b1, a2, b2, h1, h2⟩ := A.F
  exact ⟨A.ord, st.row A.K (by omega), st.row A.G (by omega), ⟨a0, b0, a1, b1, a2, b2, h1, st.row h2 (by omega)⟩, st.sw, A.bel.grown st.grown A.bel.size (fun k hk => by simp only [Option.some.injEq] at hk; omega), sh⟩

/-- a number of the rule is written -/
theorem As.set {w W : World} {S g b : Nat} {r : Rl} {ws : List (List UInt8)} (A : As w S g b r ws W) (i : Nat) (v : Value) (r : Rl) (hc : ∃ r1 : Rl, As w S g b r1 ws W ∧ r.counts = r1.counts)
    (hG : (W.setCell ⟨b, i, none⟩ v).heap[b]? = some (.cells #[.int .i64 r.num, .int .i64 r.lvl, .int .i64 r.rank, .int .i64 r.group, .int .i64 r.kind, .int .i64 r.value, .int .i64 r.cap, .int .i64 r.lo, .int .i64 r.hi, .slice (some ⟨g, 0, none⟩) 3 3, .int .i64 r.coupon] 30 (0, 0))) : As w S g b r ws (W.setCell ⟨b, i, none⟩ v) := by
  obtain ⟨r1, B, hc⟩ := hc
  obtain ⟨o1, o2, o3⟩ := A.ord
  obtain ⟨a0, b0, a1, b1, a2, b2, h1, h2⟩ := B.F
  exact ⟨A.ord, heap_set A.K (by omega), hG, ⟨a0, b0, a1, b1, a2, b2, hc.trans h1, heap_set h2 (by omega)⟩, A.sw.grown (grown_set W b i v) (fun k hk => by simp only [Option.some.injEq] at hk; omega),
    A.bel.setCell (p := ⟨b, i, none⟩) (by show _ ≤ b; omega) v, A.sh⟩
theorem As.num {w W : World} {S g b : Nat} {r : Rl} {ws : List (List UInt8)} (A : As w S g b r ws W) (n : Int) : As w S g b { r with num := n } ws (W.setCell ⟨b, 0, none⟩ (.int .i64 n)) :=
  A.set 0 (.int .i64 n) _ ⟨r, A, rfl⟩ (Joins.block_setCell A.G _)
theorem As.lvl {w W : World} {S g b : Nat} {r : Rl} {ws : List (List UInt8)} (A : As w S g b r ws W) (n : Int) : As w S g b { r with lvl := n } ws (W.setCell ⟨b, 1, none⟩ (.int .i64 n)) :=
  A.set 1 (.int .i64 n) _ ⟨r, A, rfl⟩ (Joins.block_setCell A.G _)
theorem As.rank {w W : World} {S g b : Nat} {r : Rl} {ws : List (List UInt8)} (A : As w S g b r ws W) (n : Int) : As w S g b { r with rank := n } ws (W.setCell ⟨b, 2, none⟩ (.int .i64 n)) :=
  A.set 2 (.int .i64 n) _ ⟨r, A, rfl⟩ (Joins.block_setCell A.G _)
theorem As.group {w W : World} {S g b : Nat} {r : Rl} {ws : List (List UInt8)} (A : As w S g b r ws W) (n : Int) : As w S g b { r with group := n } ws (W.setCell ⟨b, 3, none⟩ (.int .i64 n)) :=
  A.set 3 (.int .i64 n) _ ⟨r, A, rfl⟩ (Joins.block_setCell A.G _)
theorem As.kind {w W : World} {S g b : Nat} {r : Rl} {ws : List (List UInt8)} (A : As w S g b r ws W) (n : Int) : As w S g b { r with kind := n } ws (W.setCell ⟨b, 4, none⟩ (.int .i64 n)) :=
  A.set 4 (.int .i64 n) _ ⟨r, A, rfl⟩ (Joins.block_setCell A.G _)
theorem As.value {w W : World} {S g b : Nat} {r : Rl} {ws : List (List UInt8)} (A : As w S g b r ws W) (n : Int) : As w S g b { r with value := n } ws (W.setCell ⟨b, 5, none⟩ (.int .i64 n)) :=
  A.set 5 (.int .i64 n) _ ⟨r, A, rfl⟩ (Joins.block_setCell A.G _)
theorem As.cap {w W : World} {S g b : Nat} {r : Rl} {ws : List (List UInt8)} (A : As w S g b r ws W) (n : Int) : As w S g b { r with cap := n } ws (W.setCell ⟨b, 6, none⟩ (.int .i64 n)) :=
  A.set 6 (.int .i64 n) _ ⟨r, A, rfl⟩ (Joins.block_setCell A.G _)
theorem As.lo {w W : World} {S g b : Nat} {r : Rl} {ws : List (List UInt8)} (A : As w S g b r ws W) (n : Int) : As w S g b { r with lo := n } ws (W.setCell ⟨b, 7, none⟩ (.int .i64 n)) :=
  A.set 7 (.int .i64 n) _ ⟨r, A, rfl⟩ (Joins.block_setCell A.G _)
theorem As.hi {w W : World} {S g b : Nat} {r : Rl} {ws : List (List UInt8)} (A : As w S g b r ws W) (n : Int) : As w S g b { r with hi := n } ws (W.setCell ⟨b, 8, none⟩ (.int .i64 n)) :=
  A.set 8 (.int .i64 n) _ ⟨r, A, rfl⟩ (Joins.block_setCell A.G _)
theorem As.coupon {w W : World} {S g b : Nat} {r : Rl} {ws : List (List UInt8)} (A : As w S g b r ws W) (n : Int) : As w S g b { r with coupon := n } ws (W.setCell ⟨b, 10, none⟩ (.int .i64 n)) :=
  A.set 10 (.int .i64 n) _ ⟨r, A, rfl⟩ (Joins.block_setCell A.G _)
/-- the place of a number -/
theorem As.at {w W : World} {S g b : Nat} {r : Rl} {ws : List (List UInt8)} (A : As w S g b r ws W) (i : Nat) (u : Value) (h : (#[.int .i64 r.num, .int .i64 r.lvl, .int .i64 r.rank, .int .i64 r.group, .int .i64 r.kind, .int .i64 r.value, .int .i64 r.cap, .int .i64 r.lo, .int .i64 r.hi, .slice (some ⟨g, 0, none⟩) 3 3, .int .i64 r.coupon] : Array Value)[i]? = some u) : W.cell? ⟨b, i, none⟩ = some u ∧ W.frozen? ⟨b, i, none⟩ = false :=
  ⟨(cell_of_row W b i _ _ _ A.G).trans h, frozen_of_row W b i _ _ A.G⟩

theorem As.alloc {w W : World} {S g b : Nat} {r : Rl} {ws : List (List UInt8)} (A : As w S g b r ws W) (o : Obj) : As w S g b r ws (W.alloc o) := by
  have hb : Below W.heap.size W (W.alloc o) := (Below.refl _ _).alloc (Nat.le_refl _) _
  obtain ⟨a0, b0, a1, b1, a2, b2, h1, h2⟩ := A.F
  exact ⟨A.ord, heap_keep A.K, heap_keep A.G, ⟨a0, b0, a1, b1, a2, b2, h1, heap_keep h2⟩, A.sw.below hb, A.bel.trans (hb.mono A.bel.size), A.sh⟩
/-- a count is written -/
theorem As.count {w W : World} {S g b : Nat} {r : Rl} {ws : List (List UInt8)} (A : As w S g b r ws W) (j : Nat) (hj : j < 3) (p q : Int) :
    As w S g b { r with counts := r.counts.set j (p, q) } ws ((W.setCell ⟨g, j * 2, none⟩ (.int .i64 p)).setCell ⟨g, j * 2 + 1, none⟩ (.int .i64 q)) := by
  obtain ⟨o1, o2, o3⟩ := A.ord
  obtain ⟨a0, b0, a1, b1, a2, b2, h1, h2⟩ := A.F
  have hgr := grownBy_trans (grown_set W g (j * 2) (.int .i64 p)) (grown_set _ g (j * 2 + 1) (.int .i64 q))
  refine ⟨A.ord, heap_set (heap_set A.K (by omega)) (by omega), heap_set (heap_set A.G (by omega)) (by omega), ?_, A.sw.grown hgr (fun k hk => by simp only [Option.some.injEq] at hk; omega),
    (A.bel.setCell (p := ⟨g, j * 2, none⟩) (by show _ ≤ g; omega) _).setCell (p := ⟨g, j * 2 + 1, none⟩) (by show _ ≤ g; omega) _, A.sh⟩
  show ∃ a0 b0 a1 b1 a2 b2 : Int, r.counts.set j (p, q) = _ ∧ _
  rw [h1]
  match j, hj with
  | 0, _ => exact ⟨p, q, a1, b1, a2, b2, rfl, Joins.block_setCell (i := 1) (Joins.block_setCell (i := 0) h2 _) _⟩
  | 1, _ => exact ⟨a0, b0, p, q, a2, b2, rfl, Joins.block_setCell (i := 3) (Joins.block_setCell (i := 2) h2 _) _⟩
  | 2, _ => exact ⟨a0, b0, a1, b1, p, q, rfl, Joins.block_setCell (i := 5) (Joins.block_setCell (i := 4) h2 _) _⟩

/-! ### Step by step -/
/-- how many words are left -/
def swLen (W : World) (S : Nat) : Nat := match W.cell? ⟨S, 0, none⟩, W.cell? ⟨S, 1, none⟩ with
  | some (.slice _ n _), some (.int _ k) => n - k.toNat
  | _, _ => 0
theorem Sw.len {W : World} {S : Nat} {ws : List (List UInt8)} (h : Sw W S ws) : swLen W S = ws.length := by
  obtain ⟨bk, n, cap, k, h1, _, _, _, h5, _⟩ := h
  unfold swLen
  rw [cell_of_row W S 0 _ _ _ h1, cell_of_row W S 1 _ _ _ h1]
  show n - (k : Int).toNat = _
  rw [Int.toNat_natCast]
  omega

theorem gs_num {T : List UInt8} {ws : List (List UInt8)} {n : Rl → Int} {rest : Rl → List (List UInt8)} {P : Rl → Prop} (h : Gh T (fun r0 => ws = dec (n r0) :: rest r0 ∧ P r0)) (hb : ∀ r0, okRu r0 = true → 0 ≤ n r0 ∧ n r0 ≤ 1000000) :
    Gh T (fun r0 => ws.tail = rest r0 ∧ numV ws = n r0 ∧ P r0) := h.imp fun r0 ok _ ⟨h2, h3⟩ => by
  subst h2
  exact ⟨rfl, numV_dec (hb r0 ok).1 (hb r0 ok).2 _, h3⟩
theorem gs_is {T : List UInt8} {ws : List (List UInt8)} {z : List UInt8} {rest : Rl → List (List UInt8)} {P : Rl → Prop} (h : Gh T (fun r0 => ws = z :: rest r0 ∧ P r0)) (hb : isW ws z = true) :
    Gh T (fun r0 => ws.tail = rest r0 ∧ P r0) := h.imp fun r0 _ _ ⟨h2, h3⟩ => by
  subst h2
  exact ⟨rfl, h3⟩
theorem gs_not {T : List UInt8} {ws : List (List UInt8)} {z : List UInt8} {rest : Rl → List (List UInt8)} {P : Rl → Prop} (h : Gh T (fun r0 => ws = z :: rest r0 ∧ P r0)) (hb : isW ws z = false) :
    ∀ r0, okRu r0 = true → textR r0 ≠ T := fun r0 h1 h2 => by
  have := (h r0 h1 h2).1
  subst this
  rw [isW_eq, beq_self_eq_true] at hb
  cases hb
theorem gs_kind {T : List UInt8} {ws : List (List UInt8)} {rest : Rl → List (List UInt8)} {P : Rl → Prop} (h : Gh T (fun r0 => ws = kindW r0.kind :: rest r0 ∧ P r0)) :
    Gh T (fun r0 => kndT ws = rest r0 ∧ kndV ws = r0.kind ∧ P r0) := h.imp fun r0 ok _ ⟨h2, h3⟩ => by
  subst h2
  have hk := (okRu_num ok).2.2.2.2.2.2.2.2.2.1
  have e : ∀ k : Int, k = 1 ∨ k = 2 ∨ k = 3 → ∀ t, kndT (kindW k :: t) = t ∧ kndV (kindW k :: t) = k := fun k hk t => by
    rcases hk with rfl | rfl | rfl
    · exact ⟨(kndV_1 rfl).2, (kndV_1 rfl).1⟩
    · exact ⟨(kndV_2 rfl rfl).2, (kndV_2 rfl rfl).1⟩
    · exact ⟨(kndV_3 rfl rfl rfl).2, (kndV_3 rfl rfl rfl).1⟩
  exact ⟨(e _ hk _).1, (e _ hk _).2, h3⟩

/-- what is known behind the value -/
def J1 (T : List UInt8) (r : Rl) (ws : List (List UInt8)) : Prop := Gh T (fun r0 => ws = rest1 r0 ∧ r = { r0 with group := -1, cap := 0, lo := 0, hi := 1000000, counts := all3, coupon := 0 })
/-- .. behind the group -/
def J2 (T : List UInt8) (r : Rl) (ws : List (List UInt8)) : Prop := Gh T (fun r0 => ws = capW r0 ++ (totW r0 ++ (cntD r0.counts 0 ++ cpnW r0)) ∧ r = { r0 with cap := 0, lo := 0, hi := 1000000, counts := all3, coupon := 0 })
/-- .. behind the cap -/
def J3 (T : List UInt8) (r : Rl) (ws : List (List UInt8)) : Prop := Gh T (fun r0 => ws = totW r0 ++ (cntD r0.counts 0 ++ cpnW r0) ∧ r = { r0 with lo := 0, hi := 1000000, counts := all3, coupon := 0 })
/-- .. behind the total -/
def J4 (T : List UInt8) (r : Rl) (ws : List (List UInt8)) : Prop := Gh T (fun r0 => ws = cntD r0.counts 0 ++ cpnW r0 ∧ r = { r0 with counts := all3, coupon := 0 })
/-- .. in the loop over the counts -/
def JC (T : List UInt8) (r : Rl) (ws : List (List UInt8)) : Prop := Gh T (fun r0 => ∃ k, k ≤ 3 ∧ ws = cntD r0.counts k ++ cpnW r0 ∧ r = { r0 with counts := mix r0.counts k, coupon := 0 })
/-- .. behind the counts -/
def J5 (T : List UInt8) (r : Rl) (ws : List (List UInt8)) : Prop := Gh T (fun r0 => ws = cpnW r0 ∧ r = { r0 with coupon := 0 })
/-- .. at the end -/
def J6 (T : List UInt8) (r : Rl) : Prop := Gh T (fun r0 => r = r0)

theorem rest2_not (r : Rl) {z : List UInt8} (h1 : wCap ≠ z) (h2 : wTotal ≠ z) (h3 : wCount ≠ z) (h4 : wCoupon ≠ z) : nextNot (capW r ++ (totW r ++ (cntD r.counts 0 ++ cpnW r))) z :=
  next_app (next_cap r h1) (next_app (next_tot r h2) (next_app (next_cntD _ _ h3) (next_cpn r h4)))
theorem j1_no {T : List UInt8} {r : Rl} {ws : List (List UInt8)} (h : J1 T r ws) (hb : isW ws wGroup = false) : J2 T r ws :=
  h.imp fun r0 ok _ ⟨h2, h3⟩ => by
    subst h2 h3
    by_cases hg : r0.group = -1
    · exact ⟨by simp [rest1, grpW, hg], by rw [← hg]⟩
    · simp [rest1, grpW, hg, isW] at hb
theorem j1_yes {T : List UInt8} {r : Rl} {ws : List (List UInt8)} (h : J1 T r ws) (hb : isW ws wGroup = true) : J2 T { r with group := numV ws.tail } ws.tail.tail :=
  h.imp fun r0 ok _ ⟨h2, h3⟩ => by
    subst h2 h3
    by_cases hg : r0.group = -1
    · rw [rest1, show grpW r0 = [] by simp [grpW, hg], List.nil_append, isW_not (rest2_not r0 (by decide) (by decide) (by decide) (by decide))] at hb
      cases hb
    · have h4 := (okRu_num ok).2.2.2.1
      simp only [rest1, grpW, if_neg hg, List.cons_append, List.nil_append, List.tail_cons]
      exact ⟨trivial, by rw [numV_dec (by omega) (by omega)]⟩
theorem j2_no {T : List UInt8} {r : Rl} {ws : List (List UInt8)} (h : J2 T r ws) (hb : isW ws wCap = false) : J3 T r ws :=
  h.imp fun r0 ok _ ⟨h2, h3⟩ => by
    subst h2 h3
    by_cases hg : r0.cap = 0
    · exact ⟨by simp [capW, hg], by rw [← hg]⟩
    · simp [capW, hg, isW] at hb
theorem j2_yes {T : List UInt8} {r : Rl} {ws : List (List UInt8)} (h : J2 T r ws) (hb : isW ws wCap = true) : J3 T { r with cap := numV ws.tail } ws.tail.tail :=
  h.imp fun r0 ok _ ⟨h2, h3⟩ => by
    subst h2 h3
    by_cases hg : r0.cap = 0
    · rw [show capW r0 = [] by simp [capW, hg], List.nil_append, isW_not (next_app (next_tot r0 (by decide)) (next_app (next_cntD _ _ (by decide)) (next_cpn r0 (by decide))))] at hb
      cases hb
    · have h4 := (okRu_num ok).2.2.2.2.1
      simp only [capW, if_neg hg, List.cons_append, List.nil_append, List.tail_cons]
      exact ⟨trivial, by rw [numV_dec (by omega) (by omega)]⟩
theorem j3_no {T : List UInt8} {r : Rl} {ws : List (List UInt8)} (h : J3 T r ws) (hb : isW ws wTotal = false) : J4 T r ws :=
  h.imp fun r0 ok _ ⟨h2, h3⟩ => by
    subst h2 h3
    cases hg : allSp r0.lo r0.hi
    · simp [totW, hg, isW] at hb
    · have := allSp_iff hg
      exact ⟨by simp [totW, hg], by rw [← this.1, ← this.2]⟩
theorem j3_yes {T : List UInt8} {r : Rl} {ws : List (List UInt8)} (h : J3 T r ws) (hb : isW ws wTotal = true) : J4 T { { r with lo := (spnV ws.tail).1 } with hi := (spnV ws.tail).2 } ws.tail.tail :=
  h.imp fun r0 ok _ ⟨h2, h3⟩ => by
    subst h2 h3
    cases hg : allSp r0.lo r0.hi
    · obtain ⟨h4, h5⟩ := (okRu_num ok).2.2.2.2.2.1
      simp only [totW, hg, Bool.false_eq_true, if_false, List.cons_append, List.nil_append, List.tail_cons]
      exact ⟨trivial, by rw [spnV_span h4 h5]⟩
    · rw [show totW r0 = [] by simp [totW, hg], List.nil_append, isW_not (next_app (next_cntD _ _ (by decide)) (next_cpn r0 (by decide)))] at hb
      cases hb
theorem j4_start {T : List UInt8} {r : Rl} {ws : List (List UInt8)} (h : J4 T r ws) : JC T r ws := h.imp fun r0 _ _ ⟨h2, h3⟩ => ⟨0, by omega, h2, h3⟩
theorem jc_end {T : List UInt8} {r : Rl} {ws : List (List UInt8)} (h : JC T r ws) (hb : isW ws wCount = false) : J5 T r ws :=
  h.imp fun r0 ok _ ⟨k, hk, h2, h3⟩ => by
    subst h2 h3
    have := cnt_none r0.counts (cpnW r0) (3 - k) k (by omega) hb
    exact ⟨by rw [this.1]; rfl, by rw [this.2, mix3 (okRu_num ok).2.2.2.2.2.2.1]⟩
theorem jc_step {T : List UInt8} {r : Rl} {ws : List (List UInt8)} (h : JC T r ws) (hb : isW ws wCount = true) :
    Gh T (fun r0 => ∃ j : Nat, j < 3 ∧ numV ws.tail = j ∧ ws.tail.tail.tail = cntD r0.counts (j + 1) ++ cpnW r0 ∧ { r with counts := r.counts.set j (spnV ws.tail.tail) } = { r0 with counts := mix r0.counts (j + 1), coupon := 0 }) :=
  h.imp fun r0 ok _ ⟨k, hk, h2, h3⟩ => by
    subst h2 h3
    obtain ⟨j, hj, e1, e2⟩ := cnt_some r0.counts (cpnW r0) (isW_not (next_cpn r0 (by decide))) (3 - k) k (by omega) hb
    have hc := (okRu_num ok).2.2.2.2.2.2.2.1 j (by rw [(okRu_num ok).2.2.2.2.2.2.1]; exact hj)
    rw [e1, e2]
    simp only [List.tail_cons]
    exact ⟨j, hj, numV_dec (by omega) (by omega) _, rfl, by rw [spnV_span hc.1 hc.2, mix_set hj]⟩
theorem jc_in {T : List UInt8} {r : Rl} {ws : List (List UInt8)} {n : Int} {x : Int × Int} {j : Nat} (hn : n = (j : Int)) (h : Gh T (fun r0 => ∃ j : Nat, j < 3 ∧ n = j ∧ ws = cntD r0.counts (j + 1) ++ cpnW r0 ∧ { r with counts := r.counts.set j x } = { r0 with counts := mix r0.counts (j + 1), coupon := 0 })) :
    JC T { r with counts := r.counts.set j x } ws :=
  h.imp fun r0 _ _ ⟨i, hi, h2, h3, h4⟩ => by
    have : i = j := by omega
    subst this
    exact ⟨i + 1, by omega, h3, h4⟩
theorem jc_out {T : List UInt8} {P : Rl → Nat → Prop} {n : Int} (hn : wi n 0 2 = false) (h : Gh T (fun r0 => ∃ j : Nat, j < 3 ∧ n = j ∧ P r0 j)) : ∀ r0, okRu r0 = true → textR r0 ≠ T := fun r0 h1 h2 => by
  obtain ⟨j, hj, e, _⟩ := h r0 h1 h2
  have : wi n 0 2 = true := by rw [wi_true]; omega
  rw [hn] at this
  cases this
theorem j5_no {T : List UInt8} {r : Rl} {ws : List (List UInt8)} (h : J5 T r ws) (hb : isW ws wCoupon = false) : J6 T r :=
  h.imp fun r0 ok _ ⟨h2, h3⟩ => by
    subst h2 h3
    by_cases hg : r0.coupon = 0
    · rw [← hg]
    · simp [cpnW, hg, isW] at hb
theorem j5_yes {T : List UInt8} {r : Rl} {ws : List (List UInt8)} (h : J5 T r ws) (hb : isW ws wCoupon = true) : J6 T { r with coupon := numV ws.tail } :=
  h.imp fun r0 ok _ ⟨h2, h3⟩ => by
    subst h2 h3
    by_cases hg : r0.coupon = 0
    · simp [cpnW, hg, isW] at hb
    · have h4 := (okRu_num ok).2.2.2.2.2.2.2.2.1
      simp only [cpnW, if_neg hg, List.tail_cons]
      rw [numV_dec (by omega) (by omega)]

end Go.Proofs.YtdofpealmngmiaaGreatDoor
