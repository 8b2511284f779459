/- Walks: setting a price in the program. Conditions: none. -/
import Derived.Test.YtphjdgncfamloaaWA
import Derived.Test.YtphjdgncfamloaaSet
namespace Go.Proofs.Ytphjdgncfamloaa
open Go.RowKit

theorem Try.info37s : (Try.prog.info? 37).map (fun i => (i.zero, i.size, i.bytes)) = some (some (.agg #[.int .i64 0, .int .i64 0]), 2, 16) := by kernel_rfl

/-- Below, behind a write into what is new. -/
theorem below_own {w a b : World} {row : Option Nat} (h : Below w.heap.size w a) (hg : a.grownBy b row) (hr : ∀ k, row = some k → w.heap.size ≤ k) : Below w.heap.size w b :=
  below_of_grownBy (grownBy_new (grownBy_of_below h) hg hr)

theorem below_copy {w a b : World} {e : Nat} (h : Below w.heap.size w a) (hg : (a.alloc (.cells #[] e)).grownBy b (Value.slice (some ⟨a.heap.size, 0, none⟩) 0 0).ownBlock) : Below w.heap.size w b :=
  below_own (h.alloc h.size _) hg (fun k hk => by obtain rfl : a.heap.size = k := Option.some.inj hk; exact h.size)

/-- What setting a price hands back. -/
def SetPost (l : List (Int × Int)) (d p : Int) (w : World) (e : Ending) (w' : World) : Prop :=
  ∃ v : Value, e = .returned (.tuple #[v, .bool (setOk l d p)]) ∧ w'.ownsRow w.heap.size 37 2 v (setL l d p).length (pr (setL l d p)) ∧ Below w.heap.size w w'

theorem setPost_no {l : List (Int × Int)} {d p : Int} {w w1 : World} (h : setOk l d p = false) (hb : Below w.heap.size w w1) :
    SetPost l d p w (.returned (.tuple #[.slice (some ⟨w1.heap.size, 0, none⟩) 0 0, .bool false])) (w1.alloc (.cells #[] 37)) := by
  refine ⟨_, by rw [h], ?_, hb.alloc hb.size _⟩
  rw [setL_no h]
  exact World.ownsRow_made w1 #[] 0 hb.size (by simp) (by simp)

theorem setPost_yes {l : List (Int × Int)} {d p : Int} {w w1 : World} {v : Value} {o : List (Int × Int)} (h : setOk l d p = true) (ho : out1 l d p = o) (hb : Below w.heap.size w w1) (hown : w1.ownsRow w.heap.size 37 2 v o.length (pr o)) :
    SetPost l d p w (.returned (.tuple #[v, .bool true])) w1 := by
  refine ⟨v, by rw [h], ?_, hb⟩
  rw [setL_yes h, ho]; exact hown

set_option maxHeartbeats 4000000 in
theorem implSet_v (base0 : Nat) (l : List (Int × Int)) (v : Value) (d p : Int) (w : World) (ho : w.ownsRow base0 37 2 v l.length (pr l)) (hp : vPrices l = false) :
    Calls Try.prog 23 #[v, .int .i64 d, .int .i64 p] w (SetPost l d p w) := by
  have HO := Lib.hid ho
  clear ho
  have fin := Lib.hid (setOk_v (d := d) (p := p) hp)
  go_enter Try.func23, Try.ntmps23
  go_wp2_with (first | (go_at_call 14; (with_reducible refine (implValidPrices_any l _ _ (Rd.of_owns HO.out)).mono ?_); rintro e w1 ⟨rfl, hb1⟩))
  go_ret2
  exact setPost_no fin.out hb1

set_option maxHeartbeats 4000000 in
theorem implSet_p (base0 : Nat) (l : List (Int × Int)) (v : Value) (d p : Int) (w : World) (ho : w.ownsRow base0 37 2 v l.length (pr l)) (hp : vPrices l = true) (hq : wi p 1 5000 = false) :
    Calls Try.prog 23 #[v, .int .i64 d, .int .i64 p] w (SetPost l d p w) := by
  have HO := Lib.hid ho
  clear ho
  have fin := Lib.hid (setOk_p (l := l) (d := d) hq)
  go_enter Try.func23, Try.ntmps23
  go_wp2_with (first | (go_at_call 14; (with_reducible refine (implValidPrices_any l _ _ (Rd.of_owns HO.out)).mono ?_); rintro e w1 ⟨rfl, hb1⟩) | (go_at_call 35; refine (within_any _ _ _ _).mono ?_; rintro e w2 ⟨rfl, hw2⟩; subst hw2))
  go_ret2
  exact setPost_no fin.out hb1

set_option maxHeartbeats 4000000 in
theorem implSet_d (base0 : Nat) (l : List (Int × Int)) (v : Value) (d p : Int) (w : World) (ho : w.ownsRow base0 37 2 v l.length (pr l)) (hp : vPrices l = true) (hq : wi p 1 5000 = true) (hd : wi d 0 999 = false) :
    Calls Try.prog 23 #[v, .int .i64 d, .int .i64 p] w (SetPost l d p w) := by
  have HO := Lib.hid ho
  clear ho
  have fin := Lib.hid (setOk_d (l := l) (p := p) hd)
  go_enter Try.func23, Try.ntmps23
  go_wp2_with (first | (go_at_call 14; (with_reducible refine (implValidPrices_any l _ _ (Rd.of_owns HO.out)).mono ?_); rintro e w1 ⟨rfl, hb1⟩) | (go_at_call 35; refine (within_any _ _ _ _).mono ?_; rintro e w2 ⟨rfl, hw2⟩; subst hw2))
  go_ret2
  exact setPost_no fin.out hb1

set_option maxHeartbeats 4000000 in
theorem implSet_gt (base0 : Nat) (l : List (Int × Int)) (v : Value) (d p : Int) (w : World) (ho : w.ownsRow base0 37 2 v l.length (pr l)) (hp : vPrices l = true) (hq : wi p 1 5000 = true) (hd : wi d 0 999 = true) (h0 : 0 < l.length) (h1 : d < lastA l) :
    Calls Try.prog 23 #[v, .int .i64 d, .int .i64 p] w (SetPost l d p w) := by
  have HO := Lib.hid ho
  clear ho
  obtain ⟨i0, hi, hz0, hz1, hz2⟩ := info_parts Try.info37s
  have HI := Lib.hid hi
  have HZ0 := Lib.hid hz0
  have HZ1 := Lib.hid hz1
  have HZ2 := Lib.hid hz2
  have hl12 := (vPrices_all hp).2
  clear hi hz0 hz1 hz2
  obtain ⟨j, hlen⟩ : ∃ j, l.length = j + 1 := ⟨l.length - 1, by omega⟩
  have HLA : Hid (lastA l = pA l j) := by rw [Hid]; unfold lastA; rw [hlen]; rfl
  have hw : IntKind.i64.wrap (j : Int) = (j : Int) := IntWalk.i64_in _ (by omega)
  have HLEN := Lib.hid hlen
  have fin := Lib.hid (setOk_gt (p := p) h0 h1)
  go_enter Try.func23, Try.ntmps23
  go_wp2_with (first | (go_at_call 14; (with_reducible refine (implValidPrices_any l _ _ (Rd.of_owns HO.out)).mono ?_); rintro e w1 ⟨rfl, hb1⟩) | (go_at_call 35; refine (within_any _ _ _ _).mono ?_; rintro e w2 ⟨rfl, hw2⟩; subst hw2) | (at_builtin; have hown1 := World.ownsRow_made (base := w.heap.size) (e := 37) (size := 2) w2 #[] 0 hb1.size (by simp) (by simp); have hr1 := (ownsRow_below HO.out hb1 (Nat.le_refl _)).alloc (.cells #[] 37); refine app_copy rfl (.tmp 24) (.tmp 25) 23 rfl w.heap.size base0 37 i0 _ Try.underlying23 HI.out HZ0.out HZ1.out HZ2.out rfl _ rfl hown1 l _ rfl hr1 (by omega) (by have := hb1.size; simp; omega) ?_; intro v1 w3 ho3 hg3; have B3 := Lib.hid (below_copy hb1 hg3); obtain ⟨ao1, cap1, hv1, hsh⟩ := owns_shape ho3; rw [HLEN.out] at hv1 hsh; subst hv1; have O3L := Lib.hid ho3; rw [HLEN.out] at ho3; have HSH := Lib.hid hsh; have O3 := Lib.hid ho3; clear ho3 hg3 hsh; obtain ⟨g1, rfl, hgb1⟩ := HSH.out (by omega); obtain ⟨c0, c1, f0, f1⟩ := owns_at2 O3.out j (by omega); rw [← HLA.out] at c0))
  go_ret2
  exact setPost_no fin.out B3.out

set_option maxHeartbeats 4000000 in
theorem implSet_eq_true (base0 : Nat) (l : List (Int × Int)) (v : Value) (d p : Int) (w : World) (ho : w.ownsRow base0 37 2 v l.length (pr l)) (hp : vPrices l = true) (hq : wi p 1 5000 = true) (hd : wi d 0 999 = true) (h0 : 0 < l.length) (h1 : ¬ d < lastA l) (h2 : lastA l = d) (hv2 : vPrices (out1 l d p) = true) :
    Calls Try.prog 23 #[v, .int .i64 d, .int .i64 p] w (SetPost l d p w) := by
  have HO := Lib.hid ho
  clear ho
  obtain ⟨i0, hi, hz0, hz1, hz2⟩ := info_parts Try.info37s
  have HI := Lib.hid hi
  have HZ0 := Lib.hid hz0
  have HZ1 := Lib.hid hz1
  have HZ2 := Lib.hid hz2
  have hl12 := (vPrices_all hp).2
  clear hi hz0 hz1 hz2
  obtain ⟨j, hlen⟩ : ∃ j, l.length = j + 1 := ⟨l.length - 1, by omega⟩
  have HLA : Hid (lastA l = pA l j) := by rw [Hid]; unfold lastA; rw [hlen]; rfl
  have hw : IntKind.i64.wrap (j : Int) = (j : Int) := IntWalk.i64_in _ (by omega)
  have HLEN := Lib.hid hlen
  have h2b : (lastA l == d) = true := by simp [h2]
  have hset := Lib.hid (set_last (p := p) h0 h2)
  have hin := Lib.hid (setOk_in (d := d) (p := p) hp (.inr (by omega)))
  have H2 := Lib.hid h2
  clear h2
  go_enter Try.func23, Try.ntmps23
  go_wp2_with (first | (go_at_call 14; (with_reducible refine (implValidPrices_any l _ _ (Rd.of_owns HO.out)).mono ?_); rintro e w1 ⟨rfl, hb1⟩) | (go_at_call 35; refine (within_any _ _ _ _).mono ?_; rintro e w2 ⟨rfl, hw2⟩; subst hw2) | (at_builtin; have hown1 := World.ownsRow_made (base := w.heap.size) (e := 37) (size := 2) w2 #[] 0 hb1.size (by simp) (by simp); have hr1 := (ownsRow_below HO.out hb1 (Nat.le_refl _)).alloc (.cells #[] 37); refine app_copy rfl (.tmp 24) (.tmp 25) 23 rfl w.heap.size base0 37 i0 _ Try.underlying23 HI.out HZ0.out HZ1.out HZ2.out rfl _ rfl hown1 l _ rfl hr1 (by omega) (by have := hb1.size; simp; omega) ?_; intro v1 w3 ho3 hg3; have B3 := Lib.hid (below_copy hb1 hg3); obtain ⟨ao1, cap1, hv1, hsh⟩ := owns_shape ho3; rw [HLEN.out] at hv1 hsh; subst hv1; have O3L := Lib.hid ho3; rw [HLEN.out] at ho3; have HSH := Lib.hid hsh; have O3 := Lib.hid ho3; clear ho3 hg3 hsh; obtain ⟨g1, rfl, hgb1⟩ := HSH.out (by omega); obtain ⟨c0, c1, f0, f1⟩ := owns_at2 O3.out j (by omega); rw [← HLA.out] at c0))
  have e1 := O3.out.stored (j * 2 + 1) (.int .i64 p)
  have O4 : Hid ((w3.setCell ⟨g1, j * 2 + 1, none⟩ (.int .i64 p)).ownsRow w.heap.size 37 2 (.slice (some ⟨g1, 0, none⟩) (j + 1) cap1) (out1 l d p).length (pr (out1 l d p))) := by
    rw [Hid, ← hset.out, List.length_set, ← pr_set, hlen, Nat.add_sub_cancel]
    have := e1.1
    rwa [set_same (pr l) (j * 2) (.int .i64 d) (by have := (pr_get l j (by omega)).1; rw [this, ← HLA.out, H2.out])]
  have B4 := Lib.hid (below_own B3.out e1.2 (fun k hk => by simp only [Option.some.injEq] at hk; omega))
  have L4 : (out1 l d p).length = j + 1 := by rw [← hset.out, List.length_set, hlen]
  have R4 : Hid (Rd (w3.setCell ⟨g1, j * 2 + 1, none⟩ (.int .i64 p)) 2 (.slice (some ⟨g1, 0, none⟩) (j + 1) cap1) (out1 l d p).length (pr (out1 l d p))) := Rd.of_owns O4.out
  clear e1
  go_wp2_with (go_at_call 14; refine (implValidPrices_any (out1 l d p) _ _ R4.out).mono ?_; rintro e w5 ⟨rfl, hb5⟩)
  have B5 := B4.out.trans (hb5.mono B4.out.size)
  go_ret2
  exact setPost_yes (by rw [hin.out, hv2]) rfl B5 (ownsRow_below O4.out hb5 (Nat.le_refl _))

set_option maxHeartbeats 4000000 in
theorem implSet_eq_false (base0 : Nat) (l : List (Int × Int)) (v : Value) (d p : Int) (w : World) (ho : w.ownsRow base0 37 2 v l.length (pr l)) (hp : vPrices l = true) (hq : wi p 1 5000 = true) (hd : wi d 0 999 = true) (h0 : 0 < l.length) (h1 : ¬ d < lastA l) (h2 : lastA l = d) (hv2 : vPrices (out1 l d p) = false) :
    Calls Try.prog 23 #[v, .int .i64 d, .int .i64 p] w (SetPost l d p w) := by
  have HO := Lib.hid ho
  clear ho
  obtain ⟨i0, hi, hz0, hz1, hz2⟩ := info_parts Try.info37s
  have HI := Lib.hid hi
  have HZ0 := Lib.hid hz0
  have HZ1 := Lib.hid hz1
  have HZ2 := Lib.hid hz2
  have hl12 := (vPrices_all hp).2
  clear hi hz0 hz1 hz2
  obtain ⟨j, hlen⟩ : ∃ j, l.length = j + 1 := ⟨l.length - 1, by omega⟩
  have HLA : Hid (lastA l = pA l j) := by rw [Hid]; unfold lastA; rw [hlen]; rfl
  have hw : IntKind.i64.wrap (j : Int) = (j : Int) := IntWalk.i64_in _ (by omega)
  have HLEN := Lib.hid hlen
  have h2b : (lastA l == d) = true := by simp [h2]
  have hset := Lib.hid (set_last (p := p) h0 h2)
  have hin := Lib.hid (setOk_in (d := d) (p := p) hp (.inr (by omega)))
  have H2 := Lib.hid h2
  clear h2
  go_enter Try.func23, Try.ntmps23
  go_wp2_with (first | (go_at_call 14; (with_reducible refine (implValidPrices_any l _ _ (Rd.of_owns HO.out)).mono ?_); rintro e w1 ⟨rfl, hb1⟩) | (go_at_call 35; refine (within_any _ _ _ _).mono ?_; rintro e w2 ⟨rfl, hw2⟩; subst hw2) | (at_builtin; have hown1 := World.ownsRow_made (base := w.heap.size) (e := 37) (size := 2) w2 #[] 0 hb1.size (by simp) (by simp); have hr1 := (ownsRow_below HO.out hb1 (Nat.le_refl _)).alloc (.cells #[] 37); refine app_copy rfl (.tmp 24) (.tmp 25) 23 rfl w.heap.size base0 37 i0 _ Try.underlying23 HI.out HZ0.out HZ1.out HZ2.out rfl _ rfl hown1 l _ rfl hr1 (by omega) (by have := hb1.size; simp; omega) ?_; intro v1 w3 ho3 hg3; have B3 := Lib.hid (below_copy hb1 hg3); obtain ⟨ao1, cap1, hv1, hsh⟩ := owns_shape ho3; rw [HLEN.out] at hv1 hsh; subst hv1; have O3L := Lib.hid ho3; rw [HLEN.out] at ho3; have HSH := Lib.hid hsh; have O3 := Lib.hid ho3; clear ho3 hg3 hsh; obtain ⟨g1, rfl, hgb1⟩ := HSH.out (by omega); obtain ⟨c0, c1, f0, f1⟩ := owns_at2 O3.out j (by omega); rw [← HLA.out] at c0))
  have e1 := O3.out.stored (j * 2 + 1) (.int .i64 p)
  have O4 : Hid ((w3.setCell ⟨g1, j * 2 + 1, none⟩ (.int .i64 p)).ownsRow w.heap.size 37 2 (.slice (some ⟨g1, 0, none⟩) (j + 1) cap1) (out1 l d p).length (pr (out1 l d p))) := by
    rw [Hid, ← hset.out, List.length_set, ← pr_set, hlen, Nat.add_sub_cancel]
    have := e1.1
    rwa [set_same (pr l) (j * 2) (.int .i64 d) (by have := (pr_get l j (by omega)).1; rw [this, ← HLA.out, H2.out])]
  have B4 := Lib.hid (below_own B3.out e1.2 (fun k hk => by simp only [Option.some.injEq] at hk; omega))
  have L4 : (out1 l d p).length = j + 1 := by rw [← hset.out, List.length_set, hlen]
  have R4 : Hid (Rd (w3.setCell ⟨g1, j * 2 + 1, none⟩ (.int .i64 p)) 2 (.slice (some ⟨g1, 0, none⟩) (j + 1) cap1) (out1 l d p).length (pr (out1 l d p))) := Rd.of_owns O4.out
  clear e1
  go_wp2_with (go_at_call 14; refine (implValidPrices_any (out1 l d p) _ _ R4.out).mono ?_; rintro e w5 ⟨rfl, hb5⟩)
  have B5 := B4.out.trans (hb5.mono B4.out.size)
  go_ret2
  exact setPost_no (by rw [hin.out, hv2]) B5

set_option maxHeartbeats 4000000 in
theorem implSet_ne_true (base0 : Nat) (l : List (Int × Int)) (v : Value) (d p : Int) (w : World) (ho : w.ownsRow base0 37 2 v l.length (pr l)) (hp : vPrices l = true) (hq : wi p 1 5000 = true) (hd : wi d 0 999 = true) (h0 : 0 < l.length) (h1 : ¬ d < lastA l) (h2 : ¬ lastA l = d) (hv2 : vPrices (l ++ [(d, p)]) = true) :
    Calls Try.prog 23 #[v, .int .i64 d, .int .i64 p] w (SetPost l d p w) := by
  have HO := Lib.hid ho
  clear ho
  obtain ⟨i0, hi, hz0, hz1, hz2⟩ := info_parts Try.info37s
  have HI := Lib.hid hi
  have HZ0 := Lib.hid hz0
  have HZ1 := Lib.hid hz1
  have HZ2 := Lib.hid hz2
  have hl12 := (vPrices_all hp).2
  clear hi hz0 hz1 hz2
  obtain ⟨j, hlen⟩ : ∃ j, l.length = j + 1 := ⟨l.length - 1, by omega⟩
  have HLA : Hid (lastA l = pA l j) := by rw [Hid]; unfold lastA; rw [hlen]; rfl
  have hw : IntKind.i64.wrap (j : Int) = (j : Int) := IntWalk.i64_in _ (by omega)
  have HLEN := Lib.hid hlen
  have h2b : (lastA l == d) = false := by simp [h2]
  have hout := Lib.hid (out1_ne (l := l) (d := d) (p := p) (fun h => h2 h.2))
  have hin := Lib.hid (setOk_in (d := d) (p := p) hp (.inr (by omega)))
  clear h2
  go_enter Try.func23, Try.ntmps23
  go_wp2_with (first | (go_at_call 14; (with_reducible refine (implValidPrices_any l _ _ (Rd.of_owns HO.out)).mono ?_); rintro e w1 ⟨rfl, hb1⟩) | (go_at_call 35; refine (within_any _ _ _ _).mono ?_; rintro e w2 ⟨rfl, hw2⟩; subst hw2) | (at_builtin; have hown1 := World.ownsRow_made (base := w.heap.size) (e := 37) (size := 2) w2 #[] 0 hb1.size (by simp) (by simp); have hr1 := (ownsRow_below HO.out hb1 (Nat.le_refl _)).alloc (.cells #[] 37); refine app_copy rfl (.tmp 24) (.tmp 25) 23 rfl w.heap.size base0 37 i0 _ Try.underlying23 HI.out HZ0.out HZ1.out HZ2.out rfl _ rfl hown1 l _ rfl hr1 (by omega) (by have := hb1.size; simp; omega) ?_; intro v1 w3 ho3 hg3; have B3 := Lib.hid (below_copy hb1 hg3); obtain ⟨ao1, cap1, hv1, hsh⟩ := owns_shape ho3; rw [HLEN.out] at hv1 hsh; subst hv1; have O3L := Lib.hid ho3; rw [HLEN.out] at ho3; have HSH := Lib.hid hsh; have O3 := Lib.hid ho3; clear ho3 hg3 hsh; obtain ⟨g1, rfl, hgb1⟩ := HSH.out (by omega); obtain ⟨c0, c1, f0, f1⟩ := owns_at2 O3.out j (by omega); rw [← HLA.out] at c0) | (at_builtin; refine app_pair rfl (.tmp 30) (.tmp 34) 23 rfl w.heap.size 37 _ i0 _ Try.underlying23 HI.out HZ0.out HZ1.out HZ2.out rfl _ l d p rfl O3L.out rfl (by omega) B3.out.size ?_; intro v4 w4 ho4 hg4; have B4 := Lib.hid (below_own (B3.out.alloc B3.out.size _) hg4 (fun k hk => (O3.out.lt k hk).1)); have O4 := Lib.hid ho4; clear ho4 hg4))
  go_wp2_with (go_at_call 14; refine (implValidPrices_any (l ++ [(d, p)]) _ _ (Rd.of_owns O4.out)).mono ?_; rintro e w5 ⟨rfl, hb5⟩)
  have B5 := B4.out.trans (hb5.mono B4.out.size)
  go_ret2
  exact setPost_yes (by rw [hin.out, hout.out, hv2]) hout.out B5 (ownsRow_below O4.out hb5 (Nat.le_refl _))

set_option maxHeartbeats 4000000 in
theorem implSet_ne_false (base0 : Nat) (l : List (Int × Int)) (v : Value) (d p : Int) (w : World) (ho : w.ownsRow base0 37 2 v l.length (pr l)) (hp : vPrices l = true) (hq : wi p 1 5000 = true) (hd : wi d 0 999 = true) (h0 : 0 < l.length) (h1 : ¬ d < lastA l) (h2 : ¬ lastA l = d) (hv2 : vPrices (l ++ [(d, p)]) = false) :
    Calls Try.prog 23 #[v, .int .i64 d, .int .i64 p] w (SetPost l d p w) := by
  have HO := Lib.hid ho
  clear ho
  obtain ⟨i0, hi, hz0, hz1, hz2⟩ := info_parts Try.info37s
  have HI := Lib.hid hi
  have HZ0 := Lib.hid hz0
  have HZ1 := Lib.hid hz1
  have HZ2 := Lib.hid hz2
  have hl12 := (vPrices_all hp).2
  clear hi hz0 hz1 hz2
  obtain ⟨j, hlen⟩ : ∃ j, l.length = j + 1 := ⟨l.length - 1, by omega⟩
  have HLA : Hid (lastA l = pA l j) := by rw [Hid]; unfold lastA; rw [hlen]; rfl
  have hw : IntKind.i64.wrap (j : Int) = (j : Int) := IntWalk.i64_in _ (by omega)
  have HLEN := Lib.hid hlen
  have h2b : (lastA l == d) = false := by simp [h2]
  have hout := Lib.hid (out1_ne (l := l) (d := d) (p := p) (fun h => h2 h.2))
  have hin := Lib.hid (setOk_in (d := d) (p := p) hp (.inr (by omega)))
  clear h2
  go_enter Try.func23, Try.ntmps23
  go_wp2_with (first | (go_at_call 14; (with_reducible refine (implValidPrices_any l _ _ (Rd.of_owns HO.out)).mono ?_); rintro e w1 ⟨rfl, hb1⟩) | (go_at_call 35; refine (within_any _ _ _ _).mono ?_; rintro e w2 ⟨rfl, hw2⟩; subst hw2) | (at_builtin; have hown1 := World.ownsRow_made (base := w.heap.size) (e := 37) (size := 2) w2 #[] 0 hb1.size (by simp) (by simp); have hr1 := (ownsRow_below HO.out hb1 (Nat.le_refl _)).alloc (.cells #[] 37); refine app_copy rfl (.tmp 24) (.tmp 25) 23 rfl w.heap.size base0 37 i0 _ Try.underlying23 HI.out HZ0.out HZ1.out HZ2.out rfl _ rfl hown1 l _ rfl hr1 (by omega) (by have := hb1.size; simp; omega) ?_; intro v1 w3 ho3 hg3; have B3 := Lib.hid (below_copy hb1 hg3); obtain ⟨ao1, cap1, hv1, hsh⟩ := owns_shape ho3; rw [HLEN.out] at hv1 hsh; subst hv1; have O3L := Lib.hid ho3; rw [HLEN.out] at ho3; have HSH := Lib.hid hsh; have O3 := Lib.hid ho3; clear ho3 hg3 hsh; obtain ⟨g1, rfl, hgb1⟩ := HSH.out (by omega); obtain ⟨c0, c1, f0, f1⟩ := owns_at2 O3.out j (by omega); rw [← HLA.out] at c0) | (at_builtin; refine app_pair rfl (.tmp 30) (.tmp 34) 23 rfl w.heap.size 37 _ i0 _ Try.underlying23 HI.out HZ0.out HZ1.out HZ2.out rfl _ l d p rfl O3L.out rfl (by omega) B3.out.size ?_; intro v4 w4 ho4 hg4; have B4 := Lib.hid (below_own (B3.out.alloc B3.out.size _) hg4 (fun k hk => (O3.out.lt k hk).1)); have O4 := Lib.hid ho4; clear ho4 hg4))
  go_wp2_with (go_at_call 14; refine (implValidPrices_any (l ++ [(d, p)]) _ _ (Rd.of_owns O4.out)).mono ?_; rintro e w5 ⟨rfl, hb5⟩)
  have B5 := B4.out.trans (hb5.mono B4.out.size)
  go_ret2
  exact setPost_no (by rw [hin.out, hout.out, hv2]) B5

set_option maxHeartbeats 4000000 in
theorem implSet_nil_true (base0 : Nat) (l : List (Int × Int)) (v : Value) (d p : Int) (w : World) (ho : w.ownsRow base0 37 2 v l.length (pr l)) (hp : vPrices l = true) (hq : wi p 1 5000 = true) (hd : wi d 0 999 = true) (h0 : ¬ 0 < l.length) (hv2 : vPrices (l ++ [(d, p)]) = true) :
    Calls Try.prog 23 #[v, .int .i64 d, .int .i64 p] w (SetPost l d p w) := by
  have HO := Lib.hid ho
  clear ho
  obtain ⟨i0, hi, hz0, hz1, hz2⟩ := info_parts Try.info37s
  have HI := Lib.hid hi
  have HZ0 := Lib.hid hz0
  have HZ1 := Lib.hid hz1
  have HZ2 := Lib.hid hz2
  have hl12 := (vPrices_all hp).2
  clear hi hz0 hz1 hz2
  have hl0 : l.length = 0 := by omega
  have hout := Lib.hid (out1_ne (l := l) (d := d) (p := p) (fun h => h0 h.1))
  have hin := Lib.hid (setOk_in (d := d) (p := p) hp (.inl hl0))
  have HL0 := Lib.hid hl0
  clear hl0
  go_enter Try.func23, Try.ntmps23
  go_wp2_with (first | (go_at_call 14; (with_reducible refine (implValidPrices_any l _ _ (Rd.of_owns HO.out)).mono ?_); rintro e w1 ⟨rfl, hb1⟩) | (go_at_call 35; refine (within_any _ _ _ _).mono ?_; rintro e w2 ⟨rfl, hw2⟩; subst hw2) | (at_builtin; have hown1 := World.ownsRow_made (base := w.heap.size) (e := 37) (size := 2) w2 #[] 0 hb1.size (by simp) (by simp); have hr1 := (ownsRow_below HO.out hb1 (Nat.le_refl _)).alloc (.cells #[] 37); refine app_copy rfl (.tmp 24) (.tmp 25) 23 rfl w.heap.size base0 37 i0 _ Try.underlying23 HI.out HZ0.out HZ1.out HZ2.out rfl _ rfl hown1 l _ rfl hr1 (by omega) (by have := hb1.size; simp; omega) ?_; intro v1 w3 ho3 hg3; have B3 := Lib.hid (below_copy hb1 hg3); obtain ⟨ao1, cap1, rfl, hsh⟩ := owns_shape ho3; have HSH := Lib.hid hsh; have O3 := Lib.hid ho3; clear ho3 hg3 hsh) | (at_builtin; refine app_pair rfl (.tmp 30) (.tmp 34) 23 rfl w.heap.size 37 _ i0 _ Try.underlying23 HI.out HZ0.out HZ1.out HZ2.out rfl _ l d p rfl O3.out rfl (by omega) B3.out.size ?_; intro v4 w4 ho4 hg4; have B4 := Lib.hid (below_own (B3.out.alloc B3.out.size _) hg4 (fun k hk => (O3.out.lt k hk).1)); have O4 := Lib.hid ho4; clear ho4 hg4))
  go_wp2_with (go_at_call 14; refine (implValidPrices_any (l ++ [(d, p)]) _ _ (Rd.of_owns O4.out)).mono ?_; rintro e w5 ⟨rfl, hb5⟩)
  have B5 := B4.out.trans (hb5.mono B4.out.size)
  go_ret2
  exact setPost_yes (by rw [hin.out, hout.out, hv2]) hout.out B5 (ownsRow_below O4.out hb5 (Nat.le_refl _))

set_option maxHeartbeats 4000000 in
theorem implSet_nil_false (base0 : Nat) (l : List (Int × Int)) (v : Value) (d p : Int) (w : World) (ho : w.ownsRow base0 37 2 v l.length (pr l)) (hp : vPrices l = true) (hq : wi p 1 5000 = true) (hd : wi d 0 999 = true) (h0 : ¬ 0 < l.length) (hv2 : vPrices (l ++ [(d, p)]) = false) :
    Calls Try.prog 23 #[v, .int .i64 d, .int .i64 p] w (SetPost l d p w) := by
  have HO := Lib.hid ho
  clear ho
  obtain ⟨i0, hi, hz0, hz1, hz2⟩ := info_parts Try.info37s
  have HI := Lib.hid hi
  have HZ0 := Lib.hid hz0
  have HZ1 := Lib.hid hz1
  have HZ2 := Lib.hid hz2
  have hl12 := (vPrices_all hp).2
  clear hi hz0 hz1 hz2
  have hl0 : l.length = 0 := by omega
  have hout := Lib.hid (out1_ne (l := l) (d := d) (p := p) (fun h => h0 h.1))
  have hin := Lib.hid (setOk_in (d := d) (p := p) hp (.inl hl0))
  have HL0 := Lib.hid hl0
  clear hl0
  go_enter Try.func23, Try.ntmps23
  go_wp2_with (first | (go_at_call 14; (with_reducible refine (implValidPrices_any l _ _ (Rd.of_owns HO.out)).mono ?_); rintro e w1 ⟨rfl, hb1⟩) | (go_at_call 35; refine (within_any _ _ _ _).mono ?_; rintro e w2 ⟨rfl, hw2⟩; subst hw2) | (at_builtin; have hown1 := World.ownsRow_made (base := w.heap.size) (e := 37) (size := 2) w2 #[] 0 hb1.size (by simp) (by simp); have hr1 := (ownsRow_below HO.out hb1 (Nat.le_refl _)).alloc (.cells #[] 37); refine app_copy rfl (.tmp 24) (.tmp 25) 23 rfl w.heap.size base0 37 i0 _ Try.underlying23 HI.out HZ0.out HZ1.out HZ2.out rfl _ rfl hown1 l _ rfl hr1 (by omega) (by have := hb1.size; simp; omega) ?_; intro v1 w3 ho3 hg3; have B3 := Lib.hid (below_copy hb1 hg3); obtain ⟨ao1, cap1, rfl, hsh⟩ := owns_shape ho3; have HSH := Lib.hid hsh; have O3 := Lib.hid ho3; clear ho3 hg3 hsh) | (at_builtin; refine app_pair rfl (.tmp 30) (.tmp 34) 23 rfl w.heap.size 37 _ i0 _ Try.underlying23 HI.out HZ0.out HZ1.out HZ2.out rfl _ l d p rfl O3.out rfl (by omega) B3.out.size ?_; intro v4 w4 ho4 hg4; have B4 := Lib.hid (below_own (B3.out.alloc B3.out.size _) hg4 (fun k hk => (O3.out.lt k hk).1)); have O4 := Lib.hid ho4; clear ho4 hg4))
  go_wp2_with (go_at_call 14; refine (implValidPrices_any (l ++ [(d, p)]) _ _ (Rd.of_owns O4.out)).mono ?_; rintro e w5 ⟨rfl, hb5⟩)
  have B5 := B4.out.trans (hb5.mono B4.out.size)
  go_ret2
  exact setPost_no (by rw [hin.out, hout.out, hv2]) B5

theorem implSet_any (base0 : Nat) (l : List (Int × Int)) (v : Value) (d p : Int) (w : World) (ho : w.ownsRow base0 37 2 v l.length (pr l)) :
    Calls Try.prog 23 #[v, .int .i64 d, .int .i64 p] w (SetPost l d p w) := by
  cases hp : vPrices l
  · exact implSet_v base0 l v d p w ho hp
  cases hq : wi p 1 5000
  · exact implSet_p base0 l v d p w ho hp hq
  cases hd : wi d 0 999
  · exact implSet_d base0 l v d p w ho hp hq hd
  by_cases h0 : 0 < l.length
  · by_cases h1 : d < lastA l
    · exact implSet_gt base0 l v d p w ho hp hq hd h0 h1
    by_cases h2 : lastA l = d
    · cases hv2 : vPrices (out1 l d p)
      · exact implSet_eq_false base0 l v d p w ho hp hq hd h0 h1 h2 hv2
      · exact implSet_eq_true base0 l v d p w ho hp hq hd h0 h1 h2 hv2
    · cases hv2 : vPrices (l ++ [(d, p)])
      · exact implSet_ne_false base0 l v d p w ho hp hq hd h0 h1 h2 hv2
      · exact implSet_ne_true base0 l v d p w ho hp hq hd h0 h1 h2 hv2
  · cases hv2 : vPrices (l ++ [(d, p)])
    · exact implSet_nil_false base0 l v d p w ho hp hq hd h0 hv2
    · exact implSet_nil_true base0 l v d p w ho hp hq hd h0 hv2

end Go.Proofs.Ytphjdgncfamloaa
