/- Walks: setting a price in the reference. Conditions: none. -/
import Derived.Test.YtphjdgncfamloaaWB
import Derived.Test.YtphjdgncfamloaaWS
namespace Go.Proofs.Ytphjdgncfamloaa
open Go.RowKit

/-- The first elements of a row. -/
theorem owns_take {w : World} {base e sz n cap k : Nat} {ao : Option Addr} {xs : List Value} (h : w.ownsRow base e sz (.slice ao n cap) n xs) (hk : k ≤ n) : w.ownsRow base e sz (.slice ao k cap) k (xs.take (k * sz)) := by
  have hks : k * sz ≤ n * sz := Nat.mul_le_mul_right _ hk
  refine ⟨by rw [List.length_take, h.1]; exact Nat.min_eq_left hks, ?_⟩
  rcases h.2 with ⟨hv, hn⟩ | ⟨g, cap', cur, hv, hb, hg, hn, hc, hsz, htk⟩
  · simp only [Value.slice.injEq] at hv
    obtain ⟨rfl, rfl, rfl⟩ := hv
    obtain rfl : k = 0 := by omega
    exact .inl ⟨rfl, rfl⟩
  · simp only [Value.slice.injEq, true_and] at hv
    obtain ⟨rfl, rfl⟩ := hv
    refine .inr ⟨g, cap, cur, rfl, hb, hg, Nat.le_trans hk hn, hc, hsz, ?_⟩
    rw [← htk, List.take_take, Nat.min_eq_left hks]

theorem setPost_nil {l : List (Int × Int)} {d p : Int} {w w1 : World} (h : setOk l d p = false) (hb : Below w.heap.size w w1) :
    SetPost l d p w (.returned (.tuple #[.slice none 0 0, .bool false])) w1 := by
  refine ⟨_, by rw [h], ?_, hb⟩
  rw [setL_no h]
  exact ⟨rfl, .inl ⟨rfl, rfl⟩⟩

set_option maxHeartbeats 4000000 in
theorem specSet_v (base0 : Nat) (l : List (Int × Int)) (v : Value) (d p : Int) (w : World) (ho : w.ownsRow base0 37 2 v l.length (pr l)) (hp : vPrices l = false) :
    Calls Try.prog 24 #[v, .int .i64 d, .int .i64 p] w (SetPost l d p w) := by
  obtain ⟨ao, cap, rfl, ⟨hcap1, hcap2⟩, hsh⟩ := owns_shape_cap ho
  have HO := Lib.hid ho
  clear ho hsh
  have fin := Lib.hid (setOk_v (d := d) (p := p) hp)
  go_enter Try.func24, Try.ntmps24
  go_wp2_with (go_at_call 36; (with_reducible refine (specValidPrices_in l _ _ (Rd.of_owns HO.out)).mono ?_); rintro e w1 ⟨rfl, hb1⟩)
  go_ret2
  exact setPost_nil fin.out hb1

set_option maxHeartbeats 4000000 in
theorem specSet_gt (base0 : Nat) (l : List (Int × Int)) (v : Value) (d p : Int) (w : World) (ho : w.ownsRow base0 37 2 v l.length (pr l)) (hp : vPrices l = true) (h0 : 0 < l.length) (h1 : d < lastA l) :
    Calls Try.prog 24 #[v, .int .i64 d, .int .i64 p] w (SetPost l d p w) := by
  obtain ⟨i0, hi, hz0, hz1, hz2⟩ := info_parts Try.info37s
  have HI := Lib.hid hi
  have HZ0 := Lib.hid hz0
  have HZ1 := Lib.hid hz1
  have HZ2 := Lib.hid hz2
  have hl12 := (vPrices_all hp).2
  clear hi hz0 hz1 hz2
  obtain ⟨j, hlen⟩ : ∃ j, l.length = j + 1 := ⟨l.length - 1, by omega⟩
  have HLA : Hid (lastA l = pA l j) := by rw [Hid]; unfold lastA; rw [hlen]; rfl
  have hw : IntKind.i64.wrap (j : Int) = (j : Int) := IntWalk.i64_in _ (by omega)
  have HLEN := Lib.hid hlen
  obtain ⟨ao, cap, hv, hcap, hsh⟩ := owns_shape_cap ho
  obtain ⟨g, rfl, hgb⟩ := hsh (by omega)
  rw [hlen] at hv hcap
  subst hv
  have ho' := ho
  rw [hlen] at ho'
  obtain ⟨c0, c1, f0, f1⟩ := owns_at2 ho' j (by omega)
  rw [← HLA.out] at c0
  have hgw : g < w.heap.size := (ho'.lt g rfl).2
  have HO := Lib.hid ho
  have HO' := Lib.hid ho'
  obtain ⟨hcap1, hcap2⟩ := hcap
  clear ho ho' hsh
  have fin := Lib.hid (setOk_gt (p := p) h0 h1)
  go_enter Try.func24, Try.ntmps24
  go_wp2_with (go_at_call 36; (with_reducible refine (specValidPrices_in l _ _ (Rd.of_owns HO.out)).mono ?_); rintro e w1 ⟨rfl, hb1⟩; have c0' := (hb1.cell (p := ⟨g, j * 2, none⟩) hgw).trans c0; have hgw1 := Nat.lt_of_lt_of_le hgw hb1.size)
  go_ret2
  exact setPost_nil fin.out hb1

set_option maxHeartbeats 4000000 in
theorem specSet_eq_true (base0 : Nat) (l : List (Int × Int)) (v : Value) (d p : Int) (w : World) (ho : w.ownsRow base0 37 2 v l.length (pr l)) (hp : vPrices l = true) (h0 : 0 < l.length) (h1 : ¬ d < lastA l) (h2 : lastA l = d) (m : List (Int × Int)) (hm : l.take (l.length - 1) = m) (hv2 : vPrices (m ++ [(d, p)]) = true) :
    Calls Try.prog 24 #[v, .int .i64 d, .int .i64 p] w (SetPost l d p w) := by
  obtain ⟨i0, hi, hz0, hz1, hz2⟩ := info_parts Try.info37s
  have HI := Lib.hid hi
  have HZ0 := Lib.hid hz0
  have HZ1 := Lib.hid hz1
  have HZ2 := Lib.hid hz2
  have hl12 := (vPrices_all hp).2
  clear hi hz0 hz1 hz2
  obtain ⟨j, hlen⟩ : ∃ j, l.length = j + 1 := ⟨l.length - 1, by omega⟩
  have HLA : Hid (lastA l = pA l j) := by rw [Hid]; unfold lastA; rw [hlen]; rfl
  have hw : IntKind.i64.wrap (j : Int) = (j : Int) := IntWalk.i64_in _ (by omega)
  have HLEN := Lib.hid hlen
  obtain ⟨ao, cap, hv, hcap, hsh⟩ := owns_shape_cap ho
  obtain ⟨g, rfl, hgb⟩ := hsh (by omega)
  rw [hlen] at hv hcap
  subst hv
  have ho' := ho
  rw [hlen] at ho'
  obtain ⟨c0, c1, f0, f1⟩ := owns_at2 ho' j (by omega)
  rw [← HLA.out] at c0
  have hgw : g < w.heap.size := (ho'.lt g rfl).2
  have HO := Lib.hid ho
  have HO' := Lib.hid ho'
  obtain ⟨hcap1, hcap2⟩ := hcap
  clear ho ho' hsh
  have h2b : (lastA l == d) = true := by simp [h2]
  have hout := out1_eq (p := p) h0 h2
  rw [hm] at hout
  have hout := Lib.hid hout
  have hin := Lib.hid (setOk_in (d := d) (p := p) hp (.inr (by omega)))
  have hD := h2
  have HTK : Hid (m = l.take j) := by rw [Hid, ← hm, HLEN.out, Nat.add_sub_cancel]
  have HTL : Hid (m.length = j) := by rw [Hid, HTK.out, List.length_take, HLEN.out]; omega
  have hTL : m.length ≤ 12 := by rw [HTL.out]; omega
  clear h2 hD hm
  go_enter Try.func24, Try.ntmps24
  go_wp2_with (first | (go_at_call 36; (with_reducible refine (specValidPrices_in l _ _ (Rd.of_owns HO.out)).mono ?_); rintro e w1 ⟨rfl, hb1⟩; have c0' := (hb1.cell (p := ⟨g, j * 2, none⟩) hgw).trans c0; have hgw1 := Nat.lt_of_lt_of_le hgw hb1.size) | (at_builtin; have hown1 := World.ownsRow_made (base := w.heap.size) (e := 37) (size := 2) w1 #[] 0 hb1.size (by simp) (by simp); have hr1 := (ownsRow_below HO.out hb1 (Nat.le_refl _)).alloc (.cells #[] 37); have hr1 : (w1.alloc (.cells #[] 37)).ownsRow base0 37 2 (.slice (some ⟨g, 0, none⟩) j cap) m.length (pr m) := (by rw [HTL.out, HTK.out, pr_take]; exact owns_take ((ownsRow_below HO'.out hb1 (Nat.le_refl _)).alloc (.cells #[] 37)) (by omega)); refine app_copy rfl (.tmp 43) (.tmp 46) 23 rfl w.heap.size base0 37 i0 _ Try.underlying23 HI.out HZ0.out HZ1.out HZ2.out rfl _ rfl hown1 (m) _ rfl hr1 (by omega) (by have := hb1.size; simp; omega) ?_; intro v1 w3 ho3 hg3; have B3 := Lib.hid (below_copy hb1 hg3); have O3 := Lib.hid ho3; clear ho3 hg3) | (at_builtin; refine app_pair rfl (.tmp 47) (.tmp 51) 23 rfl w.heap.size 37 _ i0 _ Try.underlying23 HI.out HZ0.out HZ1.out HZ2.out rfl _ (m) d p rfl O3.out rfl (by omega) B3.out.size ?_; intro v4 w4 ho4 hg4; have B4 := Lib.hid (below_own (B3.out.alloc B3.out.size _) hg4 (fun k hk => (O3.out.lt k hk).1)); have O4 := Lib.hid ho4; clear ho4 hg4))
  go_wp2_with (go_at_call 36; refine (specValidPrices_in (m ++ [(d, p)]) _ _ (Rd.of_owns O4.out)).mono ?_; rintro e w5 ⟨rfl, hb5⟩)
  have B5 := B4.out.trans (hb5.mono B4.out.size)
  go_ret2
  exact setPost_yes (by rw [hin.out, hout.out, hv2]) hout.out B5 (ownsRow_below O4.out hb5 (Nat.le_refl _))

set_option maxHeartbeats 4000000 in
theorem specSet_ne_true (base0 : Nat) (l : List (Int × Int)) (v : Value) (d p : Int) (w : World) (ho : w.ownsRow base0 37 2 v l.length (pr l)) (hp : vPrices l = true) (h0 : 0 < l.length) (h1 : ¬ d < lastA l) (h2 : ¬ lastA l = d) (hv2 : vPrices (l ++ [(d, p)]) = true) :
    Calls Try.prog 24 #[v, .int .i64 d, .int .i64 p] w (SetPost l d p w) := by
  obtain ⟨i0, hi, hz0, hz1, hz2⟩ := info_parts Try.info37s
  have HI := Lib.hid hi
  have HZ0 := Lib.hid hz0
  have HZ1 := Lib.hid hz1
  have HZ2 := Lib.hid hz2
  have hl12 := (vPrices_all hp).2
  clear hi hz0 hz1 hz2
  obtain ⟨j, hlen⟩ : ∃ j, l.length = j + 1 := ⟨l.length - 1, by omega⟩
  have HLA : Hid (lastA l = pA l j) := by rw [Hid]; unfold lastA; rw [hlen]; rfl
  have hw : IntKind.i64.wrap (j : Int) = (j : Int) := IntWalk.i64_in _ (by omega)
  have HLEN := Lib.hid hlen
  obtain ⟨ao, cap, hv, hcap, hsh⟩ := owns_shape_cap ho
  obtain ⟨g, rfl, hgb⟩ := hsh (by omega)
  rw [hlen] at hv hcap
  subst hv
  have ho' := ho
  rw [hlen] at ho'
  obtain ⟨c0, c1, f0, f1⟩ := owns_at2 ho' j (by omega)
  rw [← HLA.out] at c0
  have hgw : g < w.heap.size := (ho'.lt g rfl).2
  have HO := Lib.hid ho
  have HO' := Lib.hid ho'
  obtain ⟨hcap1, hcap2⟩ := hcap
  clear ho ho' hsh
  have h2b : (lastA l == d) = false := by simp [h2]
  have hout := Lib.hid (out1_ne (l := l) (d := d) (p := p) (fun h => h2 h.2))
  have hin := Lib.hid (setOk_in (d := d) (p := p) hp (.inr (by omega)))
  clear h2
  go_enter Try.func24, Try.ntmps24
  go_wp2_with (first | (go_at_call 36; (with_reducible refine (specValidPrices_in l _ _ (Rd.of_owns HO.out)).mono ?_); rintro e w1 ⟨rfl, hb1⟩; have c0' := (hb1.cell (p := ⟨g, j * 2, none⟩) hgw).trans c0; have hgw1 := Nat.lt_of_lt_of_le hgw hb1.size) | (at_builtin; have hown1 := World.ownsRow_made (base := w.heap.size) (e := 37) (size := 2) w1 #[] 0 hb1.size (by simp) (by simp); have hr1 := (ownsRow_below HO.out hb1 (Nat.le_refl _)).alloc (.cells #[] 37); refine app_copy rfl (.tmp 43) (.tmp 46) 23 rfl w.heap.size base0 37 i0 _ Try.underlying23 HI.out HZ0.out HZ1.out HZ2.out rfl _ rfl hown1 (l) _ rfl hr1 (by omega) (by have := hb1.size; simp; omega) ?_; intro v1 w3 ho3 hg3; have B3 := Lib.hid (below_copy hb1 hg3); have O3 := Lib.hid ho3; clear ho3 hg3) | (at_builtin; refine app_pair rfl (.tmp 47) (.tmp 51) 23 rfl w.heap.size 37 _ i0 _ Try.underlying23 HI.out HZ0.out HZ1.out HZ2.out rfl _ (l) d p rfl O3.out rfl (by omega) B3.out.size ?_; intro v4 w4 ho4 hg4; have B4 := Lib.hid (below_own (B3.out.alloc B3.out.size _) hg4 (fun k hk => (O3.out.lt k hk).1)); have O4 := Lib.hid ho4; clear ho4 hg4))
  go_wp2_with (go_at_call 36; refine (specValidPrices_in (l ++ [(d, p)]) _ _ (Rd.of_owns O4.out)).mono ?_; rintro e w5 ⟨rfl, hb5⟩)
  have B5 := B4.out.trans (hb5.mono B4.out.size)
  go_ret2
  exact setPost_yes (by rw [hin.out, hout.out, hv2]) hout.out B5 (ownsRow_below O4.out hb5 (Nat.le_refl _))

set_option maxHeartbeats 4000000 in
theorem specSet_nil_true (base0 : Nat) (l : List (Int × Int)) (v : Value) (d p : Int) (w : World) (ho : w.ownsRow base0 37 2 v l.length (pr l)) (hp : vPrices l = true) (h0 : ¬ 0 < l.length) (hv2 : vPrices (l ++ [(d, p)]) = true) :
    Calls Try.prog 24 #[v, .int .i64 d, .int .i64 p] w (SetPost l d p w) := by
  obtain ⟨i0, hi, hz0, hz1, hz2⟩ := info_parts Try.info37s
  have HI := Lib.hid hi
  have HZ0 := Lib.hid hz0
  have HZ1 := Lib.hid hz1
  have HZ2 := Lib.hid hz2
  have hl12 := (vPrices_all hp).2
  clear hi hz0 hz1 hz2
  have hl0 : l.length = 0 := by omega
  have hout := Lib.hid (out1_ne (l := l) (d := d) (p := p) (fun h => h0 h.1))
  have hin := Lib.hid (setOk_in (d := d) (p := p) hp (.inl hl0))
  obtain ⟨ao, cap, rfl, ⟨hcap1, hcap2⟩, hsh⟩ := owns_shape_cap ho
  have HO := Lib.hid ho
  clear ho hsh hl0
  go_enter Try.func24, Try.ntmps24
  go_wp2_with (first | (go_at_call 36; (with_reducible refine (specValidPrices_in l _ _ (Rd.of_owns HO.out)).mono ?_); rintro e w1 ⟨rfl, hb1⟩) | (at_builtin; have hown1 := World.ownsRow_made (base := w.heap.size) (e := 37) (size := 2) w1 #[] 0 hb1.size (by simp) (by simp); have hr1 := (ownsRow_below HO.out hb1 (Nat.le_refl _)).alloc (.cells #[] 37); refine app_copy rfl (.tmp 43) (.tmp 46) 23 rfl w.heap.size base0 37 i0 _ Try.underlying23 HI.out HZ0.out HZ1.out HZ2.out rfl _ rfl hown1 (l) _ rfl hr1 (by omega) (by have := hb1.size; simp; omega) ?_; intro v1 w3 ho3 hg3; have B3 := Lib.hid (below_copy hb1 hg3); have O3 := Lib.hid ho3; clear ho3 hg3) | (at_builtin; refine app_pair rfl (.tmp 47) (.tmp 51) 23 rfl w.heap.size 37 _ i0 _ Try.underlying23 HI.out HZ0.out HZ1.out HZ2.out rfl _ (l) d p rfl O3.out rfl (by omega) B3.out.size ?_; intro v4 w4 ho4 hg4; have B4 := Lib.hid (below_own (B3.out.alloc B3.out.size _) hg4 (fun k hk => (O3.out.lt k hk).1)); have O4 := Lib.hid ho4; clear ho4 hg4))
  go_wp2_with (go_at_call 36; refine (specValidPrices_in (l ++ [(d, p)]) _ _ (Rd.of_owns O4.out)).mono ?_; rintro e w5 ⟨rfl, hb5⟩)
  have B5 := B4.out.trans (hb5.mono B4.out.size)
  go_ret2
  exact setPost_yes (by rw [hin.out, hout.out, hv2]) hout.out B5 (ownsRow_below O4.out hb5 (Nat.le_refl _))

set_option maxHeartbeats 4000000 in
theorem specSet_eq_false (base0 : Nat) (l : List (Int × Int)) (v : Value) (d p : Int) (w : World) (ho : w.ownsRow base0 37 2 v l.length (pr l)) (hp : vPrices l = true) (h0 : 0 < l.length) (h1 : ¬ d < lastA l) (h2 : lastA l = d) (m : List (Int × Int)) (hm : l.take (l.length - 1) = m) (hv2 : vPrices (m ++ [(d, p)]) = false) :
    Calls Try.prog 24 #[v, .int .i64 d, .int .i64 p] w (SetPost l d p w) := by
  obtain ⟨i0, hi, hz0, hz1, hz2⟩ := info_parts Try.info37s
  have HI := Lib.hid hi
  have HZ0 := Lib.hid hz0
  have HZ1 := Lib.hid hz1
  have HZ2 := Lib.hid hz2
  have hl12 := (vPrices_all hp).2
  clear hi hz0 hz1 hz2
  obtain ⟨j, hlen⟩ : ∃ j, l.length = j + 1 := ⟨l.length - 1, by omega⟩
  have HLA : Hid (lastA l = pA l j) := by rw [Hid]; unfold lastA; rw [hlen]; rfl
  have hw : IntKind.i64.wrap (j : Int) = (j : Int) := IntWalk.i64_in _ (by omega)
  have HLEN := Lib.hid hlen
  obtain ⟨ao, cap, hv, hcap, hsh⟩ := owns_shape_cap ho
  obtain ⟨g, rfl, hgb⟩ := hsh (by omega)
  rw [hlen] at hv hcap
  subst hv
  have ho' := ho
  rw [hlen] at ho'
  obtain ⟨c0, c1, f0, f1⟩ := owns_at2 ho' j (by omega)
  rw [← HLA.out] at c0
  have hgw : g < w.heap.size := (ho'.lt g rfl).2
  have HO := Lib.hid ho
  have HO' := Lib.hid ho'
  obtain ⟨hcap1, hcap2⟩ := hcap
  clear ho ho' hsh
  have h2b : (lastA l == d) = true := by simp [h2]
  have hout := out1_eq (p := p) h0 h2
  rw [hm] at hout
  have hout := Lib.hid hout
  have hin := Lib.hid (setOk_in (d := d) (p := p) hp (.inr (by omega)))
  have hD := h2
  have HTK : Hid (m = l.take j) := by rw [Hid, ← hm, HLEN.out, Nat.add_sub_cancel]
  have HTL : Hid (m.length = j) := by rw [Hid, HTK.out, List.length_take, HLEN.out]; omega
  have hTL : m.length ≤ 12 := by rw [HTL.out]; omega
  clear h2 hD hm
  go_enter Try.func24, Try.ntmps24
  go_wp2_with (first | (go_at_call 36; (with_reducible refine (specValidPrices_in l _ _ (Rd.of_owns HO.out)).mono ?_); rintro e w1 ⟨rfl, hb1⟩; have c0' := (hb1.cell (p := ⟨g, j * 2, none⟩) hgw).trans c0; have hgw1 := Nat.lt_of_lt_of_le hgw hb1.size) | (at_builtin; have hown1 := World.ownsRow_made (base := w.heap.size) (e := 37) (size := 2) w1 #[] 0 hb1.size (by simp) (by simp); have hr1 := (ownsRow_below HO.out hb1 (Nat.le_refl _)).alloc (.cells #[] 37); have hr1 : (w1.alloc (.cells #[] 37)).ownsRow base0 37 2 (.slice (some ⟨g, 0, none⟩) j cap) m.length (pr m) := (by rw [HTL.out, HTK.out, pr_take]; exact owns_take ((ownsRow_below HO'.out hb1 (Nat.le_refl _)).alloc (.cells #[] 37)) (by omega)); refine app_copy rfl (.tmp 43) (.tmp 46) 23 rfl w.heap.size base0 37 i0 _ Try.underlying23 HI.out HZ0.out HZ1.out HZ2.out rfl _ rfl hown1 (m) _ rfl hr1 (by omega) (by have := hb1.size; simp; omega) ?_; intro v1 w3 ho3 hg3; have B3 := Lib.hid (below_copy hb1 hg3); have O3 := Lib.hid ho3; clear ho3 hg3) | (at_builtin; refine app_pair rfl (.tmp 47) (.tmp 51) 23 rfl w.heap.size 37 _ i0 _ Try.underlying23 HI.out HZ0.out HZ1.out HZ2.out rfl _ (m) d p rfl O3.out rfl (by omega) B3.out.size ?_; intro v4 w4 ho4 hg4; have B4 := Lib.hid (below_own (B3.out.alloc B3.out.size _) hg4 (fun k hk => (O3.out.lt k hk).1)); have O4 := Lib.hid ho4; clear ho4 hg4))
  go_wp2_with (go_at_call 36; refine (specValidPrices_in (m ++ [(d, p)]) _ _ (Rd.of_owns O4.out)).mono ?_; rintro e w5 ⟨rfl, hb5⟩)
  have B5 := B4.out.trans (hb5.mono B4.out.size)
  go_ret2
  exact setPost_nil (by rw [hin.out, hout.out, hv2]) B5

set_option maxHeartbeats 4000000 in
theorem specSet_ne_false (base0 : Nat) (l : List (Int × Int)) (v : Value) (d p : Int) (w : World) (ho : w.ownsRow base0 37 2 v l.length (pr l)) (hp : vPrices l = true) (h0 : 0 < l.length) (h1 : ¬ d < lastA l) (h2 : ¬ lastA l = d) (hv2 : vPrices (l ++ [(d, p)]) = false) :
    Calls Try.prog 24 #[v, .int .i64 d, .int .i64 p] w (SetPost l d p w) := by
  obtain ⟨i0, hi, hz0, hz1, hz2⟩ := info_parts Try.info37s
  have HI := Lib.hid hi
  have HZ0 := Lib.hid hz0
  have HZ1 := Lib.hid hz1
  have HZ2 := Lib.hid hz2
  have hl12 := (vPrices_all hp).2
  clear hi hz0 hz1 hz2
  obtain ⟨j, hlen⟩ : ∃ j, l.length = j + 1 := ⟨l.length - 1, by omega⟩
  have HLA : Hid (lastA l = pA l j) := by rw [Hid]; unfold lastA; rw [hlen]; rfl
  have hw : IntKind.i64.wrap (j : Int) = (j : Int) := IntWalk.i64_in _ (by omega)
  have HLEN := Lib.hid hlen
  obtain ⟨ao, cap, hv, hcap, hsh⟩ := owns_shape_cap ho
  obtain ⟨g, rfl, hgb⟩ := hsh (by omega)
  rw [hlen] at hv hcap
  subst hv
  have ho' := ho
  rw [hlen] at ho'
  obtain ⟨c0, c1, f0, f1⟩ := owns_at2 ho' j (by omega)
  rw [← HLA.out] at c0
  have hgw : g < w.heap.size := (ho'.lt g rfl).2
  have HO := Lib.hid ho
  have HO' := Lib.hid ho'
  obtain ⟨hcap1, hcap2⟩ := hcap
  clear ho ho' hsh
  have h2b : (lastA l == d) = false := by simp [h2]
  have hout := Lib.hid (out1_ne (l := l) (d := d) (p := p) (fun h => h2 h.2))
  have hin := Lib.hid (setOk_in (d := d) (p := p) hp (.inr (by omega)))
  clear h2
  go_enter Try.func24, Try.ntmps24
  go_wp2_with (first | (go_at_call 36; (with_reducible refine (specValidPrices_in l _ _ (Rd.of_owns HO.out)).mono ?_); rintro e w1 ⟨rfl, hb1⟩; have c0' := (hb1.cell (p := ⟨g, j * 2, none⟩) hgw).trans c0; have hgw1 := Nat.lt_of_lt_of_le hgw hb1.size) | (at_builtin; have hown1 := World.ownsRow_made (base := w.heap.size) (e := 37) (size := 2) w1 #[] 0 hb1.size (by simp) (by simp); have hr1 := (ownsRow_below HO.out hb1 (Nat.le_refl _)).alloc (.cells #[] 37); refine app_copy rfl (.tmp 43) (.tmp 46) 23 rfl w.heap.size base0 37 i0 _ Try.underlying23 HI.out HZ0.out HZ1.out HZ2.out rfl _ rfl hown1 (l) _ rfl hr1 (by omega) (by have := hb1.size; simp; omega) ?_; intro v1 w3 ho3 hg3; have B3 := Lib.hid (below_copy hb1 hg3); have O3 := Lib.hid ho3; clear ho3 hg3) | (at_builtin; refine app_pair rfl (.tmp 47) (.tmp 51) 23 rfl w.heap.size 37 _ i0 _ Try.underlying23 HI.out HZ0.out HZ1.out HZ2.out rfl _ (l) d p rfl O3.out rfl (by omega) B3.out.size ?_; intro v4 w4 ho4 hg4; have B4 := Lib.hid (below_own (B3.out.alloc B3.out.size _) hg4 (fun k hk => (O3.out.lt k hk).1)); have O4 := Lib.hid ho4; clear ho4 hg4))
  go_wp2_with (go_at_call 36; refine (specValidPrices_in (l ++ [(d, p)]) _ _ (Rd.of_owns O4.out)).mono ?_; rintro e w5 ⟨rfl, hb5⟩)
  have B5 := B4.out.trans (hb5.mono B4.out.size)
  go_ret2
  exact setPost_nil (by rw [hin.out, hout.out, hv2]) B5

set_option maxHeartbeats 4000000 in
theorem specSet_nil_false (base0 : Nat) (l : List (Int × Int)) (v : Value) (d p : Int) (w : World) (ho : w.ownsRow base0 37 2 v l.length (pr l)) (hp : vPrices l = true) (h0 : ¬ 0 < l.length) (hv2 : vPrices (l ++ [(d, p)]) = false) :
    Calls Try.prog 24 #[v, .int .i64 d, .int .i64 p] w (SetPost l d p w) := by
  obtain ⟨i0, hi, hz0, hz1, hz2⟩ := info_parts Try.info37s
  have HI := Lib.hid hi
  have HZ0 := Lib.hid hz0
  have HZ1 := Lib.hid hz1
  have HZ2 := Lib.hid hz2
  have hl12 := (vPrices_all hp).2
  clear hi hz0 hz1 hz2
  have hl0 : l.length = 0 := by omega
  have hout := Lib.hid (out1_ne (l := l) (d := d) (p := p) (fun h => h0 h.1))
  have hin := Lib.hid (setOk_in (d := d) (p := p) hp (.inl hl0))
  obtain ⟨ao, cap, rfl, ⟨hcap1, hcap2⟩, hsh⟩ := owns_shape_cap ho
  have HO := Lib.hid ho
  clear ho hsh hl0
  go_enter Try.func24, Try.ntmps24
  go_wp2_with (first | (go_at_call 36; (with_reducible refine (specValidPrices_in l _ _ (Rd.of_owns HO.out)).mono ?_); rintro e w1 ⟨rfl, hb1⟩) | (at_builtin; have hown1 := World.ownsRow_made (base := w.heap.size) (e := 37) (size := 2) w1 #[] 0 hb1.size (by simp) (by simp); have hr1 := (ownsRow_below HO.out hb1 (Nat.le_refl _)).alloc (.cells #[] 37); refine app_copy rfl (.tmp 43) (.tmp 46) 23 rfl w.heap.size base0 37 i0 _ Try.underlying23 HI.out HZ0.out HZ1.out HZ2.out rfl _ rfl hown1 (l) _ rfl hr1 (by omega) (by have := hb1.size; simp; omega) ?_; intro v1 w3 ho3 hg3; have B3 := Lib.hid (below_copy hb1 hg3); have O3 := Lib.hid ho3; clear ho3 hg3) | (at_builtin; refine app_pair rfl (.tmp 47) (.tmp 51) 23 rfl w.heap.size 37 _ i0 _ Try.underlying23 HI.out HZ0.out HZ1.out HZ2.out rfl _ (l) d p rfl O3.out rfl (by omega) B3.out.size ?_; intro v4 w4 ho4 hg4; have B4 := Lib.hid (below_own (B3.out.alloc B3.out.size _) hg4 (fun k hk => (O3.out.lt k hk).1)); have O4 := Lib.hid ho4; clear ho4 hg4))
  go_wp2_with (go_at_call 36; refine (specValidPrices_in (l ++ [(d, p)]) _ _ (Rd.of_owns O4.out)).mono ?_; rintro e w5 ⟨rfl, hb5⟩)
  have B5 := B4.out.trans (hb5.mono B4.out.size)
  go_ret2
  exact setPost_nil (by rw [hin.out, hout.out, hv2]) B5

theorem specSet_any (base0 : Nat) (l : List (Int × Int)) (v : Value) (d p : Int) (w : World) (ho : w.ownsRow base0 37 2 v l.length (pr l)) :
    Calls Try.prog 24 #[v, .int .i64 d, .int .i64 p] w (SetPost l d p w) := by
  cases hp : vPrices l
  · exact specSet_v base0 l v d p w ho hp
  by_cases h0 : 0 < l.length
  · by_cases h1 : d < lastA l
    · exact specSet_gt base0 l v d p w ho hp h0 h1
    by_cases h2 : lastA l = d
    · cases hv2 : vPrices (l.take (l.length - 1) ++ [(d, p)])
      · exact specSet_eq_false base0 l v d p w ho hp h0 h1 h2 _ rfl hv2
      · exact specSet_eq_true base0 l v d p w ho hp h0 h1 h2 _ rfl hv2
    · cases hv2 : vPrices (l ++ [(d, p)])
      · exact specSet_ne_false base0 l v d p w ho hp h0 h1 h2 hv2
      · exact specSet_ne_true base0 l v d p w ho hp h0 h1 h2 hv2
  · cases hv2 : vPrices (l ++ [(d, p)])
    · exact specSet_nil_false base0 l v d p w ho hp h0 hv2
    · exact specSet_nil_true base0 l v d p w ho hp h0 hv2

end Go.Proofs.Ytphjdgncfamloaa
