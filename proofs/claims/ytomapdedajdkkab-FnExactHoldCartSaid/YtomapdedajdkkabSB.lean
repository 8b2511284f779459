/- Walks: moving pieces of a stock. Conditions: none. -/
import Derived.Test.YtomapdedajdkkabSA
import Derived.Test.YtomapdedajdkkabCopy
import Derived.Test.YtomapdedajdkkabRow
import Derived.StillTailTactics
import Derived.RegionTactic
import Derived.ChangeAlike
namespace Go.Proofs.Ytomapdedajdkkab
open Go.RowKit

theorem Try.info99m : (Try.prog.info? 99).map (fun i => (i.zero, i.size, i.bytes)) = some (some (.agg #[.int .i64 0, .int .i64 0]), 2, 16) := by kernel_rfl

/-- What moving pieces hands back. -/
def MovedPost (l c : List (Int × Int)) (f h : Int) (w : World) (e : Ending) (w' : World) : Prop :=
  ∃ v : Value, e = .returned (.tuple #[v, .bool (movedOk l c f h)]) ∧ w'.ownsRow w.heap.size 99 2 v (movedR l c f h).length (pr (movedR l c f h)) ∧ Below w.heap.size w w'
theorem movedPost_no {l c : List (Int × Int)} {f h : Int} {w w1 : World} (e : movedOk l c f h = false) (hb : Below w.heap.size w w1) :
    MovedPost l c f h w (.returned (.tuple #[.slice (some ⟨w1.heap.size, 0, none⟩) 0 0, .bool false])) (w1.alloc (.cells #[] 99)) := by
  refine ⟨_, by rw [e], ?_, hb.alloc hb.size _⟩
  rw [movedR_no e]
  exact World.ownsRow_made w1 #[] 0 hb.size (by simp) (by simp)
theorem movedPost_nil {l c : List (Int × Int)} {f h : Int} {w w1 : World} (e : movedOk l c f h = false) (hb : Below w.heap.size w w1) :
    MovedPost l c f h w (.returned (.tuple #[.slice none 0 0, .bool false])) w1 := by
  refine ⟨_, by rw [e], ?_, hb⟩
  rw [movedR_no e]
  exact ⟨rfl, .inl ⟨rfl, rfl⟩⟩
theorem movedPost_yes {l c : List (Int × Int)} {f h : Int} {w w1 : World} {v : Value} (e : movedOk l c f h = true) (hb : Below w.heap.size w w1) (ho : w1.ownsRow w.heap.size 99 2 v (mvN l c f h c.length).length (pr (mvN l c f h c.length))) :
    MovedPost l c f h w (.returned (.tuple #[v, .bool true])) w1 := by
  refine ⟨v, by rw [e], ?_, hb⟩
  rw [movedR_yes e]; exact ho

set_option maxHeartbeats 4000000 in
set_option maxRecDepth 100000 in
theorem implMoved_s (base0 : Nat) (l : List (Int × Int)) (u : Value) (c : List (Int × Int)) (v : Value) (f h : Int) (w : World) (hu : w.ownsRow base0 99 2 u l.length (pr l)) (hv : Rd w 2 v c.length (pr c)) (hp : vStock l = false) :
    Calls Try.prog 74 #[u, v, .int .i64 f, .int .i64 h] w (MovedPost l c f h w) := by
  obtain ⟨uo, ucap, rfl, ⟨hu1, hu2⟩, _⟩ := owns_shape_cap hu
  obtain ⟨vo, vcap, rfl, hv1, hv2, hrc⟩ := hv.pairs
  have HU := Lib.hid hu
  have HV := Lib.hid hv
  have HRC := Lib.hid hrc
  unfold maxLen at hv2
  clear hu hv hrc
  have fin := Lib.hid (moved_s (c := c) (f := f) (h := h) hp)
  go_enter Try.func74, Try.ntmps74
  go_wp2_with (go_at_call 88; (with_reducible refine (implStock_any l _ _ (Rd.of_owns HU.out)).mono ?_); rintro e w1 ⟨rfl, hb1⟩)
  go_ret2
  exact movedPost_no fin.out hb1

set_option maxHeartbeats 4000000 in
set_option maxRecDepth 100000 in
theorem implMoved_c (base0 : Nat) (l : List (Int × Int)) (u : Value) (c : List (Int × Int)) (v : Value) (f h : Int) (w : World) (hu : w.ownsRow base0 99 2 u l.length (pr l)) (hv : Rd w 2 v c.length (pr c)) (hp : vStock l = true) (hq : vLines l.length c = false) :
    Calls Try.prog 74 #[u, v, .int .i64 f, .int .i64 h] w (MovedPost l c f h w) := by
  obtain ⟨uo, ucap, rfl, ⟨hu1, hu2⟩, _⟩ := owns_shape_cap hu
  obtain ⟨vo, vcap, rfl, hv1, hv2, hrc⟩ := hv.pairs
  have HU := Lib.hid hu
  have HV := Lib.hid hv
  have HRC := Lib.hid hrc
  unfold maxLen at hv2
  clear hu hv hrc
  have fin := Lib.hid (moved_c (f := f) (h := h) hq)
  go_enter Try.func74, Try.ntmps74
  go_wp2_with (first | (go_at_call 88; (with_reducible refine (implStock_any l _ _ (Rd.of_owns HU.out)).mono ?_); rintro e w1 ⟨rfl, hb1⟩) | (go_at_call 85; refine (linesOk_any _ c _ _ (HV.out.below hb1 (Nat.le_refl _)) (by omega) (by omega)).mono ?_; rintro e w2 ⟨rfl, hb2⟩))
  go_ret2
  exact movedPost_no fin.out (hb1.trans (hb2.mono hb1.size))

set_option maxHeartbeats 4000000 in
set_option maxRecDepth 100000 in
theorem implMoved_y (base0 : Nat) (l : List (Int × Int)) (u : Value) (c : List (Int × Int)) (v : Value) (f h : Int) (w : World) (hu : w.ownsRow base0 99 2 u l.length (pr l)) (hv : Rd w 2 v c.length (pr c)) (hf : -1 ≤ f ∧ f ≤ 1) (hh : -1 ≤ h ∧ h ≤ 1) (hp : vStock l = true) (hq : vLines l.length c = true) :
    Calls Try.prog 74 #[u, v, .int .i64 f, .int .i64 h] w (MovedPost l c f h w) := by
  obtain ⟨uo, ucap, rfl, ⟨hu1, hu2⟩, _⟩ := owns_shape_cap hu
  obtain ⟨vo, vcap, rfl, hv1, hv2, hrc⟩ := hv.pairs
  have HU := Lib.hid hu
  have HV := Lib.hid hv
  have HRC := Lib.hid hrc
  unfold maxLen at hv2
  clear hu hv hrc
  obtain ⟨i0, hi, hz0, hz1, hz2⟩ := info_parts Try.info99m
  have HI := Lib.hid hi
  have HZ0 := Lib.hid hz0
  have HZ1 := Lib.hid hz1
  have HZ2 := Lib.hid hz2
  clear hi hz0 hz1 hz2
  have hin := Lib.hid (moved_in (f := f) (h := h) hp hq)
  have HP := Lib.hid hp
  have HQ := Lib.hid hq
  have hl10 := (vStock_all hp).2
  go_enter Try.func74, Try.ntmps74
  go_wp2_with (first | (go_at_call 88; (with_reducible refine (implStock_any l _ _ (Rd.of_owns HU.out)).mono ?_); rintro e w1 ⟨rfl, hb1⟩) | (go_at_call 85; refine (linesOk_any _ c _ _ (HV.out.below hb1 (Nat.le_refl _)) (by omega) (by omega)).mono ?_; rintro e w2 ⟨rfl, hb2⟩; have B2 := hb1.trans (hb2.mono hb1.size)) | (at_builtin; have hown1 := World.ownsRow_made (base := w.heap.size) (e := 99) (size := 2) w2 #[] 0 B2.size (by simp) (by simp); have hr1 := (ownsRow_below HU.out B2 (Nat.le_refl _)).alloc (.cells #[] 99); refine app_copy rfl (.tmp 24) (.tmp 25) 65 rfl w.heap.size base0 99 i0 _ Try.underlying65 HI.out HZ0.out HZ1.out HZ2.out rfl _ rfl hown1 l _ rfl hr1 (by omega) (by have := B2.size; simp <;> omega) ?_; intro v3 w3 ho3 hg3; have B3 := below_row (B2.alloc B2.size _) hg3 (fun k hk => by obtain rfl : w2.heap.size = k := Option.some.inj hk; exact B2.size); have O3 := Lib.hid ho3; clear ho3 hg3 hown1 hr1))
  obtain ⟨go, gcap, rfl, ⟨hgc1, hgc2⟩, hg⟩ := owns_shape_cap O3.out
  obtain ⟨g, rfl, hgb⟩ := hg (by omega)
  clear hp hq hb1 hb2 B2 hg
  go_loopw [29] (fun i_ wr => ∃ (k : Nat), k ≤ c.length ∧ i_ = .int .i64 k ∧ Hid (wr.ownsRow w.heap.size 99 2 (.slice (some ⟨g, 0, none⟩) l.length gcap) l.length (pr (mvN l c f h k))) ∧ Below w.heap.size w wr) (fun i_ _ => c.length - (intOf i_).toNat)
  case atStart => exact ⟨0, Nat.zero_le _, rfl, O3, B3⟩
  case round =>
    clear O3 B3
    obtain ⟨k, hk, rfl, O, hbl⟩ := hrel
    have hl10 := (vStock_all HP.out).2
    have hc8 := (vLines_all HQ.out).2
    have hln := mvN_len l c f h k
    by_cases hlt : k < c.length
    · have hln1 := lnOk_pr ((vLines_all HQ.out).1 k hlt)
      obtain ⟨h5, h6, h7, h8, _⟩ := hln1
      obtain ⟨b, off, rfl, hb, hcell⟩ := HRC.out (by omega)
      obtain ⟨a, ha⟩ := Int.eq_ofNat_of_zero_le h5
      have hal : a < l.length := by omega
      have g0 := (hbl.cell (p := ⟨b, off + k*2, none⟩) hb).trans (hcell k hlt).1
      have g1 := (hbl.cell (p := ⟨b, off + k*2+1, none⟩) hb).trans (hcell k hlt).2
      have hbw : b < wr.heap.size := Nat.lt_of_lt_of_le hb hbl.size
      have hbd := mvN_bd HP.out HQ.out hf hh k hk a hal
      have hm1 := fmul_bd hf.1 hf.2 h7 h8
      have hm2 := fmul_bd hh.1 hh.2 h7 h8
      have hnx : mvN l c f h (k + 1) = (mvN l c f h k).set a (pA (mvN l c f h k) a + f * pB c k, pB (mvN l c f h k) a + h * pB c k) := by
        show (mvN l c f h k).set (pA c k).toNat _ = _
        rw [ha, Int.toNat_natCast]
      obtain ⟨c0, c1, f0, f1⟩ := owns_at2 O.out a (by omega)
      have hge := (O.out.lt g rfl).1
      have hgw := (O.out.lt g rfl).2
      have hbg : ¬ b = g := by omega
      rw [ha] at g0
      have HNX := Lib.hid hnx
      have O' := Lib.hid O.out
      clear ha hcell hnx h5 h6
      generalize pA (mvN l c f h k) a = x at *
      generalize pB (mvN l c f h k) a = y at *
      generalize pB c k = z at *
      obtain ⟨hb1', hb2', hb3', hb4'⟩ := hbd
      obtain ⟨hm11, hm12⟩ := hm1
      obtain ⟨hm21, hm22⟩ := hm2
      have e1 : IntKind.i64.wrap (f * z) = f * z := IntWalk.i64_in _ (by omega)
      have e2 : IntKind.i64.wrap (x + f * z) = x + f * z := IntWalk.i64_in _ (by omega)
      have e3 : IntKind.i64.wrap (h * z) = h * z := IntWalk.i64_in _ (by omega)
      have e4 : IntKind.i64.wrap (y + h * z) = y + h * z := IntWalk.i64_in _ (by omega)
      have ha0 : (0 : Int) ≤ (a : Int) := by omega
      have ha1 : (a : Int) < (l.length : Int) := by omega
      have hk0 : (0 : Int) ≤ (k : Int) := by omega
      have hk1 : (k : Int) < (c.length : Int) := by omega
      have hgr : ¬ g = wr.heap.size := by omega
      go_wp2
      go_region
      go_wp2
      go_region
      go_wp2
      have o3 := (owns_set2 O'.out a (x + f * z) (y + h * z)).alloc (.cells #[.int .i64 a, .int .i64 z] 46)
      have b3 := ((hbl.setCell hge (.int .i64 (x + f * z)) (p := ⟨g, a * 2, none⟩)).setCell hge (.int .i64 (y + h * z)) (p := ⟨g, a * 2 + 1, none⟩)).alloc (by simp only [World.size_setCell]; exact hbl.size) (.cells #[.int .i64 a, .int .i64 z] 46)
      go_roundw
      case rel => exact ⟨k + 1, by omega, by go_num, by rw [HNX.out]; exact o3, b3.drew.drew⟩
      case measure => simp [intOf]; omega
    · obtain rfl : k = c.length := by omega
      have O2 : Hid (wr.ownsRow w.heap.size 99 2 (.slice (some ⟨g, 0, none⟩) l.length gcap) (mvN l c f h c.length).length (pr (mvN l c f h c.length))) := by rw [Hid, mvN_len]; exact O.out
      clear O
      cases hv2 : vStock (mvN l c f h c.length)
      · go_wp2_with (go_at_call 88; refine (implStock_any (mvN l c f h c.length) _ _ (Rd.of_owns O2.out)).mono ?_; rintro e w9 ⟨rfl, hb9⟩)
        go_ret2
        exact movedPost_no (by rw [hin.out, hv2]) (hbl.trans (hb9.mono hbl.size))
      · go_wp2_with (go_at_call 88; refine (implStock_any (mvN l c f h c.length) _ _ (Rd.of_owns O2.out)).mono ?_; rintro e w9 ⟨rfl, hb9⟩)
        go_ret2
        exact movedPost_yes (by rw [hin.out, hv2]) (hbl.trans (hb9.mono hbl.size)) (ownsRow_below O2.out hb9 (Nat.le_refl _))

theorem implMoved_any (base0 : Nat) (l : List (Int × Int)) (u : Value) (c : List (Int × Int)) (v : Value) (f h : Int) (w : World) (hu : w.ownsRow base0 99 2 u l.length (pr l)) (hv : Rd w 2 v c.length (pr c)) (hf : -1 ≤ f ∧ f ≤ 1) (hh : -1 ≤ h ∧ h ≤ 1) :
    Calls Try.prog 74 #[u, v, .int .i64 f, .int .i64 h] w (MovedPost l c f h w) := by
  cases hp : vStock l
  · exact implMoved_s base0 l u c v f h w hu hv hp
  cases hq : vLines l.length c
  · exact implMoved_c base0 l u c v f h w hu hv hp hq
  · exact implMoved_y base0 l u c v f h w hu hv hf hh hp hq

set_option maxHeartbeats 4000000 in
set_option maxRecDepth 100000 in
theorem specMoved_y (base0 : Nat) (l : List (Int × Int)) (u : Value) (c : List (Int × Int)) (v : Value) (f h : Int) (w : World) (hu : w.ownsRow base0 99 2 u l.length (pr l)) (hv : Rd w 2 v c.length (pr c)) (hf : -1 ≤ f ∧ f ≤ 1) (hh : -1 ≤ h ∧ h ≤ 1) (hp : vStock l = true) (hq : vLines l.length c = true) :
    Calls Try.prog 72 #[u, v, .int .i64 f, .int .i64 h] w (MovedPost l c f h w) := by
  obtain ⟨uo, ucap, rfl, ⟨hu1, hu2⟩, _⟩ := owns_shape_cap hu
  obtain ⟨vo, vcap, rfl, hv1, hv2, hrc⟩ := hv.pairs
  have HU := Lib.hid hu
  have HV := Lib.hid hv
  have HRC := Lib.hid hrc
  unfold maxLen at hv2
  clear hu hv hrc
  obtain ⟨i0, hi, hz0, hz1, hz2⟩ := info_parts Try.info99m
  have HI := Lib.hid hi
  have HZ0 := Lib.hid hz0
  have HZ1 := Lib.hid hz1
  have HZ2 := Lib.hid hz2
  clear hi hz0 hz1 hz2
  have hin := Lib.hid (moved_in (f := f) (h := h) hp hq)
  have HP := Lib.hid hp
  have HQ := Lib.hid hq
  have hl10 := (vStock_all hp).2
  go_enter Try.func72, Try.ntmps72
  have hB0 := Below.refl w.heap.size w
  go_wp2_with (at_builtin; have hown1 := World.ownsRow_made (base := w.heap.size) (e := 99) (size := 2) w #[] 0 hB0.size (by simp) (by simp); have hr1 := (ownsRow_below HU.out hB0 (Nat.le_refl _)).alloc (.cells #[] 99); refine app_copy rfl (.tmp 13) (.tmp 14) 65 rfl w.heap.size base0 99 i0 _ Try.underlying65 HI.out HZ0.out HZ1.out HZ2.out rfl _ rfl hown1 l _ rfl hr1 (by omega) (by have := hB0.size; simp <;> omega) ?_; intro v3 w3 ho3 hg3; have B3 := below_row (hB0.alloc hB0.size _) hg3 (fun k hk => by obtain rfl : w.heap.size = k := Option.some.inj hk; exact hB0.size); have O3 := Lib.hid ho3; clear ho3 hg3 hown1 hr1)
  obtain ⟨go, gcap, rfl, ⟨hgc1, hgc2⟩, hg⟩ := owns_shape_cap O3.out
  obtain ⟨g, rfl, hgb⟩ := hg (by omega)
  clear hp hq hB0 hg
  go_loopw [11] (fun i_ wr => ∃ (k : Nat), k ≤ c.length ∧ i_ = .int .i64 k ∧ Hid (wr.ownsRow w.heap.size 99 2 (.slice (some ⟨g, 0, none⟩) l.length gcap) l.length (pr (mvN l c f h k))) ∧ Below w.heap.size w wr) (fun i_ _ => c.length - (intOf i_).toNat)
  case atStart => exact ⟨0, Nat.zero_le _, rfl, O3, B3⟩
  case round =>
    clear O3 B3
    obtain ⟨k, hk, rfl, O, hbl⟩ := hrel
    have hl10 := (vStock_all HP.out).2
    have hc8 := (vLines_all HQ.out).2
    have hln := mvN_len l c f h k
    by_cases hlt : k < c.length
    · have hln1 := lnOk_pr ((vLines_all HQ.out).1 k hlt)
      obtain ⟨h5, h6, h7, h8, _⟩ := hln1
      obtain ⟨b, off, rfl, hb, hcell⟩ := HRC.out (by omega)
      obtain ⟨a, ha⟩ := Int.eq_ofNat_of_zero_le h5
      have hal : a < l.length := by omega
      have g0 := (hbl.cell (p := ⟨b, off + k*2, none⟩) hb).trans (hcell k hlt).1
      have g1 := (hbl.cell (p := ⟨b, off + k*2+1, none⟩) hb).trans (hcell k hlt).2
      have hbw : b < wr.heap.size := Nat.lt_of_lt_of_le hb hbl.size
      have hbd := mvN_bd HP.out HQ.out hf hh k hk a hal
      have hm1 := fmul_bd hf.1 hf.2 h7 h8
      have hm2 := fmul_bd hh.1 hh.2 h7 h8
      have hnx : mvN l c f h (k + 1) = (mvN l c f h k).set a (pA (mvN l c f h k) a + f * pB c k, pB (mvN l c f h k) a + h * pB c k) := by
        show (mvN l c f h k).set (pA c k).toNat _ = _
        rw [ha, Int.toNat_natCast]
      obtain ⟨c0, c1, f0, f1⟩ := owns_at2 O.out a (by omega)
      have hge := (O.out.lt g rfl).1
      have hgw := (O.out.lt g rfl).2
      have hbg : ¬ b = g := by omega
      rw [ha] at g0
      have HNX := Lib.hid hnx
      have O' := Lib.hid O.out
      clear ha hcell hnx h5 h6
      generalize pA (mvN l c f h k) a = x at *
      generalize pB (mvN l c f h k) a = y at *
      generalize pB c k = z at *
      obtain ⟨hb1', hb2', hb3', hb4'⟩ := hbd
      obtain ⟨hm11, hm12⟩ := hm1
      obtain ⟨hm21, hm22⟩ := hm2
      have e1 : IntKind.i64.wrap (f * z) = f * z := IntWalk.i64_in _ (by omega)
      have e2 : IntKind.i64.wrap (x + f * z) = x + f * z := IntWalk.i64_in _ (by omega)
      have e3 : IntKind.i64.wrap (h * z) = h * z := IntWalk.i64_in _ (by omega)
      have e4 : IntKind.i64.wrap (y + h * z) = y + h * z := IntWalk.i64_in _ (by omega)
      have ha0 : (0 : Int) ≤ (a : Int) := by omega
      have ha1 : (a : Int) < (l.length : Int) := by omega
      have hk0 : (0 : Int) ≤ (k : Int) := by omega
      have hk1 : (k : Int) < (c.length : Int) := by omega
      go_wp2
      go_region
      go_wp2
      have o3 := (owns_set2 O'.out a (x + f * z) (y + h * z))
      have b3 := ((hbl.setCell hge (.int .i64 (x + f * z)) (p := ⟨g, a * 2, none⟩)).setCell hge (.int .i64 (y + h * z)) (p := ⟨g, a * 2 + 1, none⟩))
      go_roundw
      case rel => exact ⟨k + 1, by omega, by go_num, by rw [HNX.out]; exact o3, b3.drew⟩
      case measure => simp [intOf]; omega
    · obtain rfl : k = c.length := by omega
      have O2 : Hid (wr.ownsRow w.heap.size 99 2 (.slice (some ⟨g, 0, none⟩) l.length gcap) (mvN l c f h c.length).length (pr (mvN l c f h c.length))) := by rw [Hid, mvN_len]; exact O.out
      clear O
      cases hv2 : vStock (mvN l c f h c.length)
      · go_wp2_with (go_at_call 70; refine (specStock_in (mvN l c f h c.length) _ _ (Rd.of_owns O2.out)).mono ?_; rintro e w9 ⟨rfl, hb9⟩)
        go_ret2
        exact movedPost_nil (by rw [hin.out, hv2]) (hbl.trans (hb9.mono hbl.size))
      · go_wp2_with (go_at_call 70; refine (specStock_in (mvN l c f h c.length) _ _ (Rd.of_owns O2.out)).mono ?_; rintro e w9 ⟨rfl, hb9⟩)
        go_ret2
        exact movedPost_yes (by rw [hin.out, hv2]) (hbl.trans (hb9.mono hbl.size)) (ownsRow_below O2.out hb9 (Nat.le_refl _))

end Go.Proofs.Ytomapdedajdkkab
