/- Walks: the text of a rule in the program. Conditions: none. -/
import Derived.Test.YtdofpealmngmiaaGreatDoorRG
namespace Go.Proofs.YtdofpealmngmiaaGreatDoor
open Go.RowKit

theorem infoStr : (Tryz.prog.info? 9).map (fun i => (i.zero, i.size, i.bytes)) = some (some (.string ⟨#[]⟩), 1, 16) := by kernel_rfl

def w0 (r : Rl) : List (List UInt8) := dec r.num :: headW r
def w1 (r : Rl) : List (List UInt8) := w0 r ++ grpW r
def w2 (r : Rl) : List (List UInt8) := w1 r ++ capW r
def w3 (r : Rl) : List (List UInt8) := w2 r ++ totW r
def w4 (r : Rl) (k : Nat) : List (List UInt8) := w3 r ++ cntW r.counts k
def w5 (r : Rl) : List (List UInt8) := w4 r r.counts.length ++ cpnW r
theorem w5_all (r : Rl) : w5 r = dec r.num :: restW r := by simp [w5, w4, w3, w2, w1, w0, restW]
theorem w0_len (r : Rl) : (w0 r).length = 7 := rfl
theorem w1_len (r : Rl) : (w1 r).length ≤ 9 := by unfold w1 grpW; split <;> simp [w0, headW]
theorem w2_len (r : Rl) : (w2 r).length ≤ 11 := by have := w1_len r; unfold w2 capW; split <;> (simp; omega)
theorem w3_len (r : Rl) : (w3 r).length ≤ 13 := by have := w2_len r; unfold w3 totW; split <;> (simp; omega)
theorem cntW_len (c : List (Int × Int)) : ∀ k, (cntW c k).length ≤ 3 * k
  | 0 => by simp [cntW]
  | k + 1 => by
    have := cntW_len c k
    rw [cntW, List.length_append]
    split <;> (simp; omega)
theorem w4_len (r : Rl) (k : Nat) : (w4 r k).length ≤ 13 + 3 * k := by have := w3_len r; have := cntW_len r.counts k; unfold w4; rw [List.length_append]; omega
theorem w5_len (r : Rl) : (w5 r).length ≤ 16 + 3 * r.counts.length := by have := w4_len r r.counts.length; unfold w5 cpnW; split <;> (simp; omega)
theorem w1_no {r : Rl} (h : r.group = -1) : w1 r = w0 r := by simp [w1, grpW, h]
theorem w2_no {r : Rl} (h : r.cap = 0) : w2 r = w1 r := by simp [w2, capW, h]
theorem w3_no {r : Rl} (h : allSp r.lo r.hi = true) : w3 r = w2 r := by simp [w3, totW, h]
theorem w4_no {r : Rl} {k : Nat} (h : allSp (pA r.counts k) (pB r.counts k) = true) : w4 r (k + 1) = w4 r k := by simp [w4, cntW, h]
theorem w5_no {r : Rl} (h : r.coupon = 0) : w5 r = w4 r r.counts.length := by simp [w5, cpnW, h]
theorem w1_yes {r : Rl} (h : ¬ r.group = -1) : w0 r ++ [wGroup, dec r.group] = w1 r := by simp [w1, grpW, h]
theorem w2_yes {r : Rl} (h : ¬ r.cap = 0) : w1 r ++ [wCap, dec r.cap] = w2 r := by simp [w2, capW, h]
theorem w3_yes {r : Rl} (h : allSp r.lo r.hi = false) : w2 r ++ [wTotal, spW r.lo r.hi] = w3 r := by simp [w3, totW, h]
theorem w4_yes {r : Rl} {k : Nat} (h : allSp (pA r.counts k) (pB r.counts k) = false) : w4 r k ++ [wCount, dec k, spW (pA r.counts k) (pB r.counts k)] = w4 r (k + 1) := by simp [w4, cntW, h]
theorem w5_yes {r : Rl} (h : ¬ r.coupon = 0) : w4 r r.counts.length ++ [wCoupon, dec r.coupon] = w5 r := by simp [w5, cpnW, h]

theorem sw_cell {w : World} {base : Nat} {g cap n : Nat} {ws : List (List UInt8)} (h : w.ownsRow base 9 1 (.slice (some ⟨g, 0, none⟩) n cap) n (sw ws)) (j : Nat) (x : List UInt8) (hj : ws[j]? = some x) : w.cell? ⟨g, j, none⟩ = some (.string ⟨x.toArray⟩) := by
  have hl : j < n := by
    have h1 := h.1
    rw [sw_len, Nat.mul_one] at h1
    rw [← h1]
    exact (List.getElem?_eq_some_iff.1 hj).1
  have h2 := h.cellAt j (by omega)
  rw [h2]
  simp [sw, hj]

/-- the words joined -/
theorem join_any (r : Rl) (v v4 : Value) (w W : World) (hS : St w r v v4 (w5 r) W) (ok : OkR r) :
    Calls Tryz.prog 31 #[v4, .string ⟨#[32]⟩] W fun e w' => e = .returned (.string ⟨(textR r).toArray⟩) ∧ Below W.heap.size W w' := by
  have hn : (w5 r).length ≤ 25 := by have := w5_len r; have := ok.cn; omega
  have hpos : 0 < (w5 r).length := by rw [w5_all]; simp
  have hlen : (textR r).length ≤ 1000 := by
    have h1 := s4_len ok r.counts.length (Nat.le_refl _)
    have h2 := ok.cn
    rw [textR_s4, List.length_append]
    unfold cpnW
    split
    · simp [tl]; omega
    · have h1 := dec_short (n := r.coupon) ok.coupon.1 (by have := ok.coupon; omega)
      simp [tl, wCoupon]; omega
  have ho := hS.own
  have hj : Lib.join (((w5 r).map fun x => (⟨x.toArray⟩ : ByteArray)).map (·.data.toList)) (⟨#[32]⟩ : ByteArray).data.toList = textR r := by
    rw [List.map_map]
    have : ((fun x : ByteArray => x.data.toList) ∘ fun x : List UInt8 => (⟨x.toArray⟩ : ByteArray)) = id := rfl
    rw [this, List.map_id, w5_all]
    exact join_tl _ _
  rcases ho.2 with ⟨_, h0⟩ | ⟨g, cap, cur, rfl, hb, hg, hnc, _⟩
  · omega
  · have hl : ((w5 r).map fun x => (⟨x.toArray⟩ : ByteArray)).length = (w5 r).length := List.length_map _
    have h := Tryz.strings_Join g 0 cap ((w5 r).map fun x => (⟨x.toArray⟩ : ByteArray)) ⟨#[32]⟩ W (fun j x hx => by
      rw [List.getElem?_map] at hx
      obtain ⟨y, hy, rfl⟩ := Option.map_eq_some_iff.1 hx
      rw [Nat.zero_add]
      exact sw_cell ho j y hy) (ho.lt g rfl).2 (by rw [hl]; omega) (by rw [hl]; exact hnc) (by rw [hj]; omega)
    rw [hl, hj] at h
    exact h


theorem St.shape {w W : World} {r : Rl} {v v4 : Value} {ws : List (List UInt8)} (h : St w r v v4 ws W) (hn : 0 < ws.length) : ∃ g c, v4 = .slice (some ⟨g, 0, none⟩) ws.length c := by
  rcases h.own.2 with ⟨_, h0⟩ | ⟨g, cap, cur, rfl, _⟩
  · omega
  · exact ⟨g, cap, rfl⟩

set_option maxRecDepth 100000 in
set_option maxHeartbeats 4000000 in
theorem implFormat_any (r : Rl) (v : Value) (w : World) (hE : Env w) (hv : Rd w 2 v r.counts.length (pr r.counts)) :
    Calls Tryz.prog 8 #[ruV r v] w fun e w' => e = .returned (.string ⟨(fmtR r).toArray⟩) ∧ Below w.heap.size w w' := by
  obtain ⟨i0, hi, hz0, hz1, hz2⟩ := info_parts infoStr
  have HI := Lib.hid hi
  have HZ0 := Lib.hid hz0
  have HZ1 := Lib.hid hz1
  have HZ2 := Lib.hid hz2
  clear hi hz0 hz1 hz2
  have HV := Lib.hid hv
  obtain ⟨ao, cap, rfl, _, _, hr⟩ := hv.pairs
  have HR := Lib.hid hr
  clear hv hr
  have B0 := RuAt.box w r (.slice ao r.counts.length cap) 30
  cases hok : okRu r
  · have fin : Hid (fmtR r = []) := by show fmtR r = []; unfold fmtR; rw [hok]; rfl
    unfold ruV
    go_enter Tryz.func8, Tryz.ntmps8
    go_wp2_with (go_at_call 9; refine (implRule_any r _ _ (HV.out.below ((Below.refl _ w).alloc (Nat.le_refl _) _) (Nat.le_refl _))).mono ?_; rintro e wv ⟨rfl, b1⟩)
    go_ret
    exact ⟨by rw [fin.out]; rfl, ((Below.refl _ w).alloc (Nat.le_refl _) _).trans (b1.mono (by rw [World.size_alloc]; exact Nat.le_succ _))⟩
  have fin : Hid (fmtR r = textR r) := by show fmtR r = _; unfold fmtR; rw [hok]; rfl
  have ok := OkR.of hok
  have hm3 : r.counts.length ≤ 3 := Nat.le_of_eq ok.cn
  unfold ruV
  go_enter Tryz.func8, Tryz.ntmps8
  go_upto_region 4 with (go_at_call 9; refine (implRule_any r _ _ (HV.out.below ((Below.refl _ w).alloc (Nat.le_refl _) _) (Nat.le_refl _))).mono ?_; rintro e wv ⟨rfl, b1⟩)
  obtain ⟨b2, B2⟩ : Below w.heap.size w wv ∧ RuAt wv w.heap.size r (.slice ao r.counts.length cap) := ⟨((Below.refl _ w).alloc (Nat.le_refl _) _).trans (b1.mono (by rw [World.size_alloc]; exact Nat.le_succ _)), B0.below b1 (Nat.le_refl _)⟩
  clear b1 B0
  go_cut [4] from 7 (fun v4 wr => St w r (.slice ao r.counts.length cap) v4 (w0 r) wr)
  case first =>
    have E1 := hE.below b2
    have c0 := B2.c0
    have c1 := B2.c1
    have c2 := B2.c2
    have c4 := B2.c4
    have c5 := B2.c5
    have hg := B2.1
    obtain ⟨bm, hgl, hlk⟩ := E1.kinds
    have hg0 : 1 < wv.heap.size := by have := E1.size; omega
    have hl : ∀ x : Later wv, (Instr.lookup 49 (.map (some bm)) (.int .i64 r.kind) false).run Tryz.prog x.wld = .ok (.string ⟨(kindW r.kind).toArray⟩) x.wld := fun x => hlk _ x.below _ ok.kind
    have H : ∀ x : Later wv, ∀ y : Int, 0 ≤ y → y ≤ 1000000 → Calls Tryz.prog 29 #[.int .i64 y] x.wld fun e w' => e = .returned (.string ⟨(dec y).toArray⟩) ∧ ∃ z : Later wv, w' = z.wld :=
      fun x y h0 h1 => Calls.later_of (itoa_run y _ (E1.below x.below) h0 h1)
    have H1 := Lib.hid (fun x => H x r.num (by have := ok.num; omega) (by have := ok.num; omega))
    have H2 := Lib.hid (fun x => H x r.lvl ok.lvl.1 (by have := ok.lvl; omega))
    have H3 := Lib.hid (fun x => H x r.rank ok.rank.1 (by have := ok.rank; omega))
    have H4 := Lib.hid (fun x => H x r.value (by have := ok.value; omega) ok.value.2)
    clear H hlk hE
    refine wp_region_later_tail 20 (by kernel_rfl) (by kernel_rfl) ?_
    simp only [List.take_succ_cons, List.take_zero, List.drop_succ_cons, List.drop_zero]
    repeat (go_big_quiet_step ((go_at_call 29; first | (with_reducible exact H1.out _) | (with_reducible exact H2.out _) | (with_reducible exact H3.out _) | (with_reducible exact H4.out _))))
    refine wpQuiet_nil ?_
    rintro _ ⟨x, rfl⟩
    go_wp2
    go_meet
    case rel => exact St.start (b2.trans (x.below.mono b2.size)) (B2.below x.below (Nat.le_refl _)) (w0 r) _ rfl 7 rfl (by omega)
  case rest =>
    have hS := hcut
    clear hcut b2 B2
    -- the group
    have cc := hS.box.c3
    have hg := hS.box.1
    go_upto_if 33 with fail
    go_cut [4] from 7 (fun v5 wr => St w r (.slice ao r.counts.length cap) v5 (w1 r) wr)
    case first =>
      by_cases h : r.group = -1
      · have hb : (r.group == -1) = true := by simp [h]
        have hb2 : (r.group != -1) = false := by simp [h]
        have HH := Lib.hid h
        clear h
        go_wp2
        go_meet
        case rel => exact (w1_no HH.out).symm ▸ hS
      · have hb : (r.group == -1) = false := by simpa using h
        have hb2 : (r.group != -1) = true := by simpa using h
        have p1 : 0 ≤ r.group := by have := ok.group; omega
        have p2 : r.group ≤ 1000000 := by have := ok.group; omega
        have EE := hE.below hS.below
        have hl := w0_len r
        go_wp2_with (first | (go_at_call 29; refine (itoa_run _ _ EE p1 p2).mono ?_; rintro e wa ⟨rfl, ba⟩) | (at_builtin; refine app_words rfl (.tmp 34) (.tmp 39) 43 rfl (w.heap.size + 1) 9 9 i0 _ Tryz.underlying43 HI.out HZ0.out HZ1.out HZ2.out rfl _ (w0 r) [wGroup, dec r.group] _ rfl _ rfl (hS.step ba).own rfl (by omega) (by simp) (hS.step ba).size ?_; intro v5 w9 ho9 hg9))
        go_meet
        case rel => exact (w1_yes h) ▸ (hS.step ba).app hg9 ho9
    clear hS cc hg
    have hS := hcut
    clear hcut
    -- the cap
    have cc := hS.box.c6
    have hg := hS.box.1
    go_upto_if 43 with fail
    go_cut [4] from 7 (fun v5 wr => St w r (.slice ao r.counts.length cap) v5 (w2 r) wr)
    case first =>
      by_cases h : r.cap = 0
      · have hb : (r.cap == 0) = true := by simp [h]
        have hb2 : (r.cap != 0) = false := by simp [h]
        have HH := Lib.hid h
        clear h
        go_wp2
        go_meet
        case rel => exact (w2_no HH.out).symm ▸ hS
      · have hb : (r.cap == 0) = false := by simpa using h
        have hb2 : (r.cap != 0) = true := by simpa using h
        have p1 : 0 ≤ r.cap := by have := ok.cap; omega
        have p2 : r.cap ≤ 1000000 := by have := ok.cap; omega
        have EE := hE.below hS.below
        have hl := w1_len r
        go_wp2_with (first | (go_at_call 29; refine (itoa_run _ _ EE p1 p2).mono ?_; rintro e wa ⟨rfl, ba⟩) | (at_builtin; refine app_words rfl (.tmp 44) (.tmp 49) 43 rfl (w.heap.size + 1) 9 9 i0 _ Tryz.underlying43 HI.out HZ0.out HZ1.out HZ2.out rfl _ (w1 r) [wCap, dec r.cap] _ rfl _ rfl (hS.step ba).own rfl (by omega) (by simp) (hS.step ba).size ?_; intro v5 w9 ho9 hg9))
        go_meet
        case rel => exact (w2_yes h) ▸ (hS.step ba).app hg9 ho9
    clear hS cc hg
    have hS := hcut
    clear hcut
    -- the total
    have c7 := hS.box.c7
    have c8 := hS.box.c8
    have hg := hS.box.1
    have EE := hE.below hS.below
    obtain ⟨a0, a1⟩ := EE.all
    have hz1 : 0 < wc.heap.size := by have := EE.size; omega
    have hN := neqSpan r.lo r.hi
    go_upto_if 55 with fail
    go_cut [4] from 7 (fun v5 wr => St w r (.slice ao r.counts.length cap) v5 (w3 r) wr)
    case first =>
      cases hA : allSp r.lo r.hi
      all_goals rw [hA] at hN
      · have hl := w2_len r
        go_wp2_with (first | (go_at_call 30; refine (implSpanText_any _ _ _ EE ok.lo.1 ok.lo.2 ok.hi.1 ok.hi.2).mono ?_; rintro e wa ⟨rfl, ba⟩) | (at_builtin; refine app_words rfl (.tmp 56) (.tmp 61) 43 rfl (w.heap.size + 1) 9 9 i0 _ Tryz.underlying43 HI.out HZ0.out HZ1.out HZ2.out rfl _ (w2 r) [wTotal, spW r.lo r.hi] _ rfl _ rfl (hS.step ba).own rfl (by omega) (by simp) (hS.step ba).size ?_; intro v5 w9 ho9 hg9))
        go_meet
        case rel => exact (w3_yes hA) ▸ (hS.step ba).app hg9 ho9
      · go_wp2
        go_meet
        case rel => exact (w3_no hA).symm ▸ hS
    clear hS c7 c8 hg EE a0 a1 hz1 hN
    have hS := hcut
    clear hcut
    -- the counts
    have c9 := hS.box.c9
    have hg := hS.box.1
    go_wp2
    go_loopw [4, 67] (fun v4 i wr => ∃ k : Nat, k ≤ r.counts.length ∧ i = .int .i64 k ∧ St w r (.slice ao r.counts.length cap) v4 (w4 r k) wr) (fun _ i _ => r.counts.length - (intOf i).toNat)
    case atStart => exact ⟨0, Nat.zero_le _, rfl, by simpa [w4, cntW] using hS⟩
    case round =>
      clear hS c9 hg
      obtain ⟨k, hk, rfl, hS⟩ := hrel
      have hg := hS.box.1
      have EE := hE.below hS.below
      by_cases hlt : k < r.counts.length
      · obtain ⟨a0, a1⟩ := EE.all
        have hz1 : 0 < wr.heap.size := by have := EE.size; omega
        obtain ⟨b, off, rfl, hb, hcell⟩ := HR.out (by omega)
        have hcell := hcell k hlt
        have g0 := (hS.below.cell (p := ⟨b, off + k*2, none⟩) hb).trans hcell.1
        have g1 := (hS.below.cell (p := ⟨b, off + k*2+1, none⟩) hb).trans hcell.2
        have hbw : b < wr.heap.size := Nat.lt_of_lt_of_le hb hS.below.size
        have hk0 : (0 : Int) ≤ (k : Int) := by omega
        have hk1 : (k : Int) < (r.counts.length : Int) := by omega
        have hN := neqSpan (pA r.counts k) (pB r.counts k)
        have S1 := hS.alloc (.cells #[.int .i64 (pA r.counts k), .int .i64 (pB r.counts k)] 25)
        cases hA : allSp (pA r.counts k) (pB r.counts k)
        all_goals rw [hA] at hN
        · obtain ⟨p1, p2⟩ := ok.cnt k hlt
          have hl := w4_len r k
          have E1 := hE.below S1.below
          have H1 := Lib.hid (fun x : Later (wr.alloc (.cells #[.int .i64 (pA r.counts k), .int .i64 (pB r.counts k)] 25)) => Calls.later_of (itoa_run (k : Int) x.wld (E1.below x.below) (by omega) (by omega)))
          have H2 := Lib.hid (fun x : Later (wr.alloc (.cells #[.int .i64 (pA r.counts k), .int .i64 (pB r.counts k)] 25)) => Calls.later_of (implSpanText_any (pA r.counts k) (pB r.counts k) x.wld (E1.below x.below) p1.1 p1.2 p2.1 p2.2))
          clear p1 p2 hcell EE E1
          go_wp2
          refine wp_region_later_tail1 (v := u4) 6 (by kernel_rfl) (by kernel_rfl) (by kernel_rfl) (fun _ _ _ h => h) (Or.inl ⟨by rfl, ?_⟩) (by kernel_rfl) ?_
          · intro w
            go_simp
          simp only [Nat.reduceSub, List.take_succ_cons, List.take_zero, List.drop_succ_cons, List.drop_zero, Act.put, List.setIfInBounds_toArray, List.set_cons_zero, List.set_cons_succ]
          repeat (go_big_quiet_step (first | (go_at_call 29; (with_reducible exact H1.out _)) | (go_at_call 30; (with_reducible exact H2.out _))))
          refine wpQuiet_nil ?_
          rintro _ ⟨x, rfl⟩
          go_wp2_with (at_builtin; refine app_words rfl (.tmp 75) (.tmp 81) 43 rfl (w.heap.size + 1) 9 9 i0 _ Tryz.underlying43 HI.out HZ0.out HZ1.out HZ2.out rfl _ (w4 r k) [wCount, dec k, spW (pA r.counts k) (pB r.counts k)] _ rfl _ rfl (S1.step x.below).own rfl (by omega) (by simp) (S1.step x.below).size ?_; intro v5 w9 ho9 hg9)
          go_roundw
          case rel => exact ⟨k+1, by omega, by go_num, (w4_yes hA) ▸ (S1.step x.below).app hg9 ho9⟩
          case measure => simp [intOf]; omega
        · go_wp2
          go_roundw
          case rel => exact ⟨k+1, by omega, by go_num, (w4_no hA).symm ▸ S1⟩
          case measure => simp [intOf]; omega
      · obtain rfl : k = r.counts.length := by omega
        have c10 := hS.box.c10
        by_cases h : r.coupon = 0
        · have hb : (r.coupon == 0) = true := by simp [h]
          have hb2 : (r.coupon != 0) = false := by simp [h]
          have HH := Lib.hid h
          clear h
          go_wp2_with (go_at_call 31; refine (join_any r _ _ w _ ((w5_no HH.out).symm ▸ hS) ok).mono ?_; rintro e wj ⟨rfl, bj⟩)
          go_ret
          exact ⟨by rw [fin.out]; rfl, hS.below.trans (bj.mono hS.below.size)⟩
        · have hb : (r.coupon == 0) = false := by simpa using h
          have hb2 : (r.coupon != 0) = true := by simpa using h
          have p1 : 0 ≤ r.coupon := by have := ok.coupon; omega
          have p2 : r.coupon ≤ 1000000 := by have := ok.coupon; omega
          have hl := w4_len r r.counts.length
          go_wp2_with (first | (go_at_call 29; refine (itoa_run _ _ EE p1 p2).mono ?_; rintro e wa ⟨rfl, ba⟩) | (at_builtin; refine app_words rfl (.tmp 88) (.tmp 94) 43 rfl (w.heap.size + 1) 9 9 i0 _ Tryz.underlying43 HI.out HZ0.out HZ1.out HZ2.out rfl _ (w4 r r.counts.length) [wCoupon, dec r.coupon] _ rfl _ rfl (hS.step ba).own rfl (by omega) (by simp) (hS.step ba).size ?_; intro v5 w9 ho9 hg9) | (go_at_call 31; refine (join_any r _ _ w _ ((w5_yes h) ▸ (hS.step ba).app hg9 ho9) ok).mono ?_; rintro e wj ⟨rfl, bj⟩))
          go_ret
          have hS9 := (hS.step ba).app hg9 ho9
          exact ⟨by rw [fin.out]; rfl, hS9.below.trans (bj.mono hS9.below.size)⟩

end Go.Proofs.YtdofpealmngmiaaGreatDoor
