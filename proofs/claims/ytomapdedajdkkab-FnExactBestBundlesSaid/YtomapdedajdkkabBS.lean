/- Walks: the best choice of bundles in the reference. Conditions: none. -/
import Derived.Test.YtomapdedajdkkabVN
import Derived.Test.YtomapdedajdkkabCY
import Derived.Test.YtomapdedajdkkabCZ
import Derived.Test.YtomapdedajdkkabBbFns
namespace Go.Proofs.Ytomapdedajdkkab
open Go.RowKit

theorem Try.info3b : (Try.prog.info? 3).map (fun i => (i.zero, i.size, i.bytes)) = some (some (.int .i64 0), 1, 8) := by kernel_rfl

/-- append of a whole list of numbers to a row of the call's own. -/
theorem app_many1 {P : Program} {w : World} {ops : Array Oper} {rest : List Oper} {o : Oper} {a : Act} {Q : Exit → Act → World → Prop} (hgd : o.guard = none) (s x : Operand) (t : TypeId)
    (ho : o.op = .call { callee := .builtin .append, args := #[s, x], argTypes := #[t, t] }) (base base0 e : Nat) (i : TypeInfo) (z : Value) (ht : P.underlying t = some (.slice e)) (hi : P.info? e = some i) (hz : i.zero = some z)
    (hs : i.size = 1) (hby : i.bytes = 8) (hzs : z.cells.size = 1) (v : Value) (m : List Int) (hv : a.eval s = v) (hown : w.ownsRow base e 1 v m.length (it m)) (l : List Int) (u : Value) (hx : a.eval x = u) (hr : w.ownsRow base0 e 1 u l.length (it l))
    (hlen : m.length + l.length ≤ 1099511627776) (hbase : base ≤ w.heap.size)
    (h : ∀ v' w1, w1.ownsRow base e 1 v' (m ++ l).length (it (m ++ l)) → w.grownBy w1 v.ownBlock → wpList P ops Q rest (a.put o.dst v') w1) : wpList P ops Q (o :: rest) a w := by
  rcases hr.2 with ⟨rfl, hn⟩ | ⟨g, cap, cur, rfl, hb, hg, hn, hc, hsz, htk⟩
  · obtain rfl : l = [] := List.eq_nil_of_length_eq_zero hn
    exact wpList_append_own_none hgd s x t ho base e i 1 ht hi v m.length (it m) hv hown hx (h v w (by rw [List.append_nil]; exact hown) (World.grownBy.refl _ _))
  · refine wpList_append_own w hgd s x t ho base e i z 1 8 ht hi hz hs hby hzs (by decide) v m.length (it m) hv hown ⟨g, 0, none⟩ l.length cap (it l) hx (it_len l) (hr.cells (g := g) rfl) (fun q hq => ?_) (by unfold maxLen; omega) (by omega) hbase ?_
    · obtain ⟨y, _, rfl⟩ := List.mem_map.1 hq
      rfl
    · intro v' w1 h1 h2 _
      refine h v' w1 ?_ h2
      rw [List.length_append]
      simpa [it] using h1

/-- bundles as parts and prices -/
def qsB (B : List Bn) : List PB := B.map fun x => (x.l, x.p)
theorem qsB_len (B : List Bn) : (qsB B).length = B.length := by simp [qsB]
theorem qsB_drop {B : List Bn} {k : Nat} (h : k < B.length) : (qsB B).drop k = ((bT B k).l, (bT B k).p) :: (qsB B).drop (k + 1) := by
  rw [List.drop_eq_getElem_cons (by rw [qsB_len]; exact h)]
  simp [qsB, bT, List.getD, h]
theorem qsB_end (B : List Bn) : (qsB B).drop B.length = [] := List.drop_eq_nil_of_le (by rw [qsB_len]; exact Nat.le_refl _)
theorem okQ_all {s : List Art} {B : List Bn} (h : ∀ k, k < B.length → bOkT s B k = true) : okQ s (qsB B) := by
  intro q hq
  obtain ⟨x, hx, rfl⟩ := List.mem_map.1 hq
  obtain ⟨k, hk, rfl⟩ := List.getElem_of_mem hx
  have := h k hk
  simpa [bOkT, bT, List.getD, hk] using this
theorem okQ_drop {s : List Art} {qs : List PB} (h : okQ s qs) (k : Nat) : okQ s (qs.drop k) := fun q hq => h q (List.mem_of_mem_drop hq)

set_option maxHeartbeats 1000000 in
theorem copyInts_any (base0 : Nat) (l : List Int) (v : Value) (w : World) (hv : w.ownsRow base0 3 1 v l.length (it l)) (hl : l.length ≤ 1000000) :
    Calls Try.prog 87 #[v] w fun e w' => ∃ u, e = .returned u ∧ w'.ownsRow w.heap.size 3 1 u l.length (it l) ∧ Below w.heap.size w w' := by
  obtain ⟨i0, hi, hz0, hz1, hz2⟩ := info_parts Try.info3b
  have HI := Lib.hid hi
  have HZ0 := Lib.hid hz0
  have HZ1 := Lib.hid hz1
  have HZ2 := Lib.hid hz2
  have HV := Lib.hid hv
  clear hi hz0 hz1 hz2 hv
  go_enter Try.func87, Try.ntmps87
  have hown1 := World.ownsRow_made (base := w.heap.size) (e := 3) (size := 1) w #[] 0 (Nat.le_refl _) (by simp) (by simp)
  have hr1 := HV.out.alloc (.cells #[] 3)
  have O1 := Lib.hid hown1
  have R1 := Lib.hid hr1
  clear hown1 hr1
  go_wp2_with (at_builtin; refine app_copy1 rfl (.tmp 3) (.tmp 4) 42 rfl w.heap.size base0 3 i0 _ Try.underlying42 HI.out HZ0.out HZ1.out HZ2.out rfl _ rfl O1.out l _ rfl R1.out (by omega) (by simp) ?_; intro v1 w3 ho3 hg3; have B3 := below_row ((Below.refl _ _).alloc (Nat.le_refl _) _) hg3 (fun k hk => by obtain rfl : w.heap.size = k := Option.some.inj hk; exact Nat.le_refl _); have O3 := Lib.hid ho3; clear ho3 hg3)
  go_ret
  exact ⟨v1, rfl, O3.out, B3⟩

set_option maxHeartbeats 8000000 in
set_option maxRecDepth 100000 in
theorem specBest_any (s : List Art) (B : List Bn) (hok : ∀ k, k < B.length → bOkT s B k = true) (hB3 : B.length ≤ 3) (hs10 : s.length ≤ 10) : ∀ (r k : Nat) (h : List Int) (u lv hv : Value) (base0 : Nat) (w : World), k + r = B.length → Rd w 4 u s.length (ar s) → RdB w lv B → w.ownsRow base0 3 1 hv h.length (it h) → okH h → h.length = s.length →
    Calls Try.prog 64 #[u, lv, .int .i64 k, hv] w fun e w' => ∃ v, e = .returned (.tuple #[.int .i64 (bestQ s ((qsB B).drop k) h).1, v]) ∧ w'.ownsRow w.heap.size 3 1 v (bestQ s ((qsB B).drop k) h).2.length (it (bestQ s ((qsB B).drop k) h).2) ∧ Below w.heap.size w w' := by
  intro r
  induction r with
  | zero =>
    intro k h u lv hv base0 w hk hs hl hh _ _
    obtain rfl : k = B.length := by omega
    rw [qsB_end]
    obtain ⟨lo, lcap, rfl, _⟩ := hl.open
    have hkb : ((B.length : Int) == (B.length : Int)) = true := by simp
    clear hs hl hh
    go_enter Try.func64, Try.ntmps64
    go_wp2_with fail
    go_ret2
    exact ⟨_, rfl, World.ownsRow_made w #[] 0 (Nat.le_refl _) (by simp) (by simp), (Below.refl _ _).alloc (Nat.le_refl _) _⟩
  | succ r ih =>
    intro k h u lv hv base0 w hkr hs hl hh hoh hlen
    have hkl : k < B.length := by omega
    have hkb : ((k : Int) == (B.length : Int)) = false := by rw [beq_eq_false_iff_ne]; omega
    have HS := Lib.hid hs
    have HL := Lib.hid hl
    have HH := Lib.hid hh
    have HOH := Lib.hid hoh
    have HLEN := Lib.hid hlen
    obtain ⟨so, scap, rfl, _⟩ := hs.arts
    obtain ⟨lo, lcap, rfl, hlc1, hlc2, hrl⟩ := hl.open
    obtain ⟨lb, loff, rfl, hlb, hcl⟩ := hrl (by omega)
    have hcl0 := (hcl k hkl)
    obtain ⟨q0, q1⟩ := hcl0
    have hpx := hl.2 _ (bT_mem hkl)
    obtain ⟨po, pcap, hpe, _, _, hpr⟩ := hpx.pairs
    rw [hpe] at q0 hpx
    have hbk := hok k hkl
    unfold bOkT at hbk
    obtain ⟨hvc, hpl0, _, _⟩ := bOk_pr hbk
    have hvl := (vCart_pr hvc).2
    have hgn := gain_nn hbk
    obtain ⟨pb, poff, rfl, hpb, hpc⟩ := hpr hpl0
    have HPC := Lib.hid hpc
    have HVL := Lib.hid hvl
    have HL1 : Hid (0 < h.length) := by have := lnOk_pr ((vLines_all hvl).1 0 hpl0); unfold Hid; omega
    have HBK := Lib.hid hbk
    have hqs := Lib.hid (qsB_drop hkl)
    have hqk := Lib.hid (okQ_drop (okQ_all hok) (k + 1))
    have htm := tm_nn hvl hlen hoh
    obtain ⟨n, hn⟩ := Int.eq_ofNat_of_zero_le htm.1
    have hl8 := (vLines_all hvl).2
    have hbe := bestQ_fits (s := s) ((qsB B).drop k) h (okQ_drop (okQ_all hok) k) hlen hoh
    have hn20 : n ≤ 20 := by omega
    have hHM := hh.1
    obtain ⟨hg0, hg8⟩ := hgn
    obtain ⟨G, hG⟩ : ∃ G, G = fGain s (bT B k).l (bT B k).p := ⟨_, rfl⟩
    rw [← hG] at hg0 hg8
    have HG := Lib.hid hG
    have HN := Lib.hid hn
    -- the loop's result
    have fin : Hid (bestQ s ((qsB B).drop k) h = lpQ (fun c => bestQ s ((qsB B).drop (k + 1)) (lsL h (bT B k).l c (bT B k).l.length)) G n (n + 1)) := by
      unfold Hid
      rw [qsB_drop hkl, hG]
      show lpQ _ _ (tmN h (bT B k).l (bT B k).l.length) ((tmN h (bT B k).l (bT B k).l.length).toNat + 1) = _
      rw [hn]; rfl
    rw [fin.out]
    obtain ⟨lp, hlp⟩ : ∃ lp : Nat → Int × List Int, lp = lpQ (fun c => bestQ s ((qsB B).drop (k + 1)) (lsL h (bT B k).l c (bT B k).l.length)) G n := ⟨_, rfl⟩
    rw [← hlp]
    have HLP := Lib.hid hlp
    have hstep : Hid (∀ j : Nat, j ≤ n → lp (j + 1) = if (lp j).1 < (bestQ s ((qsB B).drop (k + 1)) (lsL h (bT B k).l ((n : Int) - j) (bT B k).l.length)).1 + ((n : Int) - j) * G then ((bestQ s ((qsB B).drop (k + 1)) (lsL h (bT B k).l ((n : Int) - j) (bT B k).l.length)).1 + ((n : Int) - j) * G, ((n : Int) - j) :: (bestQ s ((qsB B).drop (k + 1)) (lsL h (bT B k).l ((n : Int) - j) (bT B k).l.length)).2) else lp j) := fun j _ => by rw [hlp]; rfl
    have h00 : Hid (lp 0 = (-1, [])) := by rw [hlp]; rfl
    have hbb : Hid (∀ c, 0 ≤ c → c ≤ (n : Int) → okH (lsL h (bT B k).l c (bT B k).l.length) ∧ 0 ≤ (bestQ s ((qsB B).drop (k + 1)) (lsL h (bT B k).l c (bT B k).l.length)).1 ∧ (bestQ s ((qsB B).drop (k + 1)) (lsL h (bT B k).l c (bT B k).l.length)).1 ≤ 48000000 ∧ (bestQ s ((qsB B).drop (k + 1)) (lsL h (bT B k).l c (bT B k).l.length)).2.length ≤ 3) := fun c h0 h1 => by
      have o1 := okH_lsL HVL.out h0 (by rw [HN.out]; exact h1) HOH.out (bT B k).l.length
      have o2 := bestQ_fits (s := s) ((qsB B).drop (k + 1)) (lsL h (bT B k).l c (bT B k).l.length) hqk.out (by rw [lsL_len]; exact HLEN.out) o1
      have o3 := fits_len o2.1
      have o4 : ((qsB B).drop (k + 1)).length ≤ 3 := by rw [List.length_drop, qsB_len]; omega
      exact ⟨o1, o2.2.2.1, by omega, by omega⟩
    have okl : Hid (∀ c m, 0 ≤ c → c ≤ (n : Int) → okH (lsL h (bT B k).l c m)) := fun c m h0 h1 => okH_lsL HVL.out h0 (by rw [HN.out]; exact h1) HOH.out m
    have hw1 : IntKind.i64.wrap ((k : Int) + 1) = (k : Int) + 1 := IntWalk.i64_in _ (by omega)
    obtain ⟨i0, hi, hz0, hz1, hz2⟩ := info_parts Try.info3b
    have HI := Lib.hid hi
    have HZ0 := Lib.hid hz0
    have HZ1 := Lib.hid hz1
    have HZ2 := Lib.hid hz2
    have HIH := Lib.hid ih
    have HQ0 := Lib.hid q0
    have HQ1 := Lib.hid q1
    have HPX := Lib.hid hpx
    clear hi hz0 hz1 hz2 ih hok hs hl hh hoh hrl hcl hpx hpr hpc hvl hbk hvc hbe hG hlp htm hpe hpl0 hlen
    go_enter Try.func64, Try.ntmps64
    go_wp2_with fail
    refine (specTimes_any h _ (bT B k).l _ _ (Rd.of_owns ((HH.out.alloc _))) (HPX.out.below ((Below.refl _ _).alloc (Nat.le_refl _) _) (Nat.le_refl _)) (fun j hj => by have := HOH.out j hj; omega) (fun j hj => by have := lnOk_pr ((vLines_all HVL.out).1 j hj); have := HLEN.out; omega) (by have := HLEN.out; omega) (by omega)).mono ?_
    rintro e w1 ⟨rfl, hb1⟩
    rw [HN.out]
    have B0 : Below w.heap.size w (w.alloc (.cells #[] 3)) := (Below.refl _ _).alloc (Nat.le_refl _) _
    have B1 := B0.trans (hb1.mono B0.size)
    have O1 := Lib.hid (ownsRow_below (World.ownsRow_made (base := w.heap.size) (e := 3) (size := 1) w #[] 0 (Nat.le_refl _) (by simp) (by simp)) hb1 (Nat.le_refl _))
    clear hb1 B0
    go_wp2
    go_loopw [10, 11, 12] (fun t_ ch_ c_ wr => ∃ j : Nat, j ≤ n + 1 ∧ c_ = .int .i64 ((n : Int) - j) ∧ t_ = .int .i64 (lp j).1 ∧ Hid (wr.ownsRow w.heap.size 3 1 ch_ (lp j).2.length (it (lp j).2)) ∧ Below w.heap.size w wr) (fun _ _ c_ _ => (intOf c_ + 1).toNat)
    case atStart => exact ⟨0, Nat.zero_le _, by simp, by rw [h00.out], by rw [Hid, h00.out]; exact O1.out, B1⟩
    case round =>
      clear O1 B1
      obtain ⟨j, hj, rfl, rfl, O, hbl⟩ := hrel
      by_cases hjn : j ≤ n
      · obtain ⟨c, hc⟩ : ∃ c : Nat, (n : Int) - j = c := ⟨n - j, by omega⟩
        have hstp := hstep.out j hjn
        rw [hc] at hstp ⊢
        have hcn : c ≤ n := by omega
        have hbc := hbb.out c (by omega) (by omega)
        have okc := Lib.hid (fun m => okl.out c m (by omega) (by omega))
        obtain ⟨R, hR⟩ : ∃ R, R = bestQ s ((qsB B).drop (k + 1)) (lsL h (bT B k).l c (bT B k).l.length) := ⟨_, rfl⟩
        rw [← hR] at hstp hbc
        obtain ⟨ho1, hR0, hR1, hR2⟩ := hbc
        have HSTP := Lib.hid hstp
        have HRR := Lib.hid hR
        have HO1 := Lib.hid ho1
        have HC := Lib.hid hc
        clear hstp hR ho1 hc
        have hl1 := HL1.out
        go_wp2_with fail
        refine (copyInts_any base0 h _ _ (ownsRow_below HH.out hbl (Nat.le_refl _)) (by have := HLEN.out; omega)).mono ?_
        rintro e w2 ⟨rv, rfl, ho2, hb2⟩
        obtain ⟨ra, rcap, rfl, hsh⟩ := owns_shape ho2
        obtain ⟨g, rfl, hg⟩ := hsh hl1
        have P2 := Lib.hid (show w2.ownsRow wr.heap.size 3 1 (.slice (some ⟨g, 0, none⟩) h.length rcap) h.length (it (lsL h (bT B k).l c 0)) by rw [lsL_zero]; exact ho2)
        obtain ⟨wo, rfl⟩ : ∃ wo : World, wo = wr := ⟨_, rfl⟩
        clear ho2 hsh
        go_wp2
        go_loopw [14] (fun i_ wr => ∃ m : Nat, m ≤ (bT B k).l.length ∧ i_ = .int .i64 m ∧ Below wo.heap.size wo wr ∧ Hid (wr.ownsRow wo.heap.size 3 1 (.slice (some ⟨g, 0, none⟩) h.length rcap) h.length (it (lsL h (bT B k).l c m)))) (fun i_ _ => (bT B k).l.length - (intOf i_).toNat)
        case atStart => exact ⟨0, Nat.zero_le _, rfl, hb2, P2⟩
        case round =>
          clear P2 hb2
          obtain ⟨m, hm, rfl, hbi, P⟩ := hrel
          have Bt := hbl.trans (hbi.mono hbl.size)
          have g0 := (Bt.cell (p := ⟨lb, loff + k * 2, none⟩) hlb).trans HQ0.out
          have g1 := (Bt.cell (p := ⟨lb, loff + k * 2 + 1, none⟩) hlb).trans HQ1.out
          have hlw : lb < wr.heap.size := Nat.lt_of_lt_of_le hlb Bt.size
          have hgw : g < wr.heap.size := (P.out.lt g rfl).2
          by_cases hlt : m < (bT B k).l.length
          · obtain ⟨h4, h5, h6, h7, _⟩ := lnOk_pr ((vLines_all HVL.out).1 m hlt)
            obtain ⟨a, ha⟩ := Int.eq_ofNat_of_zero_le h4
            have han : a < h.length := by have := HLEN.out; omega
            have g2 := (Bt.cell (p := ⟨pb, poff + m * 2, none⟩) hpb).trans (HPC.out m hlt).1
            have g3 := (Bt.cell (p := ⟨pb, poff + m * 2 + 1, none⟩) hpb).trans (HPC.out m hlt).2
            have hpw : pb < wr.heap.size := Nat.lt_of_lt_of_le hpb Bt.size
            have hst := lsL_step (h := h) (c := c) hlt ha han
            have hbd := okc.out m a (by rw [lsL_len]; exact han)
            obtain ⟨hx1, hx2⟩ := hbd
            obtain ⟨c0, f0⟩ := owns_at1 P.out a han
            rw [ha] at g2
            have HS2 := Lib.hid hst
            clear ha h4 h5 hst
            obtain ⟨y, hy⟩ : ∃ y, y = pB (bT B k).l m := ⟨_, rfl⟩
            obtain ⟨x, hx⟩ : ∃ x, x = iG (lsL h (bT B k).l c m) a := ⟨_, rfl⟩
            rw [← hy] at g3 HS2 h6 h7
            rw [← hx] at c0 hx1 hx2 HS2
            clear hy hx
            have hmb := mul_bd (a := (c : Int)) (b := y) (m := 20) (n := 20) (by omega) (by omega) (by omega) (by omega)
            have e1 : IntKind.i64.wrap ((c : Int) * y) = (c : Int) * y := IntWalk.i64_in _ (by omega)
            have e2 : IntKind.i64.wrap (x - (c : Int) * y) = x - (c : Int) * y := IntWalk.i64_in _ (by omega)
            have ha0 : (0 : Int) ≤ (a : Int) := by omega
            have ha1 : (a : Int) < (h.length : Int) := by omega
            have hm0 : (0 : Int) ≤ (m : Int) := by omega
            have hm1 : (m : Int) < ((bT B k).l.length : Int) := by omega
            have hk0 : (0 : Int) ≤ (k : Int) := by omega
            have hk1 : (k : Int) < (B.length : Int) := by omega
            have hne1 : ¬ g = wr.heap.size := by omega
            clear hmb hx1 hx2
            go_wp2
            go_region
            go_wp2
            have o3 := (owns_set1 P.out a (x - (c : Int) * y)).1
            rw [HS2.out] at o3
            go_roundw
            case rel => exact ⟨m + 1, by omega, by go_num, ((hbi.setCell hg _).alloc (hbi.setCell hg _).size _).drew, (o3.alloc _).drew⟩
            case measure => simp [intOf]; omega
          · obtain rfl : m = (bT B k).l.length := by omega
            have Ow := Lib.hid (ownsRow_below O.out hbi (Nat.le_refl _))
            have hli := lsL_len h (bT B k).l c (bT B k).l.length
            have hP := P.out
            have c1 := HIH.out (k + 1) (lsL h (bT B k).l c (bT B k).l.length) (.slice so s.length scap) (.slice (some ⟨lb, loff, none⟩) B.length lcap) (.slice (some ⟨g, 0, none⟩) h.length rcap) wo.heap.size wr (by omega) (HS.out.below Bt (Nat.le_refl _)) (HL.out.below Bt (Nat.le_refl _)) (by rw [hli]; exact hP) HO1.out (by rw [hli]; exact HLEN.out)
            rw [← HRR.out, show ((k + 1 : Nat) : Int) = (k : Int) + 1 by omega] at c1
            have C1 := Lib.hid c1
            have hk0 : (0 : Int) ≤ (k : Int) := by omega
            have hk1 : (k : Int) < (B.length : Int) := by omega
            clear hP hli c1 P
            go_wp2_with fail
            refine C1.out.mono ?_
            rintro e w3 ⟨mv, rfl, ho3, hb3⟩
            clear C1
            have B3 := Bt.trans (hb3.mono Bt.size)
            have O3 := Lib.hid (ownsRow_below Ow.out hb3 (Nat.le_refl _))
            have M3 := Lib.hid ho3
            have k0 := (B3.cell (p := ⟨lb, loff + k * 2, none⟩) hlb).trans HQ0.out
            have k1 := (B3.cell (p := ⟨lb, loff + k * 2 + 1, none⟩) hlb).trans HQ1.out
            have hlw3 : lb < w3.heap.size := Nat.lt_of_lt_of_le hlb B3.size
            clear ho3 hb3 Ow Bt g0 g1 hbi hlw
            obtain ⟨R1, R2⟩ := R
            simp only at hR0 hR1 hR2 M3
            have HSTP2 : Hid (lp (j + 1) = if (lp j).1 < R1 + (c : Int) * G then (R1 + (c : Int) * G, (c : Int) :: R2) else lp j) := HSTP.out
            have hmb := mul_bd (a := (c : Int)) (b := G) (m := 20) (n := 800000) (by omega) (by omega) (by omega) (by omega)
            have e1 : IntKind.i64.wrap ((c : Int) * G) = (c : Int) * G := IntWalk.i64_in _ (by omega)
            have e2 : IntKind.i64.wrap (R1 + (c : Int) * G) = R1 + (c : Int) * G := IntWalk.i64_in _ (by omega)
            have e3 : IntKind.i64.wrap ((c : Int) - 1) = (c : Int) - 1 := IntWalk.i64_in _ (by omega)
            have hcj : (c : Int) - 1 = (n : Int) - ((j + 1 : Nat) : Int) := by have := HC.out; omega
            have HCJ := Lib.hid hcj
            have HBD := Lib.hid hmb
            clear hmb hcj HSTP HRR
            go_wp2_with fail
            refine (specGain_in s _ (bT B k).l _ (bT B k).p _ (HS.out.below B3 (Nat.le_refl _)) (HPX.out.below B3 (Nat.le_refl _)) HBK.out).mono ?_
            rintro e w4 ⟨rfl, hb4⟩
            rw [← HG.out]
            have B4 := B3.trans (hb4.mono B3.size)
            have O4 := Lib.hid (ownsRow_below O3.out hb4 (Nat.le_refl _))
            have M4 := Lib.hid (ownsRow_below M3.out hb4 (Nat.le_refl _))
            clear B3 O3 M3 hb4 k0 k1 hlw3
            by_cases hbet : (lp j).1 < R1 + (c : Int) * G
            · have hnew : Hid (lp (j + 1) = (R1 + (c : Int) * G, (c : Int) :: R2)) := by rw [Hid, HSTP2.out, if_pos hbet]
              have N4 := Lib.hid (show (w4.alloc (.cells #[.int .i64 (c : Int)] 3)).ownsRow w.heap.size 3 1 (.slice (some ⟨w4.heap.size, 0, none⟩) 1 1) ([(c : Int)] : List Int).length (it [(c : Int)]) from ⟨rfl, .inr ⟨w4.heap.size, 1, #[.int .i64 (c : Int)], rfl, B4.size, heap_alloc_new w4 _, Nat.le_refl _, by decide, rfl, rfl⟩⟩)
              have M5 := Lib.hid (M4.out.alloc (.cells #[.int .i64 (c : Int)] 3))
              have hsz4 := B4.size
              go_wp2_with (at_builtin; refine app_many1 rfl (.tmp 93) (.tmp 94) 42 rfl w.heap.size _ 3 i0 _ Try.underlying42 HI.out HZ0.out HZ1.out HZ2.out rfl _ [(c : Int)] rfl N4.out R2 _ rfl M5.out (by simp only [List.length_singleton]; omega) (by simp; omega) ?_; intro vA wA hoA hgA; have OA := Lib.hid hoA; have BA := below_row (B4.alloc B4.size _) hgA (fun k hk => by obtain rfl : w4.heap.size = k := Option.some.inj hk; exact hsz4); clear hoA hgA)
              go_roundw
              case rel => exact ⟨j + 1, by omega, by rw [← HCJ.out], by rw [hnew.out], by rw [Hid, hnew.out]; exact OA.out, BA⟩
              case measure => simp [intOf] <;> omega
            · have hnew : Hid (lp (j + 1) = lp j) := by rw [Hid, HSTP2.out, if_neg hbet]
              have hbb2 : decide ((lp j).1 < R1 + (c : Int) * G) = false := by simpa using hbet
              go_wp2
              go_roundw
              case rel => exact ⟨j + 1, by omega, by rw [← HCJ.out], by rw [hnew.out], by rw [Hid, hnew.out]; exact O4.out, B4⟩
              case measure => simp [intOf] <;> omega
      · obtain rfl : j = n + 1 := by omega
        have hneg : decide (0 ≤ (n : Int) - ((n + 1 : Nat) : Int)) = false := by simp; omega
        rw [show (n : Int) - ((n + 1 : Nat) : Int) = -1 by omega]
        go_wp2
        go_ret2
        exact ⟨_, rfl, O.out, hbl⟩

theorem specBest_0 (s : List Art) (B : List Bn) (hok : ∀ k, k < B.length → bOkT s B k = true) (hB3 : B.length ≤ 3) (hs10 : s.length ≤ 10) (h : List Int) (u lv hv : Value) (base0 : Nat) (w : World) (hs : Rd w 4 u s.length (ar s)) (hl : RdB w lv B) (hh : w.ownsRow base0 3 1 hv h.length (it h)) (ho : okH h) (hlen : h.length = s.length) :
    Calls Try.prog 64 #[u, lv, .int .i64 0, hv] w fun e w' => ∃ v, e = .returned (.tuple #[.int .i64 (bestQ s (qsB B) h).1, v]) ∧ w'.ownsRow w.heap.size 3 1 v (bestQ s (qsB B) h).2.length (it (bestQ s (qsB B) h).2) ∧ Below w.heap.size w w' :=
  specBest_any s B hok hB3 hs10 B.length 0 h u lv hv base0 w (by omega) hs hl hh ho hlen

/-- the best choice, or none for what is not valid -/
def fBest (s : List Art) (c : List (Int × Int)) (B : List Bn) : List Int := if vCart s c && vBn s B then (bestQ s (qsB B) (hvL s.length c)).2 else []
theorem fBest_c {s : List Art} {c : List (Int × Int)} {B : List Bn} (h : vCart s c = false) : fBest s c B = [] := by simp [fBest, h]
theorem fBest_b {s : List Art} {c : List (Int × Int)} {B : List Bn} (h : vBn s B = false) : fBest s c B = [] := by simp [fBest, h]
theorem fBest_y {s : List Art} {c : List (Int × Int)} {B : List Bn} (h : vCart s c = true) (h2 : vBn s B = true) : fBest s c B = (bestQ s (qsB B) (hvL s.length c)).2 := by simp [fBest, h, h2]

/-- What a choice hands back. -/
def BestPost (s : List Art) (c : List (Int × Int)) (B : List Bn) (w : World) (e : Ending) (w' : World) : Prop :=
  ∃ v, e = .returned v ∧ w'.ownsRow w.heap.size 3 1 v (fBest s c B).length (it (fBest s c B)) ∧ Below w.heap.size w w'
theorem bestPost_no {s : List Art} {c : List (Int × Int)} {B : List Bn} {w w1 : World} (h : fBest s c B = []) (hb : Below w.heap.size w w1) : BestPost s c B w (.returned (.slice none 0 0)) w1 := by
  refine ⟨_, rfl, ?_, hb⟩
  rw [h]
  exact ⟨rfl, .inl ⟨rfl, rfl⟩⟩

set_option maxHeartbeats 4000000 in
theorem specBB_any (s : List Art) (u : Value) (c : List (Int × Int)) (cv : Value) (B : List Bn) (lv : Value) (w : World) (hs : Rd w 4 u s.length (ar s)) (hc : Rd w 2 cv c.length (pr c)) (hl : RdB w lv B) :
    Calls Try.prog 23 #[u, cv, lv] w (BestPost s c B w) := by
  have HS := Lib.hid hs
  have HC := Lib.hid hc
  have HL := Lib.hid hl
  have hm := hs.len
  unfold maxLen at hm
  obtain ⟨so, scap, rfl, _⟩ := hs.arts
  obtain ⟨co, ccap, rfl, _⟩ := hc.pairs
  obtain ⟨lo, lcap, rfl, _⟩ := hl.open
  clear hs hc hl
  cases hsh : vShop s
  · have fin := Lib.hid (fBest_c (B := B) (vCart_s (c := c) hsh))
    go_enter Try.func23, Try.ntmps23
    go_wp2_with (go_at_call 48; refine (specShop_in s _ _ HS.out).mono ?_; rintro e w1 ⟨rfl, hb1⟩)
    go_ret
    exact bestPost_no fin.out hb1
  have HSH := Lib.hid hsh
  cases hcc : vLines s.length c
  · have fin := Lib.hid (fBest_c (B := B) (vCart_l (s := s) hcc))
    go_enter Try.func23, Try.ntmps23
    go_wp2_with (first | (go_at_call 48; refine (specShop_in s _ _ HS.out).mono ?_; rintro e w1 ⟨rfl, hb1⟩) | (go_at_call 62; (with_reducible refine (specCart_in _ _ _ c _ _ (HC.out.below hb1 (Nat.le_refl _)) (by omega)).mono ?_); rintro e w2 ⟨rfl, hb2⟩))
    go_ret
    exact bestPost_no fin.out (hb1.trans (hb2.mono hb1.size))
  have HCC := Lib.hid (vCart_y hsh hcc)
  have HVL := Lib.hid hcc
  cases hbb : (B.all (fun x => bOk s x.l x.p) && decide (B.length ≤ 3))
  · have fin := Lib.hid (fBest_b (c := c) (show vBn s B = false by unfold vBn; rw [hbb, Bool.and_false]))
    have HBB := Lib.hid hbb
    clear hbb
    go_enter Try.func23, Try.ntmps23
    go_wp2_with (first | (go_at_call 48; refine (specShop_in s _ _ HS.out).mono ?_; rintro e w1 ⟨rfl, hb1⟩) | (go_at_call 62; (with_reducible refine (specCart_in _ _ _ c _ _ (HC.out.below hb1 (Nat.le_refl _)) (by omega)).mono ?_); rintro e w2 ⟨rfl, hb2⟩; have b2 := hb1.trans (hb2.mono hb1.size)) | (go_at_call 63; (with_reducible refine (specBundles_in s _ B _ _ (HS.out.below b2 (Nat.le_refl _)) (HL.out.below b2 (Nat.le_refl _)) HSH.out).mono ?_); rintro e w3 ⟨rfl, hb3⟩; rw [HBB.out]))
    go_ret
    exact bestPost_no fin.out (b2.trans (hb3.mono b2.size))
  · have hvb : vBn s B = true := by unfold vBn; rw [hsh, hbb]; rfl
    have hpr := vBn_pr hvb
    have fin := Lib.hid (fBest_y HCC.out hvb)
    have HBB := Lib.hid hbb
    have HPR := Lib.hid hpr
    have hs10 := (vShop_all hsh).2.2
    clear hbb hpr hvb hcc
    go_enter Try.func23, Try.ntmps23
    go_wp2_with (first | (go_at_call 48; refine (specShop_in s _ _ HS.out).mono ?_; rintro e w1 ⟨rfl, hb1⟩) | (go_at_call 62; (with_reducible refine (specCart_in _ _ _ c _ _ (HC.out.below hb1 (Nat.le_refl _)) (by omega)).mono ?_); rintro e w2 ⟨rfl, hb2⟩; have b2 := hb1.trans (hb2.mono hb1.size)) | (go_at_call 63; (with_reducible refine (specBundles_in s _ B _ _ (HS.out.below b2 (Nat.le_refl _)) (HL.out.below b2 (Nat.le_refl _)) HSH.out).mono ?_); rintro e w3 ⟨rfl, hb3⟩; rw [HBB.out]; have b3 := b2.trans (hb3.mono b2.size)) | (go_at_call 65; (with_reducible refine (specCounts_any _ s.length _ c _ _ (HC.out.below b3 (Nat.le_refl _)) HVL.out (by omega)).mono ?_); rintro e w4 ⟨hv, rfl, ho4, hb4⟩; have b4 := b3.trans (hb4.mono b3.size); have ho5 : w4.ownsRow w3.heap.size 3 1 hv (hvL s.length c).length (it (hvL s.length c)) := (by rw [hvL_len]; exact ho4)) | (go_at_call 64; (with_reducible refine (specBest_0 s B HPR.out.2.1 HPR.out.2.2 hs10 (hvL s.length c) _ _ hv w3.heap.size _ (HS.out.below b4 (Nat.le_refl _)) (HL.out.below b4 (Nat.le_refl _)) ho5 (okH_hvL HCC.out) (hvL_len _ _)).mono ?_); rintro e w5 ⟨rv, rfl, ho6, hb6⟩))
    go_ret
    refine ⟨_, rfl, ?_, b4.trans (hb6.mono b4.size)⟩
    rw [fin.out]
    exact owns_base ho6 b4.size

end Go.Proofs.Ytomapdedajdkkab
