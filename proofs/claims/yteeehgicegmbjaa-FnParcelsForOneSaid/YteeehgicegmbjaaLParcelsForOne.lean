/- What fits is one parcel: ParcelsFor pieces that fit together is one parcel, and without pieces none, for every code. Conditions: none. -/
import Derived.Test.YteeehgicegmbjaaVP
import Derived.Test.YteeehgicegmbjaaVQ
import Derived.Test.YteeehgicegmbjaaIN
import Derived.StillTailTactics
import Derived.Test.YteeehgicegmbjaaOpen
import Derived.Test.YteeehgicegmbjaaHead
namespace Go.Proofs.Yteeehgicegmbjaa
open Go.RowKit

theorem sumK_GS (ws : List Int) : ∀ k, k ≤ ws.length → sumK ws k = GS ws 0 k
  | 0, _ => by rw [GS_zero]; rfl
  | k + 1, hk => by rw [GS_succ (by omega), Nat.zero_add, sumK_succ, sumK_GS ws k (by omega)]
theorem sumK_nats (o : List Nat) : ∀ k, k ≤ o.length → sumK (nats o) k = offN o k
  | 0, _ => by rw [offN_zero]; rfl
  | k + 1, hk => by rw [offN_succ (by omega), sumK_succ, sumK_nats o k (by omega), nats_get]; omega
theorem rd_nil1 (w : World) : Rd w 1 (.slice none 0 0) ([] : List Int).length (it []) :=
  ⟨by simp [it], none, 0, rfl, Nat.le_refl _, Nat.zero_le _, fun h => absurd h (Nat.lt_irrefl _)⟩
theorem offN_full {o : List Nat} {n i k : Nat} (h : o.sum = n) (hi : i < o.length) (hk : k < nG o i) : offN o i + k < n := by
  have h1 := offN_le o (i := i + 1) (by omega)
  rw [offN_succ hi, h] at h1
  omega

set_option maxHeartbeats 4000000 in
theorem lawParcelsForOne (z : List Int) (v : Value) (w : World) (hv : Rd w 1 v z.length (z.map (Value.int .u8)) ∧ ∀ x ∈ z, 0 ≤ x ∧ x ≤ 255) :
    Calls Try.prog 13 #[v] w fun e w' => e = .returned (.bool true) ∧ Below w.heap.size w w' := by
  have hm := hv.1.len
  unfold maxLen at hm
  obtain ⟨_, ao, cap, rfl, _⟩ := hv.1
  have HV := Lib.hid hv
  clear hv
  by_cases hn : 1048576 < z.length
  · go_enter Try.func13, Try.ntmps13
    go_wp2
    go_ret
    exact ⟨rfl, Below.refl _ _⟩
  · go_enter Try.func13, Try.ntmps13
    go_wp2_with fail
    refine (drawParcelsFor_any z _ _ HV.out.1 HV.out.2).mono ?_
    rintro e w1 ⟨l, v1, ws, u1, rfl, hr1, hl1, hw1, _, hws1, hb1⟩
    obtain ⟨bo, bcap, rfl, _⟩ := hr1.pairs
    obtain ⟨uo, ucap, rfl, hucap1, hucap2, hur⟩ := hw1.ints
    have R1 := Lib.hid hr1
    have W1 := Lib.hid hw1
    clear hr1 hw1 hucap1 hucap2 hur
    go_wp2_with fail
    refine (implParcels_any l _ ws _ _ R1.out W1.out).mono ?_
    rintro e w2 ⟨v2, rfl, ho2, hb2⟩
    obtain ⟨vo, vcap, rfl, ⟨hvc1, hvc2⟩, hg⟩ := owns_shape_cap ho2
    have HG := Lib.hid hg
    have B2 := hb1.trans (hb2.mono hb1.size)
    have O2 := Lib.hid (Rd.of_owns ho2)
    have R2 := Lib.hid (R1.out.below hb2 (Nat.le_refl _))
    have W2 := Lib.hid (W1.out.below hb2 (Nat.le_refl _))
    clear hb1 hb2 ho2 hg R1 W1
    go_wp2_with fail
    refine (specParcels_any l _ ws _ _ R2.out W2.out).mono ?_
    rintro e w3 ⟨v3, rfl, ho3, hb3⟩
    have B3 := B2.trans (hb3.mono B2.size)
    have O3 := Lib.hid (O2.out.below hb3 (Nat.le_refl _))
    have R3 := Lib.hid (R2.out.below hb3 (Nat.le_refl _))
    have W3 := Lib.hid (W2.out.below hb3 (Nat.le_refl _))
    have V3 := Lib.hid (Rd.of_owns ho3)
    clear hb3 ho3 O2 R2 W2 B2
    have hnl := nats_len (fParcels l ws)
    by_cases hz : fParcels l ws = []
    · have hz0 : ((nats (fParcels l ws)).length : Int) = 0 := by rw [hz]; rfl
      have hzb : (((nats (fParcels l ws)).length : Int) == 0) = true := by rw [hz0]; rfl
      have HZ := Lib.hid hz
      clear hz hz0 hnl
      go_wp2_with fail
      refine (equalInts_any _ _ _ _ _ O3.out V3.out).mono ?_
      rintro e w4 ⟨rfl, hb4⟩
      rw [show decide (nats (fParcels l ws) = nats (fParcels l ws)) = true by simp]
      have B4 := B3.trans (hb4.mono B3.size)
      have O4 := Lib.hid (O3.out.below hb4 (Nat.le_refl _))
      have R4 := Lib.hid (R3.out.below hb4 (Nat.le_refl _))
      have W4 := Lib.hid (W3.out.below hb4 (Nat.le_refl _))
      clear hb4 O3 R3 W3 V3 B3
      go_wp2_with fail
      refine (specParcels_any l _ ws _ _ R4.out W4.out).mono ?_
      rintro e w5 ⟨v5, rfl, ho5, hb5⟩
      have B5 := B4.trans (hb5.mono B4.size)
      have O5 := Lib.hid (O4.out.below hb5 (Nat.le_refl _))
      have V5 := Lib.hid (Rd.of_owns ho5)
      clear hb5 ho5 O4 R4 W4 B4
      go_wp2_with fail
      refine (equalInts_any _ _ _ _ _ O5.out V5.out).mono ?_
      rintro e w6 ⟨rfl, hb6⟩
      rw [show decide (nats (fParcels l ws) = nats (fParcels l ws)) = true by simp]
      go_wp2
      go_ret
      exact ⟨rfl, B5.trans (hb6.mono B5.size)⟩
    · obtain ⟨most, PK⟩ := packed_known hz
      have hnl0 := Lib.hid hnl
      clear hnl
      have hlo := PK.len_o
      have hlo8 := PK.len8
      obtain ⟨o, ho⟩ : ∃ o, fParcels l ws = o := ⟨_, rfl⟩
      rw [ho] at O3 V3 HG hnl0 PK hlo hlo8 hvc1 ⊢
      clear ho
      have hzb : (((nats o).length : Int) == 0) = false := by rw [beq_eq_false_iff_ne]; have := hnl0.out; omega
      clear hz
      go_wp2_with fail
      refine (equalInts_any _ _ _ _ _ O3.out V3.out).mono ?_
      rintro e w4 ⟨rfl, hb4⟩
      rw [show decide (nats o = nats o) = true by simp]
      have B4 := B3.trans (hb4.mono B3.size)
      have O4 := Lib.hid (O3.out.below hb4 (Nat.le_refl _))
      have R4 := Lib.hid (R3.out.below hb4 (Nat.le_refl _))
      have W4 := Lib.hid (W3.out.below hb4 (Nat.le_refl _))
      clear hb4 O3 R3 W3 V3 B3
      have HPK := Lib.hid PK
      obtain ⟨hlw, hl5⟩ := PK.len_l
      obtain ⟨hmb1, hmb2⟩ := PK.most_bd
      have hws8 := PK.len_w
      clear PK hlo
      -- the last band
      have hnl := hnl0.out
      obtain ⟨j, hj⟩ : ∃ j, l.length = j + 1 := ⟨l.length - 1, by omega⟩
      have hwj : IntKind.i64.wrap (j : Int) = (j : Int) := IntWalk.i64_in _ (by omega)
      obtain ⟨bo', bcap', eb, hbc1, hbc2, hrb⟩ := R4.out.pairs
      obtain ⟨gb, offb, ebo, hgb, hcb⟩ := hrb (by omega)
      simp only [Value.slice.injEq, true_and] at eb
      obtain ⟨rfl, rfl⟩ := eb
      subst ebo
      have cb := (hcb j (by omega)).1
      rw [show pA l j = most by have := HPK.out.most_is; rw [← this, hj, Nat.add_sub_cancel]] at cb
      have HJ := Lib.hid hj
      clear hcb hrb
      have hsum : sumK ws ws.length = GS ws 0 ws.length := sumK_GS ws _ (Nat.le_refl _)
      have hone := HPK.out.one
      have hbo : sumK ws ws.length ≤ most ↔ o.length = 1 := by rw [hsum]; exact hone
      have KS := sum_any ws (.slice uo ws.length ucap) w4.drew (W4.out.below (Below.refl _ _).drew (Nat.le_refl _)) (by omega) (fun i hi => by have := HPK.out.wts i hi; omega)
      generalize sumK ws ws.length = s at *
      have RD : Hid (Rd w4.drew 2 (.slice (some ⟨gb, offb, none⟩) (j + 1) bcap) l.length (pr l)) := by
        have := R4.out.below ((Below.refl w4.heap.size w4).drew) (Nat.le_refl _)
        rwa [show Value.slice (some (⟨gb, offb, none⟩ : Addr)) l.length bcap = Value.slice (some ⟨gb, offb, none⟩) (j + 1) bcap by rw [hj]] at this
      have hzb2 : ((o.length : Int) == 0) = false := by rw [beq_eq_false_iff_ne]; have := HPK.out.len_o; omega
      rw [hj, hnl]
      have HBO := Lib.hid hbo
      have fin : ∀ w5, Below w4.drew.heap.size w4.drew w5 → Hid (Below w.heap.size w w5) := fun w5 h => (B4.drew).trans (h.mono B4.size)
      clear hsum hone hbo hj hnl hzb HG
      by_cases hs : s ≤ most
      · have h1 : o.length = 1 := HBO.out.1 hs
        have h1b : ((o.length : Int) == 1) = true := by simp [h1]
        clear h1
        have hi1 : (j : Int) < (j : Int) + 1 := by omega
        go_wp2
        go_still_tail 16, (by kernel_rfl)
        still_call KS
        repeat still_step
        refine wpStill_nil ?_
        change wpList _ _ _ _ _ w4.drew
        go_wp2_with fail
        refine (implParcels_any l _ [] _ _ RD.out (rd_nil1 _)).mono ?_
        rintro e w5 ⟨v5, rfl, ho5, hb5⟩
        rw [fParcels_nil] at ho5
        obtain ⟨ao5, cap5, rfl, _⟩ := owns_shape ho5
        have fin5 := fin w5 hb5
        clear ho5 hb5
        go_wp2
        go_ret
        exact ⟨ret_b (by first | (simp [nats]; done) | (simp [nats]; omega)), fin5.out⟩
      · have h1 : ¬ o.length = 1 := fun e => hs (HBO.out.2 e)
        have h1b : ((o.length : Int) == 1) = false := by rw [beq_eq_false_iff_ne]; omega
        clear h1
        have hi1 : (j : Int) < (j : Int) + 1 := by omega
        go_wp2
        go_still_tail 16, (by kernel_rfl)
        still_call KS
        repeat still_step
        refine wpStill_nil ?_
        change wpList _ _ _ _ _ w4.drew
        go_wp2_with fail
        refine (implParcels_any l _ [] _ _ RD.out (rd_nil1 _)).mono ?_
        rintro e w5 ⟨v5, rfl, ho5, hb5⟩
        rw [fParcels_nil] at ho5
        obtain ⟨ao5, cap5, rfl, _⟩ := owns_shape ho5
        have fin5 := fin w5 hb5
        clear ho5 hb5
        go_wp2
        go_ret
        exact ⟨ret_b (by first | (simp [nats]; done) | (simp [nats]; omega)), fin5.out⟩

open Go.ChangeShapes Go.WideShapes Go.ChangeAt

theorem lawOwn : ownKnob Try.prog.godebug = none := by kernel_rfl
theorem lawOut : laidOutB Try.prog = true := by kernel_rfl

set_option linter.unusedVariables false in
set_option maxRecDepth 100000 in
theorem liftedParcelsForOne (os : Os) (started : os.Started) (H : Type) (enc : TypeId × Value → H) :
    ReturnsInHanded {} Try.checked os 13 .any (Rows.fnParcelsForOneSpec.pre6 enc Try.prog Try.f13 Rows.fnParcelsForOneRow.domain false) (Rows.fnParcelsForOneSpec.post enc Try.prog Try.f13 false true false false) := by
  refine returnsInHanded_of_change (C := Try.checked) lawOwn started (by kernel_rfl) Try.func13
    (ChangeSpec.witness6 (enc := enc) (C := Try.checked) false ⟨#[], #[.slice none 0 0], []⟩ 8 (by kernel_rfl) (by kernel_rfl) (by kernel_rfl) (by kernel_rfl)) ?_
  intro W base args ds gs before hval0 hW hcnd _
  have hval : ∀ (j : Nat) t v, Try.f13.params[j]? = some t → args[j]? = some v → Value.okWide Try.prog W .any base t v := hval0
  have hW' := hW
  obtain ⟨p, q, hA0, hV, rfl, hfz, hnd⟩ := hW
  have hA : DataW.TrodAll enc Try.prog W 0 (fun _ => true) true Try.f13.params.toList args.toList ds p := hA0
  rw [Try.params13] at hA hval
  obtain ⟨v0, vs0, d0, ds0, p0, q0, hargs, rfl, rfl, h0, r0⟩ := trodAll_cons hA
  obtain ⟨rfl, rfl, rfl⟩ := trodAll_nil r0
  obtain rfl : args = #[v0] := by cases args; simp_all
  obtain ⟨rfl, rfl⟩ := trodVars_none hV
  have k0 := h0
  have lt0 : ∀ x ∈ p0, x.block < W.heap.size := by obtain ⟨m, hm⟩ := k0; exact DataW.trod_lt m _ _ _ hm
  clear hA0 hval0
  obtain ⟨z0, w0⟩ : ∃ z : List Int, Rd W 1 v0 z.length (z.map (Value.int .u8)) ∧ ∀ x ∈ z, 0 ≤ x ∧ x ≤ 255 := by
    obtain ⟨a0, n0, c0, rfl⟩ := okWide_slice Try.underlying22 (hval 0 22 v0 rfl rfl)
    obtain ⟨fuel, hf⟩ := h0
    exact open_bytes Try.underlying22 Try.underlying5 (by kernel_rfl) hf
  refine (lawParcelsForOne z0 v0 W w0).mono fun e W' ⟨he, bel⟩ => ?_
  subst he
  exact ⟨_, rfl, _, _, _, [], _, [], hW', trodAll_mk1 (shut_bool Try.underlying4 _), (trodAll_cons_mk (Below.trod lawOut (by kernel_rfl) (of_decide_eq_true (by kernel_rfl)) k0 bel lt0) trodAll_mk0), rfl, bel.frame _, fun h => by cases h⟩

theorem closedParcelsForOne : joinedFacts Try.pinned.checked.prog 13 Try.f13 Rows.fnParcelsForOneSpec Rows.fnParcelsForOneRow = true := by
  unfold joinedFacts
  rw [headEnters, headMake, headFinal]
  kernel_rfl

theorem holdsParcelsForOne : Rows.FnParcelsForOneSaid :=
  OpenClaim.holds_of_wide 13 Try.f13 rfl rfl rfl rfl rfl rfl rfl ⟨rfl, rfl, rfl, rfl, rfl⟩ rfl rfl rfl rfl rfl (by kernel_rfl) Try.func13 closedParcelsForOne
    (of_decide_eq_true (by kernel_rfl)) (by unfold Func.isWrapper; first | (rw [if_pos (by decide +kernel)]; kernel_rfl) | (rw [if_neg (by decide +kernel)]; exact ⟨rfl, rfl⟩))
    (fun os started H enc _ => liftedParcelsForOne os started H enc)

#print axioms holdsParcelsForOne

end Go.Proofs.Yteeehgicegmbjaa
