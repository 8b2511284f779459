/- Parcels are filled: the first piece of each parcel of ParcelsFor but the first one does not fit into the parcel before it, for every code. Conditions: none. -/
import Derived.Test.YteeehgicegmbjaaVP
import Derived.Test.YteeehgicegmbjaaVQ
import Derived.Test.YteeehgicegmbjaaIN
import Derived.StillTailTactics
import Derived.Test.YteeehgicegmbjaaOpen
import Derived.Test.YteeehgicegmbjaaHead
namespace Go.Proofs.Yteeehgicegmbjaa
open Go.RowKit

theorem sumK_GS (ws : List Int) : ∀ k, k ≤ ws.length → sumK ws k = GS ws 0 k
  | 0, _ => by rw [GS_zero]; rfl
  | k + 1, hk => by rw [GS_succ (by omega), Nat.zero_add, sumK_succ, sumK_GS ws k (by omega)]
theorem sumK_nats (o : List Nat) : ∀ k, k ≤ o.length → sumK (nats o) k = offN o k
  | 0, _ => by rw [offN_zero]; rfl
  | k + 1, hk => by rw [offN_succ (by omega), sumK_succ, sumK_nats o k (by omega), nats_get]; omega
theorem offN_full {o : List Nat} {n i k : Nat} (h : o.sum = n) (hi : i < o.length) (hk : k < nG o i) : offN o i + k < n := by
  have h1 := offN_le o (i := i + 1) (by omega)
  rw [offN_succ hi, h] at h1
  omega

set_option maxHeartbeats 4000000 in
theorem lawParcelsForFull (z : List Int) (v : Value) (w : World) (hv : Rd w 1 v z.length (z.map (Value.int .u8)) ∧ ∀ x ∈ z, 0 ≤ x ∧ x ≤ 255) :
    Calls Try.prog 12 #[v] w fun e w' => e = .returned (.bool true) ∧ Below w.heap.size w w' := by
  have hm := hv.1.len
  unfold maxLen at hm
  obtain ⟨_, ao, cap, rfl, _⟩ := hv.1
  have HV := Lib.hid hv
  clear hv
  by_cases hn : 1048576 < z.length
  · go_enter Try.func12, Try.ntmps12
    go_wp2
    go_ret
    exact ⟨rfl, Below.refl _ _⟩
  · go_enter Try.func12, Try.ntmps12
    go_wp2_with fail
    refine (drawParcelsFor_any z _ _ HV.out.1 HV.out.2).mono ?_
    rintro e w1 ⟨l, v1, ws, u1, rfl, hr1, hl1, hw1, _, hws1, hb1⟩
    obtain ⟨bo, bcap, rfl, _⟩ := hr1.pairs
    obtain ⟨uo, ucap, rfl, hucap1, hucap2, hur⟩ := hw1.ints
    have R1 := Lib.hid hr1
    have W1 := Lib.hid hw1
    clear hr1 hw1 hucap1 hucap2 hur
    go_wp2_with fail
    refine (implParcels_any l _ ws _ _ R1.out W1.out).mono ?_
    rintro e w2 ⟨v2, rfl, ho2, hb2⟩
    obtain ⟨vo, vcap, rfl, ⟨hvc1, hvc2⟩, hg⟩ := owns_shape_cap ho2
    have HG := Lib.hid hg
    have B2 := hb1.trans (hb2.mono hb1.size)
    have O2 := Lib.hid (Rd.of_owns ho2)
    have R2 := Lib.hid (R1.out.below hb2 (Nat.le_refl _))
    have W2 := Lib.hid (W1.out.below hb2 (Nat.le_refl _))
    clear hb1 hb2 ho2 hg R1 W1
    go_wp2_with fail
    refine (specParcels_any l _ ws _ _ R2.out W2.out).mono ?_
    rintro e w3 ⟨v3, rfl, ho3, hb3⟩
    have B3 := B2.trans (hb3.mono B2.size)
    have O3 := Lib.hid (O2.out.below hb3 (Nat.le_refl _))
    have R3 := Lib.hid (R2.out.below hb3 (Nat.le_refl _))
    have W3 := Lib.hid (W2.out.below hb3 (Nat.le_refl _))
    have V3 := Lib.hid (Rd.of_owns ho3)
    clear hb3 ho3 O2 R2 W2 B2
    have hnl := nats_len (fParcels l ws)
    by_cases hz : fParcels l ws = []
    · have hz0 : ((nats (fParcels l ws)).length : Int) = 0 := by rw [hz]; rfl
      have hzb : (((nats (fParcels l ws)).length : Int) == 0) = true := by rw [hz0]; rfl
      have HZ := Lib.hid hz
      clear hz hz0 hnl
      go_wp2_with fail
      refine (equalInts_any _ _ _ _ _ O3.out V3.out).mono ?_
      rintro e w4 ⟨rfl, hb4⟩
      rw [show decide (nats (fParcels l ws) = nats (fParcels l ws)) = true by simp]
      have B4 := B3.trans (hb4.mono B3.size)
      have O4 := Lib.hid (O3.out.below hb4 (Nat.le_refl _))
      have R4 := Lib.hid (R3.out.below hb4 (Nat.le_refl _))
      have W4 := Lib.hid (W3.out.below hb4 (Nat.le_refl _))
      clear hb4 O3 R3 W3 V3 B3
      go_wp2_with fail
      refine (specParcels_any l _ ws _ _ R4.out W4.out).mono ?_
      rintro e w5 ⟨v5, rfl, ho5, hb5⟩
      have B5 := B4.trans (hb5.mono B4.size)
      have O5 := Lib.hid (O4.out.below hb5 (Nat.le_refl _))
      have V5 := Lib.hid (Rd.of_owns ho5)
      clear hb5 ho5 O4 R4 W4 B4
      go_wp2_with fail
      refine (equalInts_any _ _ _ _ _ O5.out V5.out).mono ?_
      rintro e w6 ⟨rfl, hb6⟩
      rw [show decide (nats (fParcels l ws) = nats (fParcels l ws)) = true by simp]
      go_wp2
      go_ret
      exact ⟨rfl, B5.trans (hb6.mono B5.size)⟩
    · obtain ⟨most, PK⟩ := packed_known hz
      have hnl0 := Lib.hid hnl
      clear hnl
      have hlo := PK.len_o
      have hlo8 := PK.len8
      obtain ⟨o, ho⟩ : ∃ o, fParcels l ws = o := ⟨_, rfl⟩
      rw [ho] at O3 V3 HG hnl0 PK hlo hlo8 hvc1 ⊢
      clear ho
      have hzb : (((nats o).length : Int) == 0) = false := by rw [beq_eq_false_iff_ne]; have := hnl0.out; omega
      clear hz
      go_wp2_with fail
      refine (equalInts_any _ _ _ _ _ O3.out V3.out).mono ?_
      rintro e w4 ⟨rfl, hb4⟩
      rw [show decide (nats o = nats o) = true by simp]
      have B4 := B3.trans (hb4.mono B3.size)
      have O4 := Lib.hid (O3.out.below hb4 (Nat.le_refl _))
      have R4 := Lib.hid (R3.out.below hb4 (Nat.le_refl _))
      have W4 := Lib.hid (W3.out.below hb4 (Nat.le_refl _))
      clear hb4 O3 R3 W3 V3 B3
      have HPK := Lib.hid PK
      obtain ⟨hlw, hl5⟩ := PK.len_l
      obtain ⟨hmb1, hmb2⟩ := PK.most_bd
      have hws8 := PK.len_w
      clear PK hlo
      -- the last band
      have hnl := hnl0.out
      obtain ⟨j, hj⟩ : ∃ j, l.length = j + 1 := ⟨l.length - 1, by omega⟩
      have hwj : IntKind.i64.wrap (j : Int) = (j : Int) := IntWalk.i64_in _ (by omega)
      obtain ⟨bo', bcap', eb, hbc1, hbc2, hrb⟩ := R4.out.pairs
      obtain ⟨gb, offb, ebo, hgb, hcb⟩ := hrb (by omega)
      simp only [Value.slice.injEq, true_and] at eb
      obtain ⟨rfl, rfl⟩ := eb
      subst ebo
      have cb := (hcb j (by omega)).1
      rw [show pA l j = most by have := HPK.out.most_is; rw [← this, hj, Nat.add_sub_cancel]] at cb
      have HJ := Lib.hid hj
      clear hcb hrb
      obtain ⟨vg, rfl, hvg⟩ := HG.out (by rw [hnl]; exact HPK.out.len_o)
      have hzb2 : ((o.length : Int) == 0) = false := by rw [beq_eq_false_iff_ne]; have := HPK.out.len_o; omega
      rw [hnl] at O4 hvc1
      rw [hj, hnl]
      have KS := sum_any (nats o) (.slice (some ⟨vg, 0, none⟩) (nats o).length vcap) w4 (by rw [nats_len]; exact O4.out) (by rw [nats_len]; omega) (fun i hi => by rw [nats_get]; have := nG_le o i; rw [HPK.out.cnt] at this; omega)
      have hend : (offN o o.length : Int) = ws.length := by rw [offN_all, HPK.out.cnt]
      rw [nats_len, sumK_nats o _ (Nat.le_refl _), hend] at KS
      have hneq : ((ws.length : Int) != (ws.length : Int)) = false := by simp
      clear hj hzb hnl HG hend
      have HO : Hid (∀ k, k < o.length → w4.cell? ⟨vg, k, none⟩ = some (.int .i64 (nG o k : Int))) := by
        intro k hk
        obtain ⟨ao, cap, e1, _, _, hr⟩ := (show Rd w4 1 (.slice (some ⟨vg, 0, none⟩) (nats o).length vcap) (nats o).length (it (nats o)) by rw [nats_len]; exact O4.out).ints
        obtain ⟨b, off, e2, _, hc⟩ := hr (by rw [nats_len]; omega)
        simp only [Value.slice.injEq, true_and] at e1
        obtain ⟨rfl, rfl⟩ := e1
        simp only [Option.some.injEq, Addr.mk.injEq, and_true] at e2
        obtain ⟨rfl, rfl⟩ := e2
        have := hc k (by rw [nats_len]; omega)
        rwa [nats_get, Nat.zero_add] at this
      have HW : Hid (0 < ws.length → ∃ b off, uo = some ⟨b, off, none⟩ ∧ ∀ k, k < ws.length → w4.cell? ⟨b, off + k, none⟩ = some (.int .i64 (iG ws k))) := by
        intro h
        obtain ⟨ao, cap, e1, _, _, hr⟩ := W4.out.ints
        obtain ⟨b, off, e2, _, hc⟩ := hr h
        simp only [Value.slice.injEq, true_and] at e1
        obtain ⟨rfl, rfl⟩ := e1
        exact ⟨b, off, e2, hc⟩
      go_wp2_with (go_at_call 31; refine KS.mono ?_; rintro e w5 ⟨rfl, hw5⟩; subst hw5)
      go_loop [7, 8] (fun at_ i_ => ∃ i : Nat, i < o.length ∧ i_ = .int .i64 i ∧ at_ = .int .i64 (offN o i)) (fun _ i_ => o.length - (intOf i_).toNat)
      case atStart => exact ⟨0, HPK.out.len_o, rfl, by rw [offN_zero]; rfl⟩
      case round =>
        obtain ⟨i, hi, rfl, rfl⟩ := hrel
        have hole := offN_le o (i := i) (by omega)
        rw [HPK.out.cnt] at hole
        by_cases hlt : i + 1 < o.length
        · have hoc := HO.out i hi
          have hfl := HPK.out.full i hlt
          have hpos := HPK.out.pos i hi
          have hpos2 := HPK.out.pos (i + 1) hlt
          have hnx := offN_succ hi
          have hfull : Hid (∀ k, k < nG o i → offN o i + k < ws.length) := fun k hk => offN_full HPK.out.cnt hi hk
          have hat2 : offN o i + nG o i < ws.length := by
            have := offN_full HPK.out.cnt hlt (k := 0) (by omega)
            omega
          rw [hnx] at hfl
          have HNX := Lib.hid hnx
          have HFL := Lib.hid hfl
          have hlt2 : (i : Int) + 1 < o.length := by omega
          clear hnx hfl hole
          go_wp2
          go_loop [7, 9, 10] (fun at_ n_ k_ => ∃ k : Nat, k ≤ nG o i ∧ k_ = .int .i64 k ∧ at_ = .int .i64 ((offN o i + k : Nat) : Int) ∧ n_ = .int .i64 (GS ws (offN o i) k)) (fun _ _ k_ => nG o i - (intOf k_).toNat)
          case atStart => exact ⟨0, Nat.zero_le _, rfl, rfl, by rw [GS_zero]⟩
          case round =>
            obtain ⟨k, hk, rfl, rfl, rfl⟩ := hrel
            have hgb := GS_bd HPK.out.wts (offN o i) k (by omega)
            obtain ⟨hgb1, hgb2⟩ := hgb
            by_cases hk2 : k < nG o i
            · have hat := hfull.out k hk2
              obtain ⟨bw, offw, rfl, hcw⟩ := HW.out (by omega)
              have cw := hcw _ hat
              have hwt := HPK.out.wts _ hat
              obtain ⟨hwt1, hwt2⟩ := hwt
              have hgs := Lib.hid (GS_succ hat)
              clear hcw
              generalize iG ws (offN o i + k) = x at *
              go_wp2
              go_round
              case rel => exact ⟨k + 1, by omega, by go_num, by go_num, by rw [hgs.out]⟩
              case measure => simp [intOf]; omega
            · obtain rfl : k = nG o i := by omega
              obtain ⟨bw, offw, rfl, hcw⟩ := HW.out (by omega)
              have cw := hcw _ hat2
              have hwt := HPK.out.wts _ hat2
              obtain ⟨hwt1, hwt2⟩ := hwt
              have hfl := HFL.out
              clear hcw
              generalize iG ws (offN o i + nG o i) = x at *
              go_wp2
              go_round
              case rel => exact ⟨i + 1, by omega, by go_num, by rw [HNX.out]⟩
              case measure => simp [intOf]; omega
        · have hlt2 : (o.length : Int) ≤ (i : Int) + 1 := by omega
          go_wp2
          go_ret
          exact ⟨rfl, B4⟩

open Go.ChangeShapes Go.WideShapes Go.ChangeAt

theorem lawOwn : ownKnob Try.prog.godebug = none := by kernel_rfl
theorem lawOut : laidOutB Try.prog = true := by kernel_rfl

set_option linter.unusedVariables false in
set_option maxRecDepth 100000 in
theorem liftedParcelsForFull (os : Os) (started : os.Started) (H : Type) (enc : TypeId × Value → H) :
    ReturnsInHanded {} Try.checked os 12 .any (Rows.fnParcelsForFullSpec.pre6 enc Try.prog Try.f12 Rows.fnParcelsForFullRow.domain false) (Rows.fnParcelsForFullSpec.post enc Try.prog Try.f12 false true false false) := by
  refine returnsInHanded_of_change (C := Try.checked) lawOwn started (by kernel_rfl) Try.func12
    (ChangeSpec.witness6 (enc := enc) (C := Try.checked) false ⟨#[], #[.slice none 0 0], []⟩ 8 (by kernel_rfl) (by kernel_rfl) (by kernel_rfl) (by kernel_rfl)) ?_
  intro W base args ds gs before hval0 hW hcnd _
  have hval : ∀ (j : Nat) t v, Try.f12.params[j]? = some t → args[j]? = some v → Value.okWide Try.prog W .any base t v := hval0
  have hW' := hW
  obtain ⟨p, q, hA0, hV, rfl, hfz, hnd⟩ := hW
  have hA : DataW.TrodAll enc Try.prog W 0 (fun _ => true) true Try.f12.params.toList args.toList ds p := hA0
  rw [Try.params12] at hA hval
  obtain ⟨v0, vs0, d0, ds0, p0, q0, hargs, rfl, rfl, h0, r0⟩ := trodAll_cons hA
  obtain ⟨rfl, rfl, rfl⟩ := trodAll_nil r0
  obtain rfl : args = #[v0] := by cases args; simp_all
  obtain ⟨rfl, rfl⟩ := trodVars_none hV
  have k0 := h0
  have lt0 : ∀ x ∈ p0, x.block < W.heap.size := by obtain ⟨m, hm⟩ := k0; exact DataW.trod_lt m _ _ _ hm
  clear hA0 hval0
  obtain ⟨z0, w0⟩ : ∃ z : List Int, Rd W 1 v0 z.length (z.map (Value.int .u8)) ∧ ∀ x ∈ z, 0 ≤ x ∧ x ≤ 255 := by
    obtain ⟨a0, n0, c0, rfl⟩ := okWide_slice Try.underlying22 (hval 0 22 v0 rfl rfl)
    obtain ⟨fuel, hf⟩ := h0
    exact open_bytes Try.underlying22 Try.underlying5 (by kernel_rfl) hf
  refine (lawParcelsForFull z0 v0 W w0).mono fun e W' ⟨he, bel⟩ => ?_
  subst he
  exact ⟨_, rfl, _, _, _, [], _, [], hW', trodAll_mk1 (shut_bool Try.underlying4 _), (trodAll_cons_mk (Below.trod lawOut (by kernel_rfl) (of_decide_eq_true (by kernel_rfl)) k0 bel lt0) trodAll_mk0), rfl, bel.frame _, fun h => by cases h⟩

theorem closedParcelsForFull : joinedFacts Try.pinned.checked.prog 12 Try.f12 Rows.fnParcelsForFullSpec Rows.fnParcelsForFullRow = true := by
  unfold joinedFacts
  rw [headEnters, headMake, headFinal]
  kernel_rfl

theorem holdsParcelsForFull : Rows.FnParcelsForFullSaid :=
  OpenClaim.holds_of_wide 12 Try.f12 rfl rfl rfl rfl rfl rfl rfl ⟨rfl, rfl, rfl, rfl, rfl⟩ rfl rfl rfl rfl rfl (by kernel_rfl) Try.func12 closedParcelsForFull
    (of_decide_eq_true (by kernel_rfl)) (by unfold Func.isWrapper; first | (rw [if_pos (by decide +kernel)]; kernel_rfl) | (rw [if_neg (by decide +kernel)]; exact ⟨rfl, rfl⟩))
    (fun os started H enc _ => liftedParcelsForFull os started H enc)

#print axioms holdsParcelsForFull

end Go.Proofs.Yteeehgicegmbjaa
