/- Joined texts: Walks: what is added can be taken. The law SessionAddTake, as a tied card, out of its walk. Conditions: none. -/
import Derived.Test.YtijofgaekmahkaaGreatDoorM40
import Derived.Test.YtijofgaekmahkaaGreatDoorM43
import Derived.Test.YtijofgaekmahkaaGreatDoorTie
import Derived.Test.YtijofgaekmahkaaGreatDoorCards
import Derived.SevenTiedAt
namespace Go.Proofs.YtijofgaekmahkaaGreatDoor
open Go.RowKit
set_option maxRecDepth 100000 in
set_option maxHeartbeats 8000000 in
theorem lawSessionAddTake (z : List Int) (v : Value) (w : World) (hv : Rd w 1 v z.length (z.map (Value.int .u8))) (hz : ∀ x ∈ z, 0 ≤ x ∧ x ≤ 255) (hE : EnvB w.heap.size w) :
   Calls Tryz.prog 7 #[v] w fun e w' => e = .returned (.bool true) ∧ Below w.heap.size w w' := by
 have HV := Lib.hid hv
 have HE := Lib.hid hE
 have hm := hv.len
 unfold maxLen at hm
 obtain ⟨_, bo, bcap, rfl, _⟩ := hv
 clear hE
 by_cases hbig : 1048576 < z.length
 · go_enter Tryz.func7, Tryz.ntmps7
   go_wp2
   go_ret
   exact ⟨rfl, Below.refl _ _⟩
 · go_enter Tryz.func7, Tryz.ntmps7
   go_wp2_with fail
   refine (DrawSession_any z _ w HV.out hz).mono ?_
   rintro e w1 ⟨ls, u, rfl, o1, sh, l2, l12, b1⟩
   have hm1 : ∀ x ∈ ls, x.length ≤ 2000000 := fun x hx => Nat.le_trans (sh x hx) (by decide)
   have HM := Lib.hid hm1
   obtain ⟨ao, cap, hu, hg1⟩ := owns_shape o1
   obtain ⟨g, rfl, _⟩ := hg1 (by omega)
   subst hu
   have O1 := Lib.hid o1
   have B1 := Lib.hid b1
   have L2 := Lib.hid l2
   clear o1 b1 sh hm1 hg1 l2 hbig hm hz
   obtain ⟨R, hR⟩ : ∃ R, R = runS ls := ⟨_, rfl⟩
   have hne : (R != R) = false := by simp
   have hRs : (⟨R.toArray⟩ : ByteArray).size = R.length := by simp [ByteArray.size]
   have hRl : R.length ≤ 50000 := by rw [hR]; exact runS_len ls
   have HR := Lib.hid hR
   clear hR
   go_wp2_with fail
   refine (implRun_any ls _ _ (Rd.of_owns O1.out) HM.out ((HE.out.below B1.out).upTo B1.out.size)).mono ?_
   rintro e w2 ⟨rfl, x2⟩
   rw [← HR.out]
   have B2 := Lib.hid (B1.out.trans (x2.mono B1.out.size))
   have O2 := Lib.hid (ownsRow_below O1.out x2 (Nat.le_refl _))
   clear x2 O1 B1
   go_wp2_with fail
   refine (specRun_any ls _ _ (Rd.of_owns O2.out) HM.out).mono ?_
   rintro e w3 ⟨rfl, x3⟩
   rw [← HR.out]
   have B3 := Lib.hid (B2.out.trans (x3.mono B2.out.size))
   have O3 := Lib.hid (ownsRow_below O2.out x3 (Nat.le_refl _))
   clear x3 O2 B2
   obtain ⟨x, Y, ha, hb, hy3, hcase⟩ := ask_take ls (by omega)
   rw [← HR.out] at ha hb
   obtain ⟨A, hA⟩ : ∃ A, A = R ++ x := ⟨_, rfl⟩
   obtain ⟨B, hB⟩ : ∃ B, B = R ++ Y := ⟨_, rfl⟩
   rw [← hA] at ha
   rw [← hB] at hb
   have hAl : A.length ≤ 50000 := by rw [← ha]; exact runS_len _
   have hBl : B.length ≤ 50000 := by rw [← hb]; exact runS_len _
   have EA := Lib.hid ha
   have EB := Lib.hid hb
   have hAs : (⟨A.toArray⟩ : ByteArray).size = A.length := by simp [ByteArray.size]
   have hBs : (⟨B.toArray⟩ : ByteArray).size = B.length := by simp [ByteArray.size]
   have hxs : (⟨x.toArray⟩ : ByteArray).size = x.length := by simp [ByteArray.size]
   have hYs : (⟨Y.toArray⟩ : ByteArray).size = Y.length := by simp [ByteArray.size]
   have qA : R.length ≤ A.length := by rw [hA, List.length_append]; omega
   have qB : R.length + 3 ≤ B.length := by rw [hB, List.length_append]; omega
   have qL : Y.length ≤ 50000 := by have := congrArg List.length hB; rw [List.length_append] at this; omega
   have eA : (⟨A.toArray⟩ : ByteArray).extract R.length A.length = ⟨x.toArray⟩ := by rw [ext_take, List.take_length, hA, List.drop_left']; rfl
   have eB : (⟨B.toArray⟩ : ByteArray).extract R.length B.length = ⟨Y.toArray⟩ := by rw [ext_take, List.take_length, hB, List.drop_left']; rfl
   have eT : (⟨Y.toArray⟩ : ByteArray).extract 0 3 = ⟨(Y.take 3).toArray⟩ := by rw [ext_take, List.drop_zero]
   clear ha hb hA hB
   have hgt : decide ((20 : Int) < (ls.length : Int) + 3) = false := by simp; omega
   have hwr : IntKind.i64.wrap ((ls.length : Int) + 3) = (ls.length : Int) + 3 := IntWalk.i64_in _ (by omega)
   have hwR : IntKind.i64.wrap ((R.length : Int) + 3) = (R.length : Int) + 3 := IntWalk.i64_in _ (by omega)
   have q1 : decide ((A.length : Int) < (R.length : Int)) = false := by simp; omega
   have q2 : decide ((B.length : Int) < (R.length : Int) + 3) = false := by simp; omega
   have q5 : decide (A.length < R.length) = false := by simp; omega
   have q6 : decide (B.length < R.length + 3) = false := by simp; omega
   have q9 : (R.length : Int) ≤ (B.length : Int) := by omega
   have q10 : (3 : Int) ≤ (Y.length : Int) := by omega
   obtain ⟨Z, hZ⟩ : ∃ Z, Z = Y.take 3 := ⟨_, rfl⟩
   rw [← hZ] at eT hcase
   have HC := Lib.hid hcase
   clear hcase hZ
   obtain ⟨i0, hi, hz0, hz1, hz2⟩ := info_parts infoStr
   have HI := Lib.hid hi
   have HZ0 := Lib.hid hz0
   have HZ1 := Lib.hid hz1
   have HZ2 := Lib.hid hz2
   clear hi hz0 hz1 hz2
   have hg3 : g < w3.heap.size := (O3.out.lt g rfl).2
   have P0 := Lib.hid (B3.out.alloc B3.out.size (.cells #[] 9))
   have N0 : Hid ((w3.alloc (.cells #[] 9)).ownsRow w3.heap.size 9 1 (.slice (some ⟨w3.heap.size, 0, none⟩) 0 0) 0 []) := World.ownsRow_made w3 #[] 0 (Nat.le_refl _) (by simp) (by simp)
   have O4 := Lib.hid (O3.out.alloc (.cells #[] 9))
   have G3 := Lib.hid (And.intro hg3 B3.out.size)
   clear hg3
   go_wp2_with (first | (at_builtin; refine app_copyS rfl (.tmp 30) (.tmp 31) 23 rfl w3.heap.size w.heap.size 9 i0 _ Tryz.underlying23 HI.out HZ0.out HZ1.out HZ2.out rfl _ rfl N0.out ls _ rfl O4.out (by omega) (by simp) ?_; intro v5 w5 ho5 hg5; have N5 := Lib.hid ho5; have P5 := Lib.hid (P0.out.grown hg5 P0.out.size (fun k hk => Nat.le_trans G3.out.2 (N0.out.lt k hk).1)); have O5 := Lib.hid (owns_old O4.out hg5 (fun k hk => Nat.lt_of_lt_of_le G3.out.1 (N0.out.lt k hk).1)); have z5 := Lib.hid (Nat.le_trans (Nat.le_of_lt (Nat.lt_succ_self w3.heap.size)) (Nat.le_trans (Nat.le_of_eq (World.size_alloc _ _).symm) hg5.size)); clear ho5 hg5) | (at_builtin; refine app_strs rfl (.tmp 32) (.tmp 33) 23 rfl w3.heap.size 9 9 i0 _ Tryz.underlying23 HI.out HZ0.out HZ1.out HZ2.out rfl _ ls [kTotal] _ rfl 1 rfl N5.out rfl (by omega) (by simp) z5.out ?_; intro v6 w6 ho6 hg6))
   have P6 := Lib.hid ((P5.out.alloc P5.out.size _).grown hg6 (P5.out.alloc P5.out.size _).size (fun k hk => Nat.le_trans B3.out.size (N5.out.lt k hk).1))
   have O6 := Lib.hid (owns_old (O5.out.alloc _) hg6 (fun k hk => Nat.lt_of_lt_of_le G3.out.1 (N5.out.lt k hk).1))
   have R6 := Lib.hid (Rd.of_owns ho6)
   have HA := Lib.hid (mem_app HM.out (t := [kTotal]) (by decide))
   have z6 : w3.heap.size ≤ w6.heap.size := Nat.le_trans z5.out (Nat.le_trans (by simp) hg6.size)
   clear ho6 hg6 N5 P5 O5 z5 N0 O4 P0
   go_wp2_with fail
   refine (implRun_any (ls ++ [kTotal]) _ _ R6.out HA.out ((HE.out.below P6.out).upTo P6.out.size)).mono ?_
   rintro e w7 ⟨rfl, x7⟩
   rw [EA.out]
   have P7 := Lib.hid (P6.out.trans (x7.mono P6.out.size))
   have O7 := Lib.hid (ownsRow_below O6.out x7 (Nat.le_refl _))
   have z7 : w3.heap.size ≤ w7.heap.size := Nat.le_trans z6 x7.size
   clear x7 P6 O6 R6 HA z6
   have P8 := Lib.hid (P7.out.alloc P7.out.size (.cells #[] 9))
   have N8 : Hid ((w7.alloc (.cells #[] 9)).ownsRow w7.heap.size 9 1 (.slice (some ⟨w7.heap.size, 0, none⟩) 0 0) 0 []) := World.ownsRow_made w7 #[] 0 (Nat.le_refl _) (by simp) (by simp)
   have O8 := Lib.hid (O7.out.alloc (.cells #[] 9))
   go_wp2_with (first | (at_builtin; refine app_copyS rfl (.tmp 36) (.tmp 37) 23 rfl w7.heap.size w.heap.size 9 i0 _ Tryz.underlying23 HI.out HZ0.out HZ1.out HZ2.out rfl _ rfl N8.out ls _ rfl O8.out (by omega) (by simp) ?_; intro v9 w9 ho9 hg9; have N9 := Lib.hid ho9; have P9 := Lib.hid (P8.out.grown hg9 P8.out.size (fun k hk => Nat.le_trans P7.out.size (N8.out.lt k hk).1)); have z9 := Lib.hid (Nat.le_trans (Nat.le_of_lt (Nat.lt_succ_self w7.heap.size)) (Nat.le_trans (Nat.le_of_eq (World.size_alloc _ _).symm) hg9.size)); clear ho9 hg9) | (at_builtin; refine app_strs rfl (.tmp 38) (.tmp 39) 23 rfl w7.heap.size 9 9 i0 _ Tryz.underlying23 HI.out HZ0.out HZ1.out HZ2.out rfl _ ls [kAdd31, kTake31, kTotal] _ rfl 3 rfl N9.out rfl (by omega) (by simp) z9.out ?_; intro v10 w10 ho10 hg10))
   have P10 := Lib.hid ((P9.out.alloc P9.out.size _).grown hg10 (P9.out.alloc P9.out.size _).size (fun k hk => Nat.le_trans P7.out.size (N9.out.lt k hk).1))
   have R10 := Lib.hid (Rd.of_owns ho10)
   have HB := Lib.hid (mem_app HM.out (t := [kAdd31, kTake31, kTotal]) (by decide))
   clear ho10 hg10 N9 P9 z9 N8 P8 O7 O8
   go_wp2_with fail
   refine (implRun_any (ls ++ [kAdd31, kTake31, kTotal]) _ _ R10.out HB.out ((HE.out.below P10.out).upTo P10.out.size)).mono ?_
   rintro e w11 ⟨rfl, x11⟩
   rw [EB.out]
   have P11 := Lib.hid (P10.out.trans (x11.mono P10.out.size))
   clear x11 P10 R10 HB P7 z7
   by_cases hno : Z = [110, 111, 10]
   · have e1 : (Z == [110, 111, 10]) = true := beq_iff_eq.2 hno
     clear hno
     go_wp2
     go_ret
     exact ⟨rfl, P11.out⟩
   · have e1 : (Z == [110, 111, 10]) = false := beq_eq_false_iff_ne.2 hno
     obtain ⟨t, hY, ht0⟩ : ∃ t, Y = t ++ x ∧ 0 < t.length := by
       rcases HC.out with h | h
       · exact absurd h hno
       · exact h.2
     have qY : x.length < Y.length := by rw [hY, List.length_append]; omega
     have eY : (⟨Y.toArray⟩ : ByteArray).extract (Y.length - x.length) Y.length = ⟨x.toArray⟩ := by rw [ext_take, List.take_length, hY, List.length_append, Nat.add_sub_cancel, List.drop_left']; rfl
     have q3 : decide ((x.length : Int) < (Y.length : Int)) = true := by simp; omega
     have q4 : decide (x.length < Y.length) = true := by simp; omega
     have qw : IntKind.i64.wrap ((Y.length : Int) - (x.length : Int)) = (Y.length : Int) - (x.length : Int) := IntWalk.i64_in _ (by omega)
     have qn : ((Y.length : Int) - (x.length : Int)).toNat = Y.length - x.length := by omega
     have qx : (x == x) = true := by simp
     have q7 : (0 : Int) ≤ (Y.length : Int) - (x.length : Int) := by omega
     have q8 : (Y.length : Int) - (x.length : Int) ≤ (Y.length : Int) := by omega
     clear hno hY ht0
     go_wp2
     go_ret
     exact ⟨rfl, P11.out⟩
end Go.Proofs.YtijofgaekmahkaaGreatDoor

namespace Go.Proofs.YtijofgaekmahkaaGreatDoor
open Go.ChangeShapes Go.WideShapes Go.ChangeAt Go.RowKit
set_option linter.unusedVariables false in
set_option maxRecDepth 100000 in
theorem liftedSessionAddTake (os : Os) (started : os.Started) (H : Type) (enc : TypeId × Value → H) :
   ReturnsInHanded {} Tryz.checked os 7 .any (fun w args => (Rows.fnSessionAddTakeSpec.pre enc Tryz.prog Tryz.f7 [] false w args ∧ laidMetH Tryz.prog laidP w) ∧ sizedMet enc Tryz.prog Tryz.f7 (OpenSpec.ofChange Rows.fnSessionAddTakeSpec) false w args)
     (Rows.fnSessionAddTakeSpec.post enc Tryz.prog Tryz.f7 false true false false) := by
 refine handed_shaped (C := Tryz.checked) (X := fun w _ => laidMetH Tryz.prog laidP w) (fun _ _ _ hh h => h.of_heap hh) lawOwnP started (by kernel_rfl) Tryz.func7
   (ChangeSpec.witness_shaped (enc := enc) (C := Tryz.checked) (os := os) (X := fun w _ => laidMetH Tryz.prog laidP w) false (worldP os) #[.slice none 0 0] 8 (worldP_os os) (laidShapedP os _) (by kernel_rfl) (by kernel_rfl) (by kernel_rfl) (laidMetP os _)) ?_
 intro W base args ds gs before hval0 hW hL hsh
 have hval : ∀ (j : Nat) t v, Tryz.f7.params[j]? = some t → args[j]? = some v → Value.okWide Tryz.prog W .any base t v := hval0
 have hW' := hW
 obtain ⟨p, q, hA0, hV0, rfl, hfz, hnd⟩ := hW
 have hA : DataW.TrodAll enc Tryz.prog W 0 (fun _ => true) true Tryz.f7.params.toList args.toList ds p := hA0
 have hV : DataW.TrodVars enc Tryz.prog W (fun _ => true) ["loop.example/promotionengine/impl.anySpan", "loop.example/promotionengine/impl.kindNames"] gs q := hV0
 obtain ⟨_, _, _, _, g1, _, _, _, _, _, g2, _, rfl, _⟩ := trodVars_two hV
 rw [Tryz.params7] at hA hval
 obtain ⟨v0, vs0, d0, ds0, p0, q0, hargs, rfl, rfl, h0, r0⟩ := trodAll_cons hA
 obtain ⟨rfl, rfl, rfl⟩ := trodAll_nil r0
 obtain rfl : args = #[v0] := by cases args; simp_all
 have k0 := h0
 have lt0 : ∀ x ∈ p0, x.block < W.heap.size := by obtain ⟨m, hm⟩ := k0; exact DataW.trod_lt m _ _ _ hm
 clear hA0 hval0
 have hE : EnvB W.heap.size W := envP_of_laid hL hsh
 obtain ⟨z0, w0⟩ : ∃ z : List Int, Rd W 1 v0 z.length (z.map (Value.int .u8)) ∧ ∀ x ∈ z, 0 ≤ x ∧ x ≤ 255 := by
   obtain ⟨a0, n0, c0, rfl⟩ := okWide_slice Tryz.underlying22 (hval 0 22 v0 rfl rfl)
   obtain ⟨fuel, hf⟩ := h0
   exact open_bytes Tryz.underlying22 Tryz.underlying5 (by kernel_rfl) hf
 refine (lawSessionAddTake z0 v0 W w0.1 w0.2 hE).mono fun e W' ⟨he, bel⟩ => ?_
 subst he
 exact ⟨_, rfl, _, _, _, [], _, q, hW', trodAll_mk1 (shut_bool Tryz.underlying4 _), (trodAll_cons_mk (Below.trod lawOutP (by kernel_rfl) (of_decide_eq_true (by kernel_rfl)) k0 bel lt0) trodAll_mk0), Below.trodVars lawOutP bel (by kernel_rfl) hV, bel.frame _, fun h => by cases h⟩
theorem saidSessionAddTake : Rows.FnSessionAddTakeSaid :=
 OpenClaim.holds_of_wide 7 Tryz.f7 rfl rfl rfl rfl rfl rfl rfl ⟨rfl, rfl, rfl, rfl, rfl⟩ rfl rfl rfl rfl rfl (by kernel_rfl) Tryz.func7 (by kernel_rfl)
   (of_decide_eq_true (by kernel_rfl)) (by unfold Func.isWrapper; first | (rw [if_pos (by decide +kernel)]; kernel_rfl) | (rw [if_neg (by decide +kernel)]; exact ⟨rfl, rfl⟩))
   (fun os started H enc _ => liftedSessionAddTake os started H enc)
theorem holdsSessionAddTake : Rows.FnSessionAddTakeCardSaid :=
 Claim7.holds_tied_plain_at .later [] [.data, .data, .data, .data, .sentinel, .sentinel, .data, .mapped, .pinned] true (true, "3af949e2787502fc77dadc90f35829bce54f71479ef125a3a7feb8fcb0d553a5") true
   saidSessionAddTake (fun _ h => by cases h) (by kernel_rfl) (fun _ h => by cases h) fnSessionAddTake_row_tie rfl ⟨rfl, rfl⟩ (by kernel_rfl) rfl
   (fun f fn hf hfn => by
     obtain rfl : f = 7 := Option.some.inj ((show Tryz.prog.funcNamed "loop.example/promotionengine/laws.FnSessionAddTake" = some 7 by kernel_rfl).symm.trans hf) |>.symm
     obtain rfl : fn = Tryz.f7 := (Option.some.inj (Tryz.func7.symm.trans hfn)).symm
     exact ⟨by kernel_rfl, fun j t ht => by
       rw [Tryz.params7] at ht
       have hm : t ∈ [22] := by simpa using Array.mem_of_getElem? ht
       have hall : ([22].all fun u => !Tryz.prog.wantsStandIn u) = true := by kernel_rfl
       exact (show Tryz.prog.wantsStandIn t = false by simpa using List.all_eq_true.1 hall t hm)⟩)
   (by kernel_rfl)
#print axioms holdsSessionAddTake
end Go.Proofs.YtijofgaekmahkaaGreatDoor
