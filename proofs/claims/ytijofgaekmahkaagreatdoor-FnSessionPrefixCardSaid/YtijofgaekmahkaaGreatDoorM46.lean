/- Joined texts: Walks: the output for the first lines is the beginning of the output for all. The law SessionPrefix, as a tied card, out of its walk. Conditions: none. -/
import Derived.Test.YtijofgaekmahkaaGreatDoorM40
import Derived.Test.YtijofgaekmahkaaGreatDoorM43
import Derived.Test.YtijofgaekmahkaaGreatDoorTie
import Derived.Test.YtijofgaekmahkaaGreatDoorCards
import Derived.SevenTiedAt
namespace Go.Proofs.YtijofgaekmahkaaGreatDoor
open Go.RowKit
set_option maxRecDepth 100000 in
set_option maxHeartbeats 8000000 in
theorem lawSessionPrefix (z : List Int) (v : Value) (w : World) (hv : Rd w 1 v z.length (z.map (Value.int .u8))) (hz : ∀ x ∈ z, 0 ≤ x ∧ x ≤ 255) (hE : EnvB w.heap.size w) :
   Calls Tryz.prog 3 #[v] w fun e w' => e = .returned (.bool true) ∧ Below w.heap.size w w' := by
 have HV := Lib.hid hv
 have HE := Lib.hid hE
 have hm := hv.len
 unfold maxLen at hm
 obtain ⟨_, bo, bcap, rfl, _⟩ := hv
 clear hE
 by_cases hbig : 1048576 < z.length
 · go_enter Tryz.func3, Tryz.ntmps3
   go_wp2
   go_ret
   exact ⟨rfl, Below.refl _ _⟩
 · go_enter Tryz.func3, Tryz.ntmps3
   go_wp2_with fail
   refine (DrawSession_any z _ w HV.out hz).mono ?_
   rintro e w1 ⟨ls, u, rfl, o1, sh, l2, l12, b1⟩
   have hm1 : ∀ x ∈ ls, x.length ≤ 2000000 := fun x hx => Nat.le_trans (sh x hx) (by decide)
   have HM := Lib.hid hm1
   obtain ⟨ao, cap, hu, hg1⟩ := owns_shape o1
   obtain ⟨g, rfl, _⟩ := hg1 (by omega)
   subst hu
   have O1 := Lib.hid o1
   have B1 := Lib.hid b1
   have L2 := Lib.hid l2
   clear o1 b1 sh hm1 hg1 l2 hbig hm hz
   obtain ⟨R, hR⟩ : ∃ R, R = runS ls := ⟨_, rfl⟩
   have hne : (R != R) = false := by simp
   have hRs : (⟨R.toArray⟩ : ByteArray).size = R.length := by simp [ByteArray.size]
   have hRl : R.length ≤ 50000 := by rw [hR]; exact runS_len ls
   have HR := Lib.hid hR
   clear hR
   go_wp2_with fail
   refine (implRun_any ls _ _ (Rd.of_owns O1.out) HM.out ((HE.out.below B1.out).upTo B1.out.size)).mono ?_
   rintro e w2 ⟨rfl, x2⟩
   rw [← HR.out]
   have B2 := Lib.hid (B1.out.trans (x2.mono B1.out.size))
   have O2 := Lib.hid (ownsRow_below O1.out x2 (Nat.le_refl _))
   clear x2 O1 B1
   go_wp2_with fail
   refine (specRun_any ls _ _ (Rd.of_owns O2.out) HM.out).mono ?_
   rintro e w3 ⟨rfl, x3⟩
   rw [← HR.out]
   have B3 := Lib.hid (B2.out.trans (x3.mono B2.out.size))
   have O3 := Lib.hid (ownsRow_below O2.out x3 (Nat.le_refl _))
   clear x3 O2 B2
   go_wp2
   go_loopw [5] (fun i wr => ∃ k : Nat, k ≤ ls.length ∧ i = .int .i64 k ∧ Hid (Below w.heap.size w wr) ∧ Hid (wr.ownsRow w.heap.size 9 1 (.slice (some ⟨g, 0, none⟩) ls.length cap) ls.length (sw ls))) (fun i _ => ls.length - (intOf i).toNat)
   case atStart => exact ⟨0, Nat.zero_le _, rfl, B3, O3⟩
   case round =>
     clear O3 B3
     obtain ⟨k, hk, rfl, hb, ho⟩ := hrel
     by_cases hlt : k < ls.length
     · obtain ⟨t, ht⟩ := runS_take ls k (by omega)
       rw [← HR.out] at ht
       have rd := rd_take (Rd.of_owns ho.out) k (by omega)
       have hml : ∀ x ∈ ls.take k, x.length ≤ 2000000 := fun x hx => HM.out x (List.mem_of_mem_take hx)
       obtain ⟨X, hX⟩ : ∃ X, X = runS (ls.take k) := ⟨_, rfl⟩
       rw [← hX] at ht
       have hXs : (⟨X.toArray⟩ : ByteArray).size = X.length := by simp [ByteArray.size]
       have hXl : X.length ≤ R.length := by rw [ht, List.length_append]; omega
       have hXe : ((⟨R.toArray⟩ : ByteArray).extract 0 X.length) = ⟨X.toArray⟩ := by rw [ext_take, List.drop_zero, ht, List.take_left']; rfl
       have hXd : decide ((R.length : Int) < (X.length : Int)) = false := by simp; omega
       have hXd2 : decide (R.length < X.length) = false := by simp; omega
       have hXn : (X != X) = false := by simp
       have hcap := ho.out
       have hkc : k ≤ cap := by
         obtain ⟨_, _, e9, h9, _⟩ := owns_shape_cap hcap
         cases e9
         omega
       have HX := Lib.hid hX
       have HL := Lib.hid hml
       have RD := Lib.hid rd
       clear hX ht hml rd hcap
       go_wp2_with fail
       refine (implRun_any (ls.take k) _ _ RD.out HL.out ((HE.out.below hb.out).upTo hb.out.size)).mono ?_
       rintro e w5 ⟨rfl, x5⟩
       rw [← HX.out]
       have B5 := Lib.hid (hb.out.trans (x5.mono hb.out.size))
       have O5 := Lib.hid (ownsRow_below ho.out x5 (Nat.le_refl _))
       clear x5 hb ho RD
       go_wp2
       go_roundw
       case rel => exact ⟨k + 1, by omega, by go_num, B5, owns_base O5.out (Nat.le_refl _)⟩
       case measure => simp [intOf]; omega
     · go_wp2
       go_ret
       exact ⟨rfl, hb.out⟩
end Go.Proofs.YtijofgaekmahkaaGreatDoor

namespace Go.Proofs.YtijofgaekmahkaaGreatDoor
open Go.ChangeShapes Go.WideShapes Go.ChangeAt Go.RowKit
set_option linter.unusedVariables false in
set_option maxRecDepth 100000 in
theorem liftedSessionPrefix (os : Os) (started : os.Started) (H : Type) (enc : TypeId × Value → H) :
   ReturnsInHanded {} Tryz.checked os 3 .any (fun w args => (Rows.fnSessionPrefixSpec.pre enc Tryz.prog Tryz.f3 [] false w args ∧ laidMetH Tryz.prog laidP w) ∧ sizedMet enc Tryz.prog Tryz.f3 (OpenSpec.ofChange Rows.fnSessionPrefixSpec) false w args)
     (Rows.fnSessionPrefixSpec.post enc Tryz.prog Tryz.f3 false true false false) := by
 refine handed_shaped (C := Tryz.checked) (X := fun w _ => laidMetH Tryz.prog laidP w) (fun _ _ _ hh h => h.of_heap hh) lawOwnP started (by kernel_rfl) Tryz.func3
   (ChangeSpec.witness_shaped (enc := enc) (C := Tryz.checked) (os := os) (X := fun w _ => laidMetH Tryz.prog laidP w) false (worldP os) #[.slice none 0 0] 8 (worldP_os os) (laidShapedP os _) (by kernel_rfl) (by kernel_rfl) (by kernel_rfl) (laidMetP os _)) ?_
 intro W base args ds gs before hval0 hW hL hsh
 have hval : ∀ (j : Nat) t v, Tryz.f3.params[j]? = some t → args[j]? = some v → Value.okWide Tryz.prog W .any base t v := hval0
 have hW' := hW
 obtain ⟨p, q, hA0, hV0, rfl, hfz, hnd⟩ := hW
 have hA : DataW.TrodAll enc Tryz.prog W 0 (fun _ => true) true Tryz.f3.params.toList args.toList ds p := hA0
 have hV : DataW.TrodVars enc Tryz.prog W (fun _ => true) ["loop.example/promotionengine/impl.anySpan", "loop.example/promotionengine/impl.kindNames"] gs q := hV0
 obtain ⟨_, _, _, _, g1, _, _, _, _, _, g2, _, rfl, _⟩ := trodVars_two hV
 rw [Tryz.params3] at hA hval
 obtain ⟨v0, vs0, d0, ds0, p0, q0, hargs, rfl, rfl, h0, r0⟩ := trodAll_cons hA
 obtain ⟨rfl, rfl, rfl⟩ := trodAll_nil r0
 obtain rfl : args = #[v0] := by cases args; simp_all
 have k0 := h0
 have lt0 : ∀ x ∈ p0, x.block < W.heap.size := by obtain ⟨m, hm⟩ := k0; exact DataW.trod_lt m _ _ _ hm
 clear hA0 hval0
 have hE : EnvB W.heap.size W := envP_of_laid hL hsh
 obtain ⟨z0, w0⟩ : ∃ z : List Int, Rd W 1 v0 z.length (z.map (Value.int .u8)) ∧ ∀ x ∈ z, 0 ≤ x ∧ x ≤ 255 := by
   obtain ⟨a0, n0, c0, rfl⟩ := okWide_slice Tryz.underlying22 (hval 0 22 v0 rfl rfl)
   obtain ⟨fuel, hf⟩ := h0
   exact open_bytes Tryz.underlying22 Tryz.underlying5 (by kernel_rfl) hf
 refine (lawSessionPrefix z0 v0 W w0.1 w0.2 hE).mono fun e W' ⟨he, bel⟩ => ?_
 subst he
 exact ⟨_, rfl, _, _, _, [], _, q, hW', trodAll_mk1 (shut_bool Tryz.underlying4 _), (trodAll_cons_mk (Below.trod lawOutP (by kernel_rfl) (of_decide_eq_true (by kernel_rfl)) k0 bel lt0) trodAll_mk0), Below.trodVars lawOutP bel (by kernel_rfl) hV, bel.frame _, fun h => by cases h⟩
theorem saidSessionPrefix : Rows.FnSessionPrefixSaid :=
 OpenClaim.holds_of_wide 3 Tryz.f3 rfl rfl rfl rfl rfl rfl rfl ⟨rfl, rfl, rfl, rfl, rfl⟩ rfl rfl rfl rfl rfl (by kernel_rfl) Tryz.func3 (by kernel_rfl)
   (of_decide_eq_true (by kernel_rfl)) (by unfold Func.isWrapper; first | (rw [if_pos (by decide +kernel)]; kernel_rfl) | (rw [if_neg (by decide +kernel)]; exact ⟨rfl, rfl⟩))
   (fun os started H enc _ => liftedSessionPrefix os started H enc)
theorem holdsSessionPrefix : Rows.FnSessionPrefixCardSaid :=
 Claim7.holds_tied_plain_at .later [] [.data, .data, .data, .data, .sentinel, .sentinel, .data, .mapped, .pinned] true (true, "3af949e2787502fc77dadc90f35829bce54f71479ef125a3a7feb8fcb0d553a5") true
   saidSessionPrefix (fun _ h => by cases h) (by kernel_rfl) (fun _ h => by cases h) fnSessionPrefix_row_tie rfl ⟨rfl, rfl⟩ (by kernel_rfl) rfl
   (fun f fn hf hfn => by
     obtain rfl : f = 3 := Option.some.inj ((show Tryz.prog.funcNamed "loop.example/promotionengine/laws.FnSessionPrefix" = some 3 by kernel_rfl).symm.trans hf) |>.symm
     obtain rfl : fn = Tryz.f3 := (Option.some.inj (Tryz.func3.symm.trans hfn)).symm
     exact ⟨by kernel_rfl, fun j t ht => by
       rw [Tryz.params3] at ht
       have hm : t ∈ [22] := by simpa using Array.mem_of_getElem? ht
       have hall : ([22].all fun u => !Tryz.prog.wantsStandIn u) = true := by kernel_rfl
       exact (show Tryz.prog.wantsStandIn t = false by simpa using List.all_eq_true.1 hall t hm)⟩)
   (by kernel_rfl)
#print axioms holdsSessionPrefix
end Go.Proofs.YtijofgaekmahkaaGreatDoor
