/- Joined texts: Walks: the drawn lines of a session. Plain laws: two sessions with known output; the text of a rule without limits is that rule's alone; no program. Walks: what the laws of sessions share. Conditions: none. -/
import Derived.Test.YtijofgaekmahkaaGreatDoorM39
import Derived.Test.YtijofgaekmahkaaGreatDoorM42
namespace Go.Proofs.YtijofgaekmahkaaGreatDoor
open Go.RowKit
def sesA : List (List UInt8) := [[97, 100, 100, 32, 48, 32, 51], [97, 100, 100, 32, 50, 32, 50]]
def sesB : List (List UInt8) := [[97, 100, 100, 32, 49, 32, 50], [97, 100, 100, 32, 51, 32, 53], [97, 100, 100, 32, 48, 32, 49], [116, 97, 107, 101, 32, 48, 32, 49], [116, 97, 107, 101, 32, 50, 32, 50], [116, 111, 116, 97, 108], [112, 97, 121], [110, 111, 116, 101, 115], [99, 111, 110, 102, 108, 105, 99, 116, 115], [99, 111, 117, 112, 111, 110, 32, 49], [99, 111, 117, 112, 111, 110, 32, 50], [99, 111, 117, 112, 111, 110, 32, 57], [99, 111, 117, 112, 111, 110, 32, 120], [97, 100, 100, 32, 52, 32, 49], [116, 97, 107, 101, 32, 49, 32, 57], [], [104, 101, 108, 112], [114, 117, 108, 101, 32, 120]]
theorem sesB_len {x : List UInt8} (h : x ∈ sesB) : x.length ≤ 10 := by
 have : sesB.all (fun x => decide (x.length ≤ 10)) = true := by decide
 simpa using List.all_eq_true.1 this x h
theorem sesA_len {x : List UInt8} (h : x ∈ sesA) : x.length ≤ 10 := by
 have : sesA.all (fun x => decide (x.length ≤ 10)) = true := by decide
 simpa using List.all_eq_true.1 this x h
def shS (m : Nat) (l : List (List UInt8)) : Prop := ∀ x ∈ l, x.length ≤ m
theorem shS_snoc {m : Nat} {l : List (List UInt8)} {x : List UInt8} (h : shS m l) (hx : x.length ≤ m) : shS m (l ++ [x]) := fun y hy => by
 rcases List.mem_append.1 hy with h1 | h1
 · exact h y h1
 · rw [List.mem_singleton] at h1; subst h1; exact hx
theorem shS_set {m n : Nat} {l : List (List UInt8)} {k : Nat} {x : List UInt8} (h : shS m l) (hm : m ≤ n) (hx : x.length ≤ n) : shS n (l.set k x) := fun y hy => by
 rcases List.mem_or_eq_of_mem_set hy with h1 | h1
 · exact Nat.le_trans (h y h1) hm
 · subst h1; exact hx
theorem shS_get {m : Nat} {l : List (List UInt8)} {k : Nat} (h : shS m l) : (l.getD k []).length ≤ m := by
 rw [List.getD_eq_getElem?_getD]
 cases hk : l[k]? with
 | none => simp
 | some x => exact h x (List.mem_of_getElem? hk)
theorem swS_set (l : List (List UInt8)) (k : Nat) (x : List UInt8) : (sw l).set k (.string ⟨x.toArray⟩) = sw (l.set k x) := by unfold sw; rw [List.map_set]
def DrawS (w : World) (e : Ending) (w' : World) : Prop :=
 ∃ (l : List (List UInt8)) (v : Value), e = .returned v ∧ w'.ownsRow w.heap.size 9 1 v l.length (sw l) ∧ shS 1000010 l ∧ 2 ≤ l.length ∧ l.length ≤ 12 ∧ Below w.heap.size w w'
set_option maxRecDepth 100000 in
set_option maxHeartbeats 8000000 in
theorem DrawSession_any (z : List Int) (v : Value) (w : World) (hv : Rd w 1 v z.length (z.map (Value.int .u8))) (hz : ∀ x ∈ z, 0 ≤ x ∧ x ≤ 255) :
   Calls Tryz.prog 9 #[v] w (DrawS w) := by
 obtain ⟨i0, hi, hz0, hz1, hz2⟩ := info_parts infoStr
 have HI := Lib.hid hi
 have HZ0 := Lib.hid hz0
 have HZ1 := Lib.hid hz1
 have HZ2 := Lib.hid hz2
 clear hi hz0 hz1 hz2
 have HV := Lib.hid hv
 obtain ⟨_, ao, cap, rfl, _⟩ := hv
 go_enter Tryz.func9, Tryz.ntmps9
 go_wp2_with fail
 refine (newReader_any z _ _ HV.out hz).mono ?_
 rintro e w1 ⟨rfl, hr, B1⟩
 have L1 := hr.lt
 have s0 := (RdrStep.refl hr).alloc (.cells (sw sesA).toArray 9)
 have o0 : (w1.alloc (.cells (sw sesA).toArray 9)).ownsRow w1.heap.size 9 1 (.slice (some ⟨w1.heap.size, 0, none⟩) 2 2) 2 (sw sesA) := owns_lit w1 sesA 9 w1.heap.size (Nat.le_refl _) (by decide)
 have O0 := Lib.hid o0
 clear o0
 go_wp2_with fail
 have c1 := one_lit w.heap.size _ [5, 8, 10, 3, 0] (w1.alloc (.cells (sw sesA).toArray 9)) 3 s0.1 (by omega) (by simp) (by simp)
 rw [World.size_alloc] at c1
 refine c1.mono ?_
 clear c1
 rintro e w2 ⟨n0, hn0, rfl, s2⟩
 have hn1 : 0 ≤ n0 ∧ n0 ≤ 10 := (by decide : ∀ x ∈ ([5, 8, 10, 3, 0] : List Int), 0 ≤ x ∧ x ≤ 10) n0 hn0
 obtain ⟨n, rfl⟩ := Int.eq_ofNat_of_zero_le hn1.1
 have hn2 : n ≤ 10 := by omega
 have O2 := Lib.hid (owns_step O0.out s2 L1)
 have S2 := s0.trans s2
 clear hn0 hn1 O0 s2 s0
 go_wp2
 go_loopw [4, 5] (fun lv nn wr => ∃ (m : Nat) (l : List (List UInt8)), nn = .int .i64 m ∧ l.length + m ≤ 12 ∧ 2 ≤ l.length ∧ Hid (wr.ownsRow w1.heap.size 9 1 lv l.length (sw l)) ∧ Hid (shS 1005 l) ∧ RdrStep w1 w.heap.size (2 + 20 * (12 - m)) wr) (fun _ nn _ => (intOf nn).toNat)
 case atStart => exact ⟨n, sesA, rfl, by simp [sesA]; omega, by decide, O2, (fun x hx => Nat.le_trans (sesA_len hx) (by decide)), S2.mono (by omega)⟩
 case round =>
   clear O2 S2
   obtain ⟨m, l, rfl, hlm, hl2, hown, hsh, hs⟩ := hrel
   by_cases hm : 0 < m
   · go_wp2_with fail
     refine (pick_any w.heap.size _ _ _ hs.1 (by omega)).mono ?_
     rintro e w3 ⟨p, rfl, p0, p1, s3⟩
     have O3 := Lib.hid (owns_step hown.out s3 L1)
     have S3 := hs.trans s3
     clear hown s3 hs p0 p1
     by_cases hp : p = 0
     · subst hp
       go_wp2_with fail
       refine (pick_any w.heap.size _ _ _ S3.1 (by omega)).mono ?_
       rintro e w4 ⟨q, rfl, q0, q1, s4⟩
       have q2 := q1 (by omega)
       have O4 := Lib.hid (owns_step O3.out s4 L1)
       have S4 := S3.trans s4
       have hw : IntKind.i64.wrap (1 + q) = 1 + q := IntWalk.i64_in _ (by omega)
       clear O3 S3 s4 q1
       go_wp2_with fail
       refine (someRule_any w.heap.size _ _ _ S4.1 (by omega)).mono ?_
       rintro e w5 ⟨r, rv, rfl, o5, l5, s5⟩
       have O5 := Lib.hid (owns_step O4.out s5 L1)
       have S5 := S4.trans s5
       have R5 := Lib.hid (Rd.of_owns o5)
       clear O4 S4 s5 o5 hw
       go_wp2_with fail
       refine (specFormat_any r rv _ R5.out).mono ?_
       rintro e w6 ⟨rfl, b6⟩
       have O6 := Lib.hid (ownsRow_below O5.out b6 (Nat.le_refl _))
       have S6 := S5.below b6 S5.1.lt S5.size
       have hl := fmtR_len r
       obtain ⟨T, hT⟩ : ∃ T, T = fmtR r := ⟨_, rfl⟩
       rw [← hT] at hl ⊢
       clear hT O5 S5 b6 R5
       have ha : ∀ W : World, (Op.stringOp .add (⟨#[114, 117, 108, 101, 32]⟩ : ByteArray) ⟨T.toArray⟩).run Tryz.prog W = .ok (.string ⟨([114, 117, 108, 101, 32] ++ T).toArray⟩) W := fun W => add_run W [114, 117, 108, 101, 32] T (by simp; omega)
       obtain ⟨X, hX⟩ : ∃ X, X = ([114, 117, 108, 101, 32] ++ T : List UInt8) := ⟨_, rfl⟩
       rw [← hX] at ha
       have hXl : X.length ≤ 1005 := by rw [hX]; simp; omega
       clear hX
       go_wp2_with (at_builtin; refine app_strs rfl (.tmp 27) (.tmp 35) 23 rfl w1.heap.size 9 9 i0 _ Tryz.underlying23 HI.out HZ0.out HZ1.out HZ2.out rfl _ l [X] _ rfl 1 rfl O6.out rfl (by omega) (by simp) S6.size ?_; intro v7 w7 ho7 hg7)
       have S7 := (S6.alloc _).own L1 hg7 (fun k hk => (O6.out.lt k hk).1)
       have O7 := Lib.hid ho7
       have SH := Lib.hid (shS_snoc hsh.out hXl)
       clear ho7 hg7 O6 S6 ha
       go_wp2
       go_roundw
       case rel => exact ⟨m - 1, l ++ [X], by go_num, by rw [List.length_append, List.length_singleton]; omega, by rw [List.length_append]; omega, O7, SH, S7.mono (by omega)⟩
       case measure => simp [intOf]; omega
     · have hp1 : (p == 0) = false := by rw [beq_eq_false_iff_ne]; exact hp
       have L3 := S3.1.lt
       go_wp2_with fail
       refine (of_gen w.heap.size _ w3.heap.size sesB _ (S3.alloc (.cells (sw sesB).toArray 9)).1 (by omega) (by omega) (by simp) (by decide) (by decide) (lit_texts w3 sesB 9)).mono ?_
       rintro e w5 ⟨X, hX, rfl, s5⟩
       have hXl := Nat.le_trans (sesB_len hX) (by decide : 10 ≤ 1005)
       have S5 := (S3.alloc (.cells (sw sesB).toArray 9)).trans s5
       have O5 := Lib.hid (owns_step (O3.out.alloc (.cells (sw sesB).toArray 9)) s5 L1)
       clear hX O3 S3 s5
       go_wp2_with (at_builtin; refine app_strs rfl (.tmp 19) (.tmp 23) 23 rfl w1.heap.size 9 9 i0 _ Tryz.underlying23 HI.out HZ0.out HZ1.out HZ2.out rfl _ l [X] _ rfl 1 rfl O5.out rfl (by omega) (by simp) S5.size ?_; intro v7 w7 ho7 hg7)
       have S7 := (S5.alloc _).own L1 hg7 (fun k hk => (O5.out.lt k hk).1)
       have O7 := Lib.hid ho7
       have SH := Lib.hid (shS_snoc hsh.out hXl)
       clear ho7 hg7 O5 S5
       go_wp2
       go_roundw
       case rel => exact ⟨m - 1, l ++ [X], by go_num, by rw [List.length_append, List.length_singleton]; omega, by rw [List.length_append]; omega, O7, SH, S7.mono (by omega)⟩
       case measure => simp [intOf]; omega
   · obtain rfl : m = 0 := by omega
     have fin : ∀ (W : World) (k : Nat), RdrStep w1 w.heap.size k W → Below w.heap.size w W := fun W k st =>
       B1.grown st.grown B1.size (fun k hk => by simp only [Option.some.injEq] at hk; omega)
     have FIN := Lib.hid fin
     clear fin
     obtain ⟨ao2, c2, hlv, hg2⟩ := owns_shape hown.out
     obtain ⟨g, rfl, _⟩ := hg2 (by omega)
     subst hlv
     clear hg2
     go_wp2_with fail
     refine (pick_any w.heap.size _ _ _ hs.1 (by omega)).mono ?_
     rintro e w3 ⟨p, rfl, p0, p1, s3⟩
     have O3 := Lib.hid (owns_step hown.out s3 L1)
     have S3 := hs.trans s3
     clear hown s3 hs p0 p1
     by_cases hp : p = 0
     · subst hp
       go_wp2_with fail
       refine (pick_any w.heap.size _ _ _ S3.1 (by omega)).mono ?_
       rintro e w4 ⟨q, rfl, q0, q1, s4⟩
       have q2 := q1 (by omega)
       obtain ⟨k, rfl⟩ := Int.eq_ofNat_of_zero_le q0
       have hk : k < l.length := by omega
       have O4 := Lib.hid (owns_step O3.out s4 L1)
       have S4 := S3.trans s4
       clear O3 S3 s4 q1 q0 q2
       have c0 := O4.out.cellAt k (by omega)
       have f0 := O4.out.frozenAt (j := k)
       obtain ⟨T, hT⟩ : ∃ T, T = l.getD k [] := ⟨_, rfl⟩
       have hTl : T.length ≤ 1005 := by rw [hT]; exact shS_get hsh.out
       have hT2 : (sw l)[k]? = some (.string ⟨T.toArray⟩) := by rw [hT, sw, List.getElem?_map, List.getElem?_eq_getElem hk, List.getD_eq_getElem?_getD, List.getElem?_eq_getElem hk]; rfl
       rw [hT2] at c0
       have HT2 := Lib.hid hT2
       clear hT hT2
       go_wp2_with fail
       refine (mutate_any w.heap.size _ T _ S4.1 (by omega) (by omega)).mono ?_
       rintro e w5 ⟨X, rfl, hX, s5⟩
       have O5 := Lib.hid (owns_step O4.out s5 L1)
       have S5 := S4.trans s5
       have f5 := O5.out.frozenAt (j := k)
       have c5 := O5.out.cellAt k (by omega)
       rw [HT2.out] at c5
       clear c0 f0 O4 S4 s5
       go_wp2
       go_ret
       have O6 := O5.out.stored k (.string ⟨X.toArray⟩)
       rw [swS_set] at O6
       refine ⟨l.set k X, _, rfl, ?_, shS_set hsh.out (by decide) hX, by rw [List.length_set]; exact hl2, by rw [List.length_set]; omega, FIN.out _ _ (S5.own L1 O6.2 (fun k hk => ?_))⟩
       · rw [List.length_set]; exact owns_base O6.1 B1.size
       · exact (O5.out.lt k hk).1
     · have hp1 : (p == 0) = false := by rw [beq_eq_false_iff_ne]; exact hp
       go_wp2
       go_ret
       exact ⟨l, _, rfl, owns_base O3.out B1.size, fun x hx => Nat.le_trans (hsh.out x hx) (by decide), hl2, by omega, FIN.out _ _ S3⟩
end Go.Proofs.YtijofgaekmahkaaGreatDoor

namespace Go.Proofs.YtijofgaekmahkaaGreatDoor
open Go.RowKit
theorem dec_1 : dec 1 = [49] := dec_one 1 (by omega)
theorem dec_7 : dec 7 = [55] := dec_one 7 (by omega)
theorem dec_0 : dec 0 = [48] := dec_one 0 (by omega)
theorem dec_250 : dec 250 = [50, 53, 48] := by
 show Go.Lib.decDigits 250 = _
 rw [Go.Lib.decDigits, dif_neg (by decide), Go.Lib.decDigits, dif_neg (by decide), Go.Lib.decDigits, dif_pos (by decide)]
 rfl
theorem dec_500 : dec 500 = [53, 48, 48] := by
 show Go.Lib.decDigits 500 = _
 rw [Go.Lib.decDigits, dif_neg (by decide), Go.Lib.decDigits, dif_neg (by decide), Go.Lib.decDigits, dif_pos (by decide)]
 rfl
theorem dec_1300 : dec 1300 = [49, 51, 48, 48] := by
 show Go.Lib.decDigits 1300 = _
 rw [Go.Lib.decDigits, dif_neg (by decide), Go.Lib.decDigits, dif_neg (by decide), Go.Lib.decDigits, dif_neg (by decide), Go.Lib.decDigits, dif_pos (by decide)]
 rfl
def kAdd03 : List UInt8 := [97, 100, 100, 32, 48, 32, 51]
def kAdd21 : List UInt8 := [97, 100, 100, 32, 50, 32, 49]
def kAdd12 : List UInt8 := [97, 100, 100, 32, 49, 32, 50]
def kRule0 : List UInt8 := [114, 117, 108, 101, 32, 55, 32, 108, 101, 118, 101, 108, 32, 48, 32, 114, 97, 110, 107, 32, 48, 32, 112, 101, 114, 109, 105, 108, 108, 101, 32, 53, 48, 48]
def kRule1 : List UInt8 := [114, 117, 108, 101, 32, 55, 32, 108, 101, 118, 101, 108, 32, 49, 32, 114, 97, 110, 107, 32, 48, 32, 112, 101, 114, 109, 105, 108, 108, 101, 32, 53, 48, 48]
set_option maxRecDepth 100000 in
theorem cmd_add03 : cmdT kAdd03 = .add 0 3 := by
 unfold cmdT
 rw [if_pos (by decide), show lnW kAdd03 1 = [UInt8.ofNat (48 + 0)] by decide, show lnW kAdd03 2 = [UInt8.ofNat (48 + 3)] by decide, pI_one 0 (by omega), pI_one 3 (by omega)]
 rfl
set_option maxRecDepth 100000 in
theorem cmd_add21 : cmdT kAdd21 = .add 2 1 := by
 unfold cmdT
 rw [if_pos (by decide), show lnW kAdd21 1 = [UInt8.ofNat (48 + 2)] by decide, show lnW kAdd21 2 = [UInt8.ofNat (48 + 1)] by decide, pI_one 2 (by omega), pI_one 1 (by omega)]
 rfl
set_option maxRecDepth 100000 in
theorem cmd_add12 : cmdT kAdd12 = .add 1 2 := by
 unfold cmdT
 rw [if_pos (by decide), show lnW kAdd12 1 = [UInt8.ofNat (48 + 1)] by decide, show lnW kAdd12 2 = [UInt8.ofNat (48 + 2)] by decide, pI_one 1 (by omega), pI_one 2 (by omega)]
 rfl
set_option maxRecDepth 100000 in
theorem cmd_rule0 : cmdT kRule0 = .rule (kRule0.drop 5) := by unfold cmdT; rw [if_neg (by decide), if_neg (by decide), if_pos (by decide)]
set_option maxRecDepth 100000 in
theorem cmd_rule1 : cmdT kRule1 = .rule (kRule1.drop 5) := by unfold cmdT; rw [if_neg (by decide), if_neg (by decide), if_pos (by decide)]
theorem kindW_in {a b : Int} (ha : a = 1 ∨ a = 2 ∨ a = 3) (hb : b = 1 ∨ b = 2 ∨ b = 3) (h : kindW a = kindW b) : a = b := by
 rcases ha with rfl | rfl | rfl <;> rcases hb with rfl | rfl | rfl <;> first | rfl | (exfalso; revert h; decide)
theorem dec_in {a b : Int} (ha : 0 ≤ a) (ha2 : a ≤ 1000000) (hb : 0 ≤ b) (hb2 : b ≤ 1000000) (h : dec a = dec b) : a = b := by
 obtain ⟨m, rfl⟩ := Int.eq_ofNat_of_zero_le ha
 obtain ⟨n, rfl⟩ := Int.eq_ofNat_of_zero_le hb
 unfold dec at h
 rw [Int.toNat_natCast, Int.toNat_natCast] at h
 have h1 := dvl_digits 7 m (by omega)
 have h2 := dvl_digits 7 n (by omega)
 rw [h] at h1
 omega
theorem all3_of {c : List (Int × Int)} (hl : c.length = 3) (h : cntW c 3 = []) : c = [(0, 1000000), (0, 1000000), (0, 1000000)] := by
 match c, hl with
 | [x, y, z], _ =>
   simp only [cntW, List.append_eq_nil_iff, List.nil_append] at h
   obtain ⟨⟨h0, h1⟩, h2⟩ := h
   have g : ∀ {a b : Int} {t u v : List UInt8}, (if allSp a b then ([] : List (List UInt8)) else [t, u, v]) = [] → a = 0 ∧ b = 1000000 := fun {a b t u v} h => by
     by_cases k : allSp a b = true
     · unfold allSp at k; rw [Bool.and_eq_true, decide_eq_true_eq, decide_eq_true_eq] at k; exact k
     · rw [if_neg k] at h; cases h
   have e0 := g h0
   have e1 := g h1
   have e2 := g h2
   simp only [pA, pB, List.getD_cons_zero, List.getD_cons_succ] at e0 e1 e2
   rw [← Prod.eta x, ← Prod.eta y, ← Prod.eta z, e0.1, e0.2, e1.1, e1.2, e2.1, e2.2]
theorem text_head {r q : Rl} (hr : okRu r = true) (hq : okRu q = true) (hp : q = plainR q) (h : textR r = textR q) : r = q := by
 have hw : dec r.num :: restW r = dec q.num :: restW q := by rw [← spl_text r, ← spl_text q, h]
 have hqr : restW q = headW q := by
   rw [hp]
   simp [restW, plainR, headW, grpW, capW, totW, cntW, cpnW, allSp, pA, pB]
 rw [hqr] at hw
 have h1 := (List.cons.inj hw).1
 have h2 := (List.cons.inj hw).2
 have hlen := congrArg List.length h2
 unfold restW at h2
 rw [List.append_assoc, List.append_assoc, List.append_assoc, List.append_assoc] at h2
 have h3 := List.append_inj (t₁ := grpW r ++ (capW r ++ (totW r ++ (cntW r.counts r.counts.length ++ cpnW r)))) (t₂ := []) (s₁ := headW r) (s₂ := headW q) (by rw [List.append_nil]; exact h2) (by simp [headW])
 obtain ⟨h4, h5⟩ := h3
 simp only [List.append_eq_nil_iff] at h5
 obtain ⟨g1, g2, g3, g4, g5⟩ := h5
 simp only [headW, List.cons.injEq, true_and, and_true] at h4
 obtain ⟨a1, a2, a3, a4⟩ := h4
 have o1 := okRu_num hr
 have o2 := okRu_num hq
 have c3 := o1.2.2.2.2.2.2.1
 rw [c3] at g4
 have e1 := dec_in (by omega) (by omega) (by omega) (by omega) h1
 have e2 := dec_in (by omega) (by omega) (by omega) (by omega) a1
 have e3 := dec_in (by omega) (by omega) (by omega) (by omega) a2
 have e4 := kindW_in o1.2.2.2.2.2.2.2.2.2.1 o2.2.2.2.2.2.2.2.2.2.1 a3
 have e5 := dec_in (by omega) (by omega) (by omega) (by omega) a4
 have f1 : r.group = -1 := by
   by_cases k : r.group = -1
   · exact k
   · unfold grpW at g1; rw [if_neg k] at g1; cases g1
 have f2 : r.cap = 0 := by
   by_cases k : r.cap = 0
   · exact k
   · unfold capW at g2; rw [if_neg k] at g2; cases g2
 have f3 : r.lo = 0 ∧ r.hi = 1000000 := by
   by_cases k : allSp r.lo r.hi = true
   · unfold allSp at k; rw [Bool.and_eq_true, decide_eq_true_eq, decide_eq_true_eq] at k; exact k
   · unfold totW at g3; rw [if_neg k] at g3; cases g3
 have f4 := all3_of c3 g4
 have f5 : r.coupon = 0 := by
   by_cases k : r.coupon = 0
   · exact k
   · unfold cpnW at g5; rw [if_neg k] at g5; cases g5
 rw [hp]
 show (⟨r.num, r.lvl, r.rank, r.group, r.kind, r.value, r.cap, r.lo, r.hi, r.counts, r.coupon⟩ : Rl) = ⟨q.num, q.lvl, q.rank, -1, q.kind, q.value, 0, 0, 1000000, [(0, 1000000), (0, 1000000), (0, 1000000)], 0⟩
 rw [e1, e2, e3, e4, e5, f1, f2, f3.1, f3.2, f4, f5]
theorem parseT_head {q : Rl} (hq : okRu q = true) (hp : q = plainR q) : parseT (textR q) = some q := by
 have hx : ∃ r, okRu r = true ∧ textR r = textR q := ⟨q, hq, rfl⟩
 unfold parseT
 rw [dif_pos hx]
 exact congrArg some (text_head hx.choose_spec.1 hq hp hx.choose_spec.2)
def r70 : Rl := ⟨7, 0, 0, -1, 1, 500, 0, 0, 1000000, [(0, 1000000), (0, 1000000), (0, 1000000)], 0⟩
def r71 : Rl := ⟨7, 1, 0, -1, 1, 500, 0, 0, 1000000, [(0, 1000000), (0, 1000000), (0, 1000000)], 0⟩
theorem text70 : kRule0.drop 5 = textR r70 := by
 have hw : restW r70 = headW r70 := by simp [restW, r70, headW, grpW, capW, totW, cntW, cpnW, allSp, pA, pB]
 unfold textR
 rw [hw]
 show _ = dec 7 ++ tl [wLevel, dec 0, wRank, dec 0, kindW 1, dec 500]
 rw [dec_7, dec_0, dec_500]
 decide
theorem text71 : kRule1.drop 5 = textR r71 := by
 have hw : restW r71 = headW r71 := by simp [restW, r71, headW, grpW, capW, totW, cntW, cpnW, allSp, pA, pB]
 unfold textR
 rw [hw]
 show _ = dec 7 ++ tl [wLevel, dec 1, wRank, dec 0, kindW 1, dec 500]
 rw [dec_7, dec_1, dec_0, dec_500]
 decide
theorem parse70 : parseT (kRule0.drop 5) = some r70 := by rw [text70]; exact parseT_head (by decide) rfl
theorem parse71 : parseT (kRule1.drop 5) = some r71 := by rw [text71]; exact parseT_head (by decide) rfl
theorem run_next {ls : List (List UInt8)} {x o out : List UInt8} {S S' : Se} (h : stS ls = S ∧ runS ls = out) (hl : ls.length < 20) (hs : stepS S x = (S', o)) : stS (ls ++ [x]) = S' ∧ runS (ls ++ [x]) = out ++ (o ++ [10]) := by
 have := run_snoc ls x hl
 rw [h.1, h.2, hs] at this
 exact this
theorem run_none : stS [] = ⟨[], [], []⟩ ∧ runS [] = [] := ⟨rfl, rfl⟩
theorem step_add {S : Se} {x : List UInt8} {a n : Int} (hc : cmdT x = .add a n) (h : addOk shopS S.c a n = true) : stepS S x = ({ S with c := addL S.c a n }, tOk) := by unfold stepS; rw [hc, stepC_add, if_pos h]
theorem run_pay : runS [kAdd03, kAdd21, kTotal, kPay, kNotes, kConf] = [111, 107, 10, 111, 107, 10, 49, 51, 48, 48, 10, 49, 51, 48, 48, 10, 10, 10] := by
 have s1 : stepS ⟨[], [], []⟩ kAdd03 = (⟨[(0, 3)], [], []⟩, tOk) := step_add cmd_add03 (by decide)
 have s2 : stepS ⟨[(0, 3)], [], []⟩ kAdd21 = (⟨[(0, 3), (2, 1)], [], []⟩, tOk) := step_add cmd_add21 (by decide)
 have s3 : stepS ⟨[(0, 3), (2, 1)], [], []⟩ kTotal = (⟨[(0, 3), (2, 1)], [], []⟩, [49, 51, 48, 48]) := by
   unfold stepS
   rw [cmd_total, ← dec_1300]
   rfl
 have s4 : stepS ⟨[(0, 3), (2, 1)], [], []⟩ kPay = (⟨[(0, 3), (2, 1)], [], []⟩, [49, 51, 48, 48]) := by
   have hv : payV shopS [(0, 3), (2, 1)] [] [] = 1300 := by unfold payV; rw [if_pos (by decide), ordL_nil]; decide
   unfold stepS
   rw [cmd_pay]
   show ((⟨[(0, 3), (2, 1)], [], []⟩ : Se), if clrQ [] then dec (payV shopS [(0, 3), (2, 1)] [] []) else tNo) = _
   rw [hv, dec_1300]
   rfl
 have s5 : stepS ⟨[(0, 3), (2, 1)], [], []⟩ kNotes = (⟨[(0, 3), (2, 1)], [], []⟩, []) := by
   unfold stepS
   rw [cmd_notes]
   show ((⟨[(0, 3), (2, 1)], [], []⟩ : Se), if clrQ [] then jn ((rcL shopS [(0, 3), (2, 1)] [] (ordL [])).2.map (ntW [(0, 3), (2, 1)])) else tNo) = _
   rw [ordL_nil]
   rfl
 have s6 : stepS ⟨[(0, 3), (2, 1)], [], []⟩ kConf = (⟨[(0, 3), (2, 1)], [], []⟩, []) := by
   unfold stepS
   rw [cmd_conf]
   have hn : cnfL ([] : List Rl) = [] := by
     have h := clr_cnfL (l := []) (by decide)
     rw [show clrQ ([] : List Rl) = true by decide] at h
     exact List.eq_nil_of_length_eq_zero (of_decide_eq_true h.symm)
   show ((⟨[(0, 3), (2, 1)], [], []⟩ : Se), jn ((cnfL []).map prW)) = _
   rw [hn]
   rfl
 exact (run_next (run_next (run_next (run_next (run_next (run_next run_none (by decide) s1) (by decide) s2) (by decide) s3) (by decide) s4) (by decide) s5) (by decide) s6).2
theorem run_rule : runS [kAdd12, kRule0, kPay, kNotes, kRule1] = [111, 107, 10, 111, 107, 10, 50, 53, 48, 10, 49, 32, 55, 32, 50, 53, 48, 10, 110, 111, 10] := by
 have hrc : rcL shopS [(1, 2)] [] [r70] = ([250], [⟨0, 7, 250⟩]) := rfl
 have hck : clrQ [r70] = true := by decide
 have s1 : stepS ⟨[], [], []⟩ kAdd12 = (⟨[(1, 2)], [], []⟩, tOk) := step_add cmd_add12 (by decide)
 have s2 : stepS ⟨[(1, 2)], [], []⟩ kRule0 = (⟨[(1, 2)], [], [r70]⟩, tOk) := by
   unfold stepS
   rw [cmd_rule0, stepC_some parse70, if_pos (by decide)]
   rfl
 have s3 : stepS ⟨[(1, 2)], [], [r70]⟩ kPay = (⟨[(1, 2)], [], [r70]⟩, [50, 53, 48]) := by
   have hv : payV shopS [(1, 2)] [] [r70] = 250 := by unfold payV; rw [if_pos hck, ordL_one, hrc]; decide
   unfold stepS
   rw [cmd_pay]
   show ((⟨[(1, 2)], [], [r70]⟩ : Se), if clrQ [r70] then dec (payV shopS [(1, 2)] [] [r70]) else tNo) = _
   rw [if_pos hck, hv, dec_250]
 have s4 : stepS ⟨[(1, 2)], [], [r70]⟩ kNotes = (⟨[(1, 2)], [], [r70]⟩, [49, 32, 55, 32, 50, 53, 48]) := by
   unfold stepS
   rw [cmd_notes]
   show ((⟨[(1, 2)], [], [r70]⟩ : Se), if clrQ [r70] then jn ((rcL shopS [(1, 2)] [] (ordL [r70])).2.map (ntW [(1, 2)])) else tNo) = _
   rw [if_pos hck, ordL_one, hrc]
   show ((⟨[(1, 2)], [], [r70]⟩ : Se), jn [ntW [(1, 2)] ⟨0, 7, 250⟩]) = _
   rw [jn_one]
   show ((⟨[(1, 2)], [], [r70]⟩ : Se), dec 1 ++ [32] ++ dec 7 ++ [32] ++ dec 250) = _
   rw [dec_1, dec_7, dec_250]
   rfl
 have s5 : stepS ⟨[(1, 2)], [], [r70]⟩ kRule1 = (⟨[(1, 2)], [], [r70]⟩, tNo) := by
   unfold stepS
   rw [cmd_rule1, stepC_some parse71, if_neg (by decide)]
 exact (run_next (run_next (run_next (run_next (run_next run_none (by decide) s1) (by decide) s2) (by decide) s3) (by decide) s4) (by decide) s5).2
end Go.Proofs.YtijofgaekmahkaaGreatDoor

namespace Go.Proofs.YtijofgaekmahkaaGreatDoor
open Go.RowKit
theorem rd_take {w : World} {ao : Option Addr} {cap n : Nat} {ls : List (List UInt8)} (h : Rd w 1 (.slice ao n cap) ls.length (sw ls)) (k : Nat) (hk : k ≤ ls.length) : Rd w 1 (.slice ao k cap) (ls.take k).length (sw (ls.take k)) := by
 obtain ⟨_, ao2, cap2, he, h2, h3, h4⟩ := h
 cases he
 have hl : (ls.take k).length = k := by rw [List.length_take]; omega
 refine ⟨by rw [sw_len, Nat.mul_one], ao, cap, by rw [hl], by omega, h3, fun hn => ?_⟩
 obtain ⟨b, off, e, hlt, hc⟩ := h4 (by omega)
 refine ⟨b, off, e, hlt, fun j u hu => hc j u ?_⟩
 unfold sw at hu ⊢
 rw [List.getElem?_map, List.getElem?_take] at hu
 rw [List.getElem?_map]
 split at hu
 · exact hu
 · simp at hu
theorem mem_app {ls t : List (List UInt8)} (h : ∀ x ∈ ls, x.length ≤ 2000000) (ht : t.all (fun x => decide (x.length ≤ 2000000)) = true) : ∀ x ∈ ls ++ t, x.length ≤ 2000000 := fun x hx => by
 rcases List.mem_append.1 hx with h1 | h1
 · exact h x h1
 · simpa using List.all_eq_true.1 ht x h1
theorem owns_old {w w' : World} {base e sz n m g cap : Nat} {xs : List Value} (h : w.ownsRow base e sz (.slice (some ⟨g, 0, none⟩) m cap) n xs) {row : Option Nat} (hg : w.grownBy w' row) (hr : ∀ k, row = some k → g < k) : w'.ownsRow base e sz (.slice (some ⟨g, 0, none⟩) m cap) n xs :=
 h.kept hg (by
   right
   intro k
   have := hr g k.symm
   omega)
end Go.Proofs.YtijofgaekmahkaaGreatDoor
