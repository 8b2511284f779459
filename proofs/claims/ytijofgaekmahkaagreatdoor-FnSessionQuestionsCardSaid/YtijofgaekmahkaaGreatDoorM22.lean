/- Joined texts: Walks: the scanner of the program's ParseRule: words, numbers. Walks: the text of a rule in the program: rows of words. Conditions: none. -/
import Derived.Test.YtijofgaekmahkaaGreatDoorM21
import Derived.Test.YtijofgaekmahkaaGreatDoorShelfA
import Derived.Lib.SmallJoins
import Derived.Lib.AtoiErrMem
import Derived.Laws.AppendOwn
namespace Go.Proofs.YtijofgaekmahkaaGreatDoor
open Go.RowKit
structure EnvP (W : World) : Prop where
 env : Env W
 max : ∃ m, W.cell? ⟨2, 0, none⟩ = some (.int .i64 m)
 syn : ∃ te pe, W.cell? ⟨3, 0, none⟩ = some (.iface te pe)
 ran : ∃ te pe, W.cell? ⟨4, 0, none⟩ = some (.iface te pe)
 size : 7 < W.heap.size
theorem EnvP.below {W W' : World} (h : EnvP W) (hb : Below W.heap.size W W') : EnvP W' := by
 have c : ∀ b, b ≤ 7 → W'.cell? ⟨b, 0, none⟩ = W.cell? ⟨b, 0, none⟩ := fun b hb' => hb.cell (p := ⟨b, 0, none⟩) (by have := h.size; show b < _; omega)
 exact ⟨h.env.below hb, by rw [c 2 (by omega)]; exact h.max, by rw [c 3 (by omega)]; exact h.syn, by rw [c 4 (by omega)]; exact h.ran, Nat.lt_of_lt_of_le h.size hb.size⟩
def EnvB (B : Nat) (W : World) : Prop := ∃ W0, W0.heap.size ≤ B ∧ Env0 W0 ∧ EnvP W0 ∧ Below W0.heap.size W0 W
theorem EnvB.p {B : Nat} {W : World} (h : EnvB B W) : EnvP W := by
 obtain ⟨W0, _, _, h0, hb⟩ := h
 exact h0.below hb
theorem EnvB.below {B : Nat} {W W' : World} (h : EnvB B W) (hb : Below W.heap.size W W') : EnvB B W' := by
 obtain ⟨W0, h1, h2, h3, h4⟩ := h
 exact ⟨W0, h1, h2, h3, h4.trans (hb.mono h4.size)⟩
theorem EnvB.grown {B S : Nat} {W W' : World} (h : EnvB B W) (hg : W.grownBy W' (some S)) (hS : B ≤ S) : EnvB B W' := by
 obtain ⟨W0, h1, h2, h3, h4⟩ := h
 exact ⟨W0, h1, h2, h3, h4.grown hg h4.size (fun k hk => by simp only [Option.some.injEq] at hk; omega)⟩
def okI (T : List UInt8) : Bool := match Lib.atoiAll T with | .ok _ => true | _ => false
def vaI (T : List UInt8) : Int := match Lib.atoiAll T with | .ok v => v | .range => Lib.atoiSat T | _ => 0
theorem atoi_any (T : List UInt8) (W : World) (hE : EnvP W) (hl : T.length ≤ 1000000000) :
   Calls Tryz.prog 62 #[.string ⟨T.toArray⟩] W fun e w' => ∃ er, e = .returned (.tuple #[.int .i64 (vaI T), er]) ∧ (okI T = true → er = .nilIface) ∧ (okI T = false → ∃ te pe, er = .iface te pe) ∧ Below W.heap.size W w' := by
 have hs : (⟨T.toArray⟩ : ByteArray).size = T.length := by simp [ByteArray.size]
 have hd : (⟨T.toArray⟩ : ByteArray).data.toList = T := by simp
 cases h : Lib.atoiAll T with
 | ok v =>
   refine (Tryz.strconv_Atoi_ok ⟨T.toArray⟩ (by omega) v (by rw [hd]; exact h) W).mono ?_
   rintro e w' ⟨rfl, hw⟩
   refine ⟨.nilIface, by simp [vaI, h], fun _ => rfl, fun h2 => by simp [okI, h] at h2, ?_⟩
   rcases hw with rfl | ⟨t, rfl⟩
   · exact Below.refl _ _
   · exact Lib.bytesWorld_below _ _ _
 | range =>
   obtain ⟨te, pe, hc⟩ := hE.ran
   refine (Tryz.strconv_Atoi_range ⟨T.toArray⟩ (by omega) (by rw [hd]; exact h) (.iface te pe) W hc (.inr ⟨te, pe, rfl⟩)).mono ?_
   rintro e w' ⟨N, rfl, _, _, hb⟩
   rw [hd]
   exact ⟨_, by rw [show vaI T = Lib.atoiSat T from by simp [vaI, h]], fun h2 => by simp [okI, h] at h2, fun _ => ⟨_, _, rfl⟩, hb⟩
 | _ =>
   obtain ⟨te, pe, hc⟩ := hE.syn
   refine (Tryz.strconv_Atoi_syntax ⟨T.toArray⟩ (by omega) (by rw [hd, h]; exact fun v => by simp) (by rw [hd, h]; simp) (.iface te pe) W hc (.inr ⟨te, pe, rfl⟩)).mono ?_
   rintro e w' ⟨N, rfl, _, _, hb⟩
   exact ⟨_, by rw [show vaI T = 0 from by simp [vaI, h]], fun h2 => by simp [okI, h] at h2, fun _ => ⟨_, _, rfl⟩, hb⟩
def Sc (W : World) (S : Nat) (ws : List (List UInt8)) (bad : Bool) : Prop :=
 ∃ (bk off cap : Nat), W.heap[S]? = some (.cells #[.slice (some ⟨bk, off, none⟩) ws.length cap, .bool bad] 104 (0, 0)) ∧ bk < S ∧ ws.length ≤ cap ∧ cap ≤ maxLen ∧
   ∀ j x, ws[j]? = some x → W.cell? ⟨bk, off + j, none⟩ = some (.string ⟨x.toArray⟩)
theorem Sc.lt {W : World} {S : Nat} {ws : List (List UInt8)} {bad : Bool} (h : Sc W S ws bad) : S < W.heap.size := by
 obtain ⟨_, _, _, h1, _⟩ := h
 exact (Array.getElem?_eq_some_iff.1 h1).1
theorem Sc.grown {W W' : World} {S : Nat} {ws : List (List UInt8)} {bad : Bool} (h : Sc W S ws bad) {row : Option Nat} (hg : W.grownBy W' row) (hr : ∀ k, row = some k → S < k) : Sc W' S ws bad := by
 have hS := h.lt
 obtain ⟨bk, off, cap, h1, h2, h3, h4, h5⟩ := h
 exact ⟨bk, off, cap, (hg.block S hS (fun e => by have := hr S e.symm; omega)).trans h1, h2, h3, h4,
   fun j x hx => (World.cell?_of_block (a := ⟨bk, off + j, none⟩) (hg.block bk (by omega) (fun e => by have := hr bk e.symm; omega))).trans (h5 j x hx)⟩
theorem below_grownAny {W W' : World} (hb : Below W.heap.size W W') (row : Option Nat) : W.grownBy W' row := ⟨hb.os, hb.tape, hb.output, hb.size, fun k hk _ => hb.block k hk⟩
theorem Sc.below {W W' : World} {S : Nat} {ws : List (List UInt8)} {bad : Bool} (h : Sc W S ws bad) (hb : Below W.heap.size W W') : Sc W' S ws bad :=
 h.grown (below_grownAny hb none) (fun k e => by cases e)
structure ScStep (W : World) (S : Nat) (ws : List (List UInt8)) (bad : Bool) (W' : World) : Prop where
 sc : Sc W' S ws bad
 grown : W.grownBy W' (some S)
theorem ScStep.row {W W' : World} {S g : Nat} {ws : List (List UInt8)} {bad : Bool} {o : Obj} (st : ScStep W S ws bad W') (h : W.heap[g]? = some o) (hne : g ≠ S) : W'.heap[g]? = some o :=
 (st.grown.block g (Array.getElem?_eq_some_iff.1 h).1 (by simpa using hne)).trans h
theorem ScStep.trans {a b c : World} {S : Nat} {ws ws' : List (List UInt8)} {bad bad' : Bool} (h : ScStep a S ws bad b) (k : ScStep b S ws' bad' c) : ScStep a S ws' bad' c := ⟨k.1, grownBy_trans h.2 k.2⟩
theorem sc_mark {W : World} {S : Nat} {ws : List (List UInt8)} {bad : Bool} (h : Sc W S ws bad) : ScStep W S ws true (W.setCell ⟨S, 1, none⟩ (.bool true)) := by
 obtain ⟨bk, off, cap, h1, h2, h3, h4, h5⟩ := h
 refine ⟨⟨bk, off, cap, Joins.block_setCell h1 _, h2, h3, h4, fun j x hx => ?_⟩, ⟨rfl, rfl, rfl, by simp [World.setCell], fun k _ hk => heap_setCell_other W ⟨S, 1, none⟩ k _ (fun e => hk (by simp [e]))⟩⟩
 rw [← h5 j x hx]
 exact World.cell?_of_block (heap_setCell_other W ⟨S, 1, none⟩ bk _ (by simp; omega))
theorem sc_next {W : World} {S bk off cap : Nat} {x : List UInt8} {t : List (List UInt8)} {bad : Bool} (h1 : W.heap[S]? = some (.cells #[.slice (some ⟨bk, off, none⟩) (t.length + 1) cap, .bool bad] 104 (0, 0))) (h2 : bk < S)
   (h3 : t.length + 1 ≤ cap) (h4 : cap ≤ maxLen) (h5 : ∀ j y, (x :: t)[j]? = some y → W.cell? ⟨bk, off + j, none⟩ = some (.string ⟨y.toArray⟩)) (off' : Nat) (ho : t = [] ∨ off' = off + 1) :
   ScStep W S t bad (W.setCell ⟨S, 0, none⟩ (.slice (some ⟨bk, off', none⟩) t.length (cap - 1))) := by
 refine ⟨⟨bk, off', cap - 1, Joins.block_setCell h1 _, h2, by omega, by omega, fun j y hy => ?_⟩, ⟨rfl, rfl, rfl, by simp [World.setCell], fun k _ hk => heap_setCell_other W ⟨S, 0, none⟩ k _ (fun e => hk (by simp [e]))⟩⟩
 rcases ho with rfl | rfl
 · simp at hy
 · rw [show off + 1 + j = off + (j + 1) by omega, ← h5 (j + 1) y (by simpa using hy)]
   exact World.cell?_of_block (heap_setCell_other W ⟨S, 0, none⟩ bk _ (by simp; omega))
set_option maxHeartbeats 2000000 in
theorem scWord_any (S : Nat) (ws : List (List UInt8)) (bad : Bool) (W : World) (h : Sc W S ws bad) :
   Calls Tryz.prog 104 #[.pointer (some ⟨S, 0, none⟩)] W fun e w' => e = .returned (.string ⟨(ws.headD []).toArray⟩) ∧ ScStep W S ws.tail (bad || ws.isEmpty) w' := by
 have HS := Lib.hid h
 obtain ⟨bk, off, cap, h1, h2, h3, h4, h5⟩ := h
 obtain ⟨⟨c0, c1⟩, p0, p1⟩ := row2 h1
 have H1 := Lib.hid h1
 have H5 := Lib.hid h5
 clear h1 h5
 unfold maxLen at h4
 cases ws with
 | nil =>
   go_enter Tryz.func104, Tryz.ntmps104
   go_wp2
   go_ret
   exact ⟨rfl, by rw [Bool.or_comm]; exact sc_mark HS.out⟩
 | cons x t =>
   simp only [List.length_cons] at h3 c0
   have hx := H5.out 0 x rfl
   rw [Nat.add_zero] at hx
   by_cases hc : cap = 1
   · subst hc
     have ht : t = [] := List.length_eq_zero_iff.1 (by omega)
     subst ht
     have fin := Lib.hid (sc_next (x := x) (t := []) (bad := bad) H1.out h2 (by simp) (by unfold maxLen; omega) H5.out off (.inl rfl))
     go_enter Tryz.func104, Tryz.ntmps104
     go_wp2
     go_ret
     exact ⟨rfl, by rw [show (bad || [x].isEmpty) = bad by simp]; exact fin.out⟩
   · have fin := Lib.hid (sc_next (x := x) (t := t) (bad := bad) H1.out h2 h3 (by unfold maxLen; omega) H5.out (off + 1) (.inr rfl))
     go_enter Tryz.func104, Tryz.ntmps104
     go_wp2
     go_ret
     exact ⟨rfl, by rw [show (bad || (x :: t).isEmpty) = bad by simp]; exact fin.out⟩
def isW (ws : List (List UInt8)) (x : List UInt8) : Bool := match ws with
 | [] => false
 | y :: _ => y == x
set_option maxHeartbeats 2000000 in
theorem scIs_any (S : Nat) (ws : List (List UInt8)) (bad : Bool) (z : List UInt8) (W : World) (h : Sc W S ws bad) :
   Calls Tryz.prog 64 #[.pointer (some ⟨S, 0, none⟩), .string ⟨z.toArray⟩] W fun e w' => e = .returned (.bool (isW ws z)) ∧ ScStep W S (if isW ws z then ws.tail else ws) bad w' := by
 have HS := Lib.hid h
 obtain ⟨bk, off, cap, h1, h2, h3, h4, h5⟩ := h
 obtain ⟨⟨c0, c1⟩, p0, p1⟩ := row2 h1
 have H1 := Lib.hid h1
 have H5 := Lib.hid h5
 clear h1 h5
 unfold maxLen at h4
 cases ws with
 | nil =>
   go_enter Tryz.func64, Tryz.ntmps64
   go_wp2
   go_ret
   exact ⟨rfl, HS.out, ⟨rfl, rfl, rfl, Nat.le_refl _, fun _ _ _ => rfl⟩⟩
 | cons x t =>
   simp only [List.length_cons] at h3 c0
   have hx := H5.out 0 x rfl
   rw [Nat.add_zero] at hx
   cases hxz : (x == z)
   · rw [show isW (x :: t) z = false from hxz]
     go_enter Tryz.func64, Tryz.ntmps64
     go_wp2
     go_ret
     exact ⟨rfl, HS.out, ⟨rfl, rfl, rfl, Nat.le_refl _, fun _ _ _ => rfl⟩⟩
   · rw [show isW (x :: t) z = true from hxz]
     by_cases hc : cap = 1
     · subst hc
       have ht : t = [] := List.length_eq_zero_iff.1 (by omega)
       subst ht
       have fin := Lib.hid (sc_next (x := x) (t := []) (bad := bad) H1.out h2 (by simp) (by unfold maxLen; omega) H5.out off (.inl rfl))
       go_enter Tryz.func64, Tryz.ntmps64
       go_wp2
       go_ret
       exact ⟨rfl, fin.out⟩
     · have fin := Lib.hid (sc_next (x := x) (t := t) (bad := bad) H1.out h2 h3 (by unfold maxLen; omega) H5.out (off + 1) (.inr rfl))
       go_enter Tryz.func64, Tryz.ntmps64
       go_wp2
       go_ret
       exact ⟨rfl, fin.out⟩
set_option maxHeartbeats 2000000 in
theorem scText_any (S : Nat) (ws : List (List UInt8)) (bad : Bool) (T : List UInt8) (W : World) (h : Sc W S ws bad) (hE : EnvP W) (hl : T.length ≤ 1000000000) :
   Calls Tryz.prog 103 #[.pointer (some ⟨S, 0, none⟩), .string ⟨T.toArray⟩] W fun e w' => e = .returned (.int .i64 (vaI T)) ∧ ScStep W S ws (bad || !okI T) w' := by
 have HS := Lib.hid h
 have HE := Lib.hid hE
 clear h hE
 cases hok : okI T
 · go_enter Tryz.func103, Tryz.ntmps103
   go_wp2_with fail
   refine (atoi_any T _ HE.out hl).mono ?_
   rintro e w1 ⟨er, rfl, _, h2, hb⟩
   obtain ⟨te, pe, rfl⟩ := h2 hok
   have S1 := HS.out.below hb
   have S2 := Lib.hid (sc_mark S1)
   obtain ⟨bk, off, cap, h1, _⟩ := S1
   obtain ⟨⟨c0, c1⟩, p0, p1⟩ := row2 h1
   clear h1
   go_wp2
   go_ret
   exact ⟨rfl, by rw [show (bad || !false) = true by simp]; exact ⟨S2.out.1, grownBy_trans (below_grownAny hb _) S2.out.2⟩⟩
 · go_enter Tryz.func103, Tryz.ntmps103
   go_wp2_with fail
   refine (atoi_any T _ HE.out hl).mono ?_
   rintro e w1 ⟨er, rfl, h1, _, hb⟩
   obtain rfl := h1 hok
   go_wp2
   go_ret
   exact ⟨rfl, by rw [show (bad || !true) = bad by simp]; exact ⟨HS.out.below hb, below_grownAny hb _⟩⟩
def Sh (ws : List (List UInt8)) : Prop := ∀ x ∈ ws, x.length ≤ 1000000000
theorem Sh.head {ws : List (List UInt8)} (h : Sh ws) : (ws.headD []).length ≤ 1000000000 := by
 cases ws with
 | nil => simp
 | cons x t => exact h x (by simp)
theorem Sh.tail {ws : List (List UInt8)} (h : Sh ws) : Sh ws.tail := fun x hx => h x (List.mem_of_mem_tail hx)
set_option maxHeartbeats 2000000 in
theorem scNumber_any (B S : Nat) (ws : List (List UInt8)) (bad : Bool) (W : World) (h : Sc W S ws bad) (hE : EnvB B W) (hs : Sh ws) (hB : B ≤ S) :
   Calls Tryz.prog 63 #[.pointer (some ⟨S, 0, none⟩)] W fun e w' => e = .returned (.int .i64 (vaI (ws.headD []))) ∧ ScStep W S ws.tail ((bad || ws.isEmpty) || !okI (ws.headD [])) w' := by
 have HS := Lib.hid h
 have HE := Lib.hid hE
 have hh := hs.head
 clear h hE hs
 obtain ⟨b1, hb1⟩ : ∃ b, b = (bad || ws.isEmpty) := ⟨_, rfl⟩
 rw [← hb1]
 obtain ⟨x, hx⟩ : ∃ x, x = ws.headD [] := ⟨_, rfl⟩
 rw [← hx] at hh ⊢
 go_enter Tryz.func63, Tryz.ntmps63
 go_wp2_with fail
 refine (scWord_any S ws bad _ HS.out).mono ?_
 rintro e w1 ⟨rfl, s1⟩
 rw [← hx]
 rw [← hb1] at s1
 have S1 := Lib.hid s1
 have E1 := (HE.out.grown s1.grown hB).p
 clear s1 hb1 hx
 go_wp2_with fail
 refine (scText_any S ws.tail _ x _ S1.out.sc E1 hh).mono ?_
 rintro e w2 ⟨rfl, s2⟩
 have S2 := Lib.hid (S1.out.trans s2)
 clear s2 E1
 go_wp2
 go_ret
 exact ⟨rfl, S2.out⟩
def cut1 (x : List UInt8) : List UInt8 := (Lib.cut x [45]).1
def cut2 (x : List UInt8) : List UInt8 := (Lib.cut x [45]).2.1
set_option maxHeartbeats 2000000 in
theorem scSpan_any (B S : Nat) (ws : List (List UInt8)) (bad : Bool) (W : World) (h : Sc W S ws bad) (hE : EnvB B W) (hs : Sh ws) (hB : B ≤ S) (h1 : (cut1 (ws.headD [])).length ≤ 1000000000) (h2 : (cut2 (ws.headD [])).length ≤ 1000000000) :
   Calls Tryz.prog 65 #[.pointer (some ⟨S, 0, none⟩)] W fun e w' => e = .returned (.agg #[.int .i64 (vaI (cut1 (ws.headD []))), .int .i64 (vaI (cut2 (ws.headD [])))]) ∧
     ScStep W S ws.tail (((bad || ws.isEmpty) || !okI (cut1 (ws.headD []))) || !okI (cut2 (ws.headD []))) w' := by
 have hh := hs.head
 have b0 : Below W.heap.size W (W.alloc (.cells #[.int .i64 0, .int .i64 0] 38)) := (Below.refl _ _).alloc (Nat.le_refl _) _
 have k0 := heap_alloc_new W (.cells #[.int .i64 0, .int .i64 0] 38)
 have K0 := Lib.hid k0
 have hlt := h.lt
 have HS := Lib.hid (h.below b0)
 have HG := Lib.hid (below_grownAny b0 (some S))
 have HE := Lib.hid (hE.below b0)
 clear h hE hs b0 k0
 obtain ⟨b1, hb1⟩ : ∃ b, b = (bad || ws.isEmpty) := ⟨_, rfl⟩
 rw [← hb1]
 obtain ⟨x, hx⟩ : ∃ x, x = ws.headD [] := ⟨_, rfl⟩
 rw [← hx] at hh h1 h2 ⊢
 go_enter Tryz.func65, Tryz.ntmps65
 go_wp2_with fail
 refine (scWord_any S ws bad _ HS.out).mono ?_
 rintro e w1 ⟨rfl, s1⟩
 rw [← hx]
 rw [← hb1] at s1
 have S1 := Lib.hid s1
 have E1 := Lib.hid (HE.out.grown s1.grown hB)
 have K1 := Lib.hid (s1.row K0.out (by omega))
 clear s1 hb1 hx K0
 obtain ⟨m, hm⟩ := E1.out.p.max
 go_wp2_with fail
 refine (Tryz.strings_Cut ⟨x.toArray⟩ ⟨#[45]⟩ m _ (by simp [ByteArray.size]; omega) hm).mono ?_
 rintro e w2 ⟨rfl, n, rfl⟩
 have d0 := below_drewN (Below.refl w1.heap.size w1) n
 have e1 : (Lib.cut (⟨x.toArray⟩ : ByteArray).data.toList (⟨#[45]⟩ : ByteArray).data.toList).1 = cut1 x := by simp [cut1]
 have e2 : (Lib.cut (⟨x.toArray⟩ : ByteArray).data.toList (⟨#[45]⟩ : ByteArray).data.toList).2.1 = cut2 x := by simp [cut2]
 rw [e1, e2]
 clear e1 e2 hm
 obtain ⟨w2, hw2⟩ : ∃ w2, w2 = w1.drewN n := ⟨_, rfl⟩
 rw [← hw2] at d0 ⊢
 have S2 := Lib.hid (S1.out.trans ⟨S1.out.sc.below d0, below_grownAny d0 _⟩)
 have E2 := Lib.hid (E1.out.below d0)
 have K2 := Lib.hid ((d0.block W.heap.size (Array.getElem?_eq_some_iff.1 K1.out).1).trans K1.out)
 clear hw2 d0 S1 E1 K1
 go_wp2_with fail
 refine (scText_any S ws.tail _ (cut1 x) _ S2.out.sc E2.out.p h1).mono ?_
 rintro e w3 ⟨rfl, s3⟩
 have S3 := Lib.hid (S2.out.trans s3)
 have E3 := Lib.hid (E2.out.grown s3.grown hB)
 have K3 := Lib.hid (s3.row K2.out (by omega))
 clear s3 S2 E2 K2
 go_wp2_with fail
 refine (scText_any S ws.tail _ (cut2 x) _ S3.out.sc E3.out.p h2).mono ?_
 rintro e w4 ⟨rfl, s4⟩
 have S4 := Lib.hid (S3.out.trans s4)
 have k4 := s4.row K3.out (by omega)
 have K4 := Lib.hid k4
 obtain ⟨⟨c0, c1⟩, p0, p1⟩ := row2 k4
 clear s4 S3 E3 K3 k4
 go_wp2
 refine bodyPost_ret (results_row (p := 2) (ty := 38) rfl row38 _ _ W.heap.size 38 #[.int .i64 (vaI (cut1 x)), .int .i64 (vaI (cut2 x))] rfl rfl (Joins.block_setCell (i := 1) (Joins.block_setCell (i := 0) K4.out _) _)) rfl ?_
 refine ⟨rfl, S4.out.sc.grown (row := some W.heap.size) ⟨rfl, rfl, rfl, by simp [World.setCell], fun k _ hk => ?_⟩ (fun k hk => by simp only [Option.some.injEq] at hk; omega), ?_⟩
 · exact (heap_setCell_other _ ⟨W.heap.size, 1, none⟩ k _ (fun e => hk (by simp [e]))).trans (heap_setCell_other _ ⟨W.heap.size, 0, none⟩ k _ (fun e => hk (by simp [e])))
 · have g := grownBy_trans HG.out S4.out.grown
   exact ⟨g.os, g.tape, g.output, by simp [World.setCell]; exact g.size, fun k hk hr => (heap_setCell_other _ ⟨W.heap.size, 1, none⟩ k _ (by show k ≠ W.heap.size; omega)).trans ((heap_setCell_other _ ⟨W.heap.size, 0, none⟩ k _ (by show k ≠ W.heap.size; omega)).trans (g.block k hk hr))⟩
end Go.Proofs.YtijofgaekmahkaaGreatDoor

namespace Go.Proofs.YtijofgaekmahkaaGreatDoor
open Go.RowKit
def sw (ws : List (List UInt8)) : List Value := ws.map fun x => Value.string ⟨x.toArray⟩
theorem sw_len (ws : List (List UInt8)) : (sw ws).length = ws.length := by simp [sw]
theorem sw_append (a b : List (List UInt8)) : sw (a ++ b) = sw a ++ sw b := by simp [sw]
theorem cells_new (w : World) (xs : List Value) (t : TypeId) : ∀ j u, xs[j]? = some u → (w.alloc (.cells xs.toArray t)).cell? ((⟨w.heap.size, 0, none⟩ : Addr).add j) = some u := by
 intro j u h
 have : ((⟨w.heap.size, 0, none⟩ : Addr).add j) = ⟨w.heap.size, j, none⟩ := by unfold Addr.add; simp; try omega
 rw [this, cell_of_row _ _ j _ _ _ (heap_alloc_new w _)]
 simpa using h
theorem app_words {P : Program} {w : World} {ops : Array Oper} {rest : List Oper} {o : Oper} {a : Act} {Q : Exit → Act → World → Prop} (hgd : o.guard = none) (s x : Operand) (t : TypeId)
   (ho : o.op = .call { callee := .builtin .append, args := #[s, x], argTypes := #[t, t] }) (base : Nat) (e t2 : TypeId) (i : TypeInfo) (z : Value) (ht : P.underlying t = some (.slice e)) (hi : P.info? e = some i) (hz : i.zero = some z)
   (hs : i.size = 1) (hby : i.bytes = 16) (hzs : z.cells.size = 1) (v : Value) (ws : List (List UInt8)) (ys : List (List UInt8)) (xs : List Value) (hxs : xs = sw ys) (c : Nat) (hv : a.eval s = v) (hown : w.ownsRow base e 1 v ws.length (sw ws))
   (hx : a.eval x = .slice (some ⟨w.heap.size, 0, none⟩) ys.length c) (hlen : ws.length ≤ 100000) (hlen2 : ys.length ≤ 100000) (hbase : base ≤ w.heap.size)
   (h : ∀ v' w1, w1.ownsRow base e 1 v' (ws ++ ys).length (sw (ws ++ ys)) → (w.alloc (.cells xs.toArray t2)).grownBy w1 v.ownBlock → wpList P ops Q rest (a.put o.dst v') w1) :
   wpList P ops Q (o :: rest) a (w.alloc (.cells xs.toArray t2)) := by
 subst hxs
 refine wpList_append_own _ hgd s x t ho base e i z 1 16 ht hi hz hs hby hzs (by decide) v ws.length (sw ws) hv (hown.alloc _) ⟨w.heap.size, 0, none⟩ ys.length c (sw ys) hx (by rw [sw_len, Nat.mul_one]) (cells_new w _ t2) (by
   intro u hu
   obtain ⟨y, _, rfl⟩ := List.mem_map.1 hu
   rfl) (by unfold maxLen; omega) (by omega) (by rw [World.size_alloc]; omega) ?_
 intro v' w1 h1 h2 _
 refine h v' w1 ?_ h2
 rw [List.length_append, sw_append]
 exact h1
theorem two_fields {fs : List Field} {T : TypeId} (h : fs.map (fun f => (f.name == "_", f.type, f.offset)) = [(false, T, 0), (false, T, 1)]) :
   ∃ f0 f1, fs = [f0, f1] ∧ f0.name ≠ "_" ∧ f0.type = T ∧ f0.offset = 0 ∧ f1.name ≠ "_" ∧ f1.type = T ∧ f1.offset = 1 := by
 match fs, h with
 | [], h => simp at h
 | [_], h => simp at h
 | _ :: _ :: _ :: _, h => simp at h
 | [f0, f1], h =>
   simp only [List.map_cons, List.map_nil, List.cons.injEq, Prod.mk.injEq, beq_eq_false_iff_ne, and_true] at h
   exact ⟨f0, f1, rfl, h.1.1, h.1.2.1, h.1.2.2, h.2.1, h.2.2.1, h.2.2.2⟩
theorem neqSpan (a b : Int) (w : World) : (binOp .neq 38 (.agg #[.int .i64 a, .int .i64 b]) (.agg #[.int .i64 0, .int .i64 1000000])).run Tryz.prog w = .ok (.bool (!allSp a b)) w := by
 have h1 : Tryz.prog.underlying 38 = some (.struct (Tryz.prog.fieldsOf 38)) := by kernel_rfl
 have h2 : Tryz.prog.stoodInHeld 38 = false := by kernel_rfl
 have h3 : (Tryz.prog.fieldsOf 38).toList.map (fun f => (f.name == "_", f.type, f.offset)) = [(false, 3, 0), (false, 3, 1)] := by kernel_rfl
 have p0 : ∀ x y : Value, (part 3 #[x, y] 0).run Tryz.prog w = .ok x w := fun x y => by kernel_rfl
 have p1 : ∀ x y : Value, (part 3 #[x, y] 1).run Tryz.prog w = .ok y w := fun x y => by kernel_rfl
 have hu : ∀ x y : Int, (Op.equalIn (9998 + 1) 3 (.int .i64 x) (.int .i64 y)).run Tryz.prog w = .ok (x == y) w := fun x y => run_equalIn_int w 9998 3 .i64 .i64 x y Tryz.underlying3
 obtain ⟨f0, f1, hf, n0, t0, o0, n1, t1, o1⟩ := two_fields h3
 rw [run_neq_struct, run_equalIn_agg w _ _ _ _ h1 h2, hf]
 cases hx : (a == 0) <;> cases hy : (b == 1000000) <;>
   simp [Op.eqFields, n0, t0, o0, n1, t1, o1, p0, p1, hu, allSp, hx, hy] <;> simp_all
theorem RuAt.of_block {W W' : World} {g : Nat} {r : Rl} {v : Value} (h : RuAt W g r v) (hb : W'.heap[g]? = W.heap[g]?) (hs : W.heap.size ≤ W'.heap.size) : RuAt W' g r v :=
 ⟨Nat.lt_of_lt_of_le h.1 hs, fun i u hu => (World.cell?_of_block (w := W) (a := ⟨g, i, none⟩) hb).trans (h.2 i u hu)⟩
structure St (w : World) (r : Rl) (v v4 : Value) (ws : List (List UInt8)) (W : World) : Prop where
 below : Below w.heap.size w W
 box : RuAt W w.heap.size r v
 own : W.ownsRow (w.heap.size + 1) 9 1 v4 ws.length (sw ws)
theorem St.step {w W W' : World} {r : Rl} {v v4 : Value} {ws : List (List UInt8)} (h : St w r v v4 ws W) (hb : Below W.heap.size W W') : St w r v v4 ws W' :=
 ⟨h.below.trans (hb.mono h.below.size), h.box.below hb (Nat.le_refl _), ownsRow_below h.own hb (Nat.le_refl _)⟩
theorem St.alloc {w W : World} {r : Rl} {v v4 : Value} {ws : List (List UInt8)} (h : St w r v v4 ws W) (o : Obj) : St w r v v4 ws (W.alloc o) := h.step ((Below.refl _ W).alloc (Nat.le_refl _) o)
theorem St.app {w W W' : World} {r : Rl} {v v4 v' : Value} {ws zs : List (List UInt8)} {o : Obj} (h : St w r v v4 ws W) (hg : (W.alloc o).grownBy W' v4.ownBlock) (ho : W'.ownsRow (w.heap.size + 1) 9 1 v' zs.length (sw zs)) : St w r v v' zs W' := by
 have h1 := h.alloc o
 have hlt : ∀ k, v4.ownBlock = some k → w.heap.size + 1 ≤ k := fun k hk => (h.own.lt k hk).1
 refine ⟨Below.grown h1.below hg h1.below.size (fun k hk => Nat.le_of_succ_le (hlt k hk)), h1.box.of_block (hg.block _ h1.box.1 (fun e => ?_)) hg.size, ho⟩
 have := hlt _ e.symm
 omega
theorem St.size {w W : World} {r : Rl} {v v4 : Value} {ws : List (List UInt8)} (h : St w r v v4 ws W) : w.heap.size + 1 ≤ W.heap.size := h.box.1
theorem St.start {w W : World} {r : Rl} {v : Value} (hb : Below w.heap.size w W) (hr : RuAt W w.heap.size r v) (ws : List (List UInt8)) (xs : List Value) (hxs : xs = sw ws) (n : Nat) (hn : n = ws.length) (hl : n ≤ 1000) :
   St w r v (.slice (some ⟨W.heap.size, 0, none⟩) n n) ws (W.alloc (.cells xs.toArray 9)) := by
 subst hxs hn
 have hb1 := (Below.refl W.heap.size W).alloc (Nat.le_refl _) (.cells (sw ws).toArray 9)
 refine ⟨hb.trans (hb1.mono hb.size), hr.below hb1 (Nat.le_refl _), by rw [sw_len, Nat.mul_one], .inr ⟨W.heap.size, ws.length, (sw ws).toArray, rfl, hr.1, heap_alloc_new W _, Nat.le_refl _, by unfold maxLen; omega, by simp [sw], ?_⟩⟩
 rw [Nat.mul_one, List.take_of_length_le (by simp [sw])]
end Go.Proofs.YtijofgaekmahkaaGreatDoor
