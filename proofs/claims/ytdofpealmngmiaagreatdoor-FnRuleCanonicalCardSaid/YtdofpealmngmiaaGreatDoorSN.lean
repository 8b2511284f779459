/- Walks: the scanner of the program's ParseRule: words, numbers. Conditions: none. -/
import Derived.Test.YtdofpealmngmiaaGreatDoorRE
import Derived.Test.YtdofpealmngmiaaGreatDoorRL
import Derived.Test.YtdofpealmngmiaaGreatDoorShelfA
import Derived.Lib.SmallJoins
import Derived.Lib.AtoiErrMem
namespace Go.Proofs.YtdofpealmngmiaaGreatDoor
open Go.RowKit

/-- What the parsers need of the package's variables: beside Env the library's own: the length that an index is sought in one step, the two errors. -/
structure EnvP (W : World) : Prop where
  env : Env W
  max : ∃ m, W.cell? ⟨2, 0, none⟩ = some (.int .i64 m)
  syn : ∃ te pe, W.cell? ⟨6, 0, none⟩ = some (.iface te pe)
  ran : ∃ te pe, W.cell? ⟨7, 0, none⟩ = some (.iface te pe)
  size : 7 < W.heap.size
theorem EnvP.below {W W' : World} (h : EnvP W) (hb : Below W.heap.size W W') : EnvP W' := by
  have c : ∀ b, b ≤ 7 → W'.cell? ⟨b, 0, none⟩ = W.cell? ⟨b, 0, none⟩ := fun b hb' => hb.cell (p := ⟨b, 0, none⟩) (by have := h.size; show b < _; omega)
  exact ⟨h.env.below hb, by rw [c 2 (by omega)]; exact h.max, by rw [c 6 (by omega)]; exact h.syn, by rw [c 7 (by omega)]; exact h.ran, Nat.lt_of_lt_of_le h.size hb.size⟩

/-- The same of the world in which the call began, of heap size B at most; since then new blocks alone. -/
def EnvB (B : Nat) (W : World) : Prop := ∃ W0, W0.heap.size ≤ B ∧ Env0 W0 ∧ EnvP W0 ∧ Below W0.heap.size W0 W
theorem EnvB.p {B : Nat} {W : World} (h : EnvB B W) : EnvP W := by
  obtain ⟨W0, _, _, h0, hb⟩ := h
  exact h0.below hb
theorem EnvB.below {B : Nat} {W W' : World} (h : EnvB B W) (hb : Below W.heap.size W W') : EnvB B W' := by
  obtain ⟨W0, h1, h2, h3, h4⟩ := h
  exact ⟨W0, h1, h2, h3, h4.trans (hb.mono h4.size)⟩
theorem EnvB.grown {B S : Nat} {W W' : World} (h : EnvB B W) (hg : W.grownBy W' (some S)) (hS : B ≤ S) : EnvB B W' := by
  obtain ⟨W0, h1, h2, h3, h4⟩ := h
  exact ⟨W0, h1, h2, h3, h4.grown hg h4.size (fun k hk => by simp only [Option.some.injEq] at hk; omega)⟩

/-- Is a text a number, and which. -/
def okI (T : List UInt8) : Bool := match Lib.atoiAll T with | .ok _ => true | _ => false
def vaI (T : List UInt8) : Int := match Lib.atoiAll T with | .ok v => v | .range => Lib.atoiSat T | _ => 0

theorem atoi_any (T : List UInt8) (W : World) (hE : EnvP W) (hl : T.length ≤ 1000000000) :
    Calls Tryz.prog 57 #[.string ⟨T.toArray⟩] W fun e w' => ∃ er, e = .returned (.tuple #[.int .i64 (vaI T), er]) ∧ (okI T = true → er = .nilIface) ∧ (okI T = false → ∃ te pe, er = .iface te pe) ∧ Below W.heap.size W w' := by
  have hs : (⟨T.toArray⟩ : ByteArray).size = T.length := by simp [ByteArray.size]
  have hd : (⟨T.toArray⟩ : ByteArray).data.toList = T := by simp
  cases h : Lib.atoiAll T with
  | ok v =>
    refine (Tryz.strconv_Atoi_ok ⟨T.toArray⟩ (by omega) v (by rw [hd]; exact h) W).mono ?_
    rintro e w' ⟨rfl, hw⟩
    refine ⟨.nilIface, by simp [vaI, h], fun _ => rfl, fun h2 => by simp [okI, h] at h2, ?_⟩
    rcases hw with rfl | ⟨t, rfl⟩
    · exact Below.refl _ _
    · exact Lib.bytesWorld_below _ _ _
  | range =>
    obtain ⟨te, pe, hc⟩ := hE.ran
    refine (Tryz.strconv_Atoi_range ⟨T.toArray⟩ (by omega) (by rw [hd]; exact h) (.iface te pe) W hc (.inr ⟨te, pe, rfl⟩)).mono ?_
    rintro e w' ⟨N, rfl, _, _, hb⟩
    rw [hd]
    exact ⟨_, by rw [show vaI T = Lib.atoiSat T from by simp [vaI, h]], fun h2 => by simp [okI, h] at h2, fun _ => ⟨_, _, rfl⟩, hb⟩
  | _ =>
    obtain ⟨te, pe, hc⟩ := hE.syn
    refine (Tryz.strconv_Atoi_syntax ⟨T.toArray⟩ (by omega) (by rw [hd, h]; exact fun v => by simp) (by rw [hd, h]; simp) (.iface te pe) W hc (.inr ⟨te, pe, rfl⟩)).mono ?_
    rintro e w' ⟨N, rfl, _, _, hb⟩
    exact ⟨_, by rw [show vaI T = 0 from by simp [vaI, h]], fun h2 => by simp [okI, h] at h2, fun _ => ⟨_, _, rfl⟩, hb⟩

/-- Block S is a scanner: the words that are left, the mark. -/
def Sc (W : World) (S : Nat) (ws : List (List UInt8)) (bad : Bool) : Prop :=
  ∃ (bk off cap : Nat), W.heap[S]? = some (.cells #[.slice (some ⟨bk, off, none⟩) ws.length cap, .bool bad] 46 (0, 0)) ∧ bk < S ∧ ws.length ≤ cap ∧ cap ≤ maxLen ∧
    ∀ j x, ws[j]? = some x → W.cell? ⟨bk, off + j, none⟩ = some (.string ⟨x.toArray⟩)
theorem Sc.lt {W : World} {S : Nat} {ws : List (List UInt8)} {bad : Bool} (h : Sc W S ws bad) : S < W.heap.size := by
  obtain ⟨_, _, _, h1, _⟩ := h
  exact (Array.getElem?_eq_some_iff.1 h1).1
theorem Sc.grown {W W' : World} {S : Nat} {ws : List (List UInt8)} {bad : Bool} (h : Sc W S ws bad) {row : Option Nat} (hg : W.grownBy W' row) (hr : ∀ k, row = some k → S < k) : Sc W' S ws bad := by
  have hS := h.lt
  obtain ⟨bk, off, cap, h1, h2, h3, h4, h5⟩ := h
  exact ⟨bk, off, cap, (hg.block S hS (fun e => by have := hr S e.symm; omega)).trans h1, h2, h3, h4,
    fun j x hx => (World.cell?_of_block (a := ⟨bk, off + j, none⟩) (hg.block bk (by omega) (fun e => by have := hr bk e.symm; omega))).trans (h5 j x hx)⟩
theorem below_grownAny {W W' : World} (hb : Below W.heap.size W W') (row : Option Nat) : W.grownBy W' row := ⟨hb.os, hb.tape, hb.output, hb.size, fun k hk _ => hb.block k hk⟩
theorem Sc.below {W W' : World} {S : Nat} {ws : List (List UInt8)} {bad : Bool} (h : Sc W S ws bad) (hb : Below W.heap.size W W') : Sc W' S ws bad :=
  h.grown (below_grownAny hb none) (fun k e => by cases e)

/-- What a call leaves that turns the scanner alone. -/
structure ScStep (W : World) (S : Nat) (ws : List (List UInt8)) (bad : Bool) (W' : World) : Prop where
  sc : Sc W' S ws bad
  grown : W.grownBy W' (some S)
theorem ScStep.row {W W' : World} {S g : Nat} {ws : List (List UInt8)} {bad : Bool} {o : Obj} (st : ScStep W S ws bad W') (h : W.heap[g]? = some o) (hne : g ≠ S) : W'.heap[g]? = some o :=
  (st.grown.block g (Array.getElem?_eq_some_iff.1 h).1 (by simpa using hne)).trans h
theorem ScStep.trans {a b c : World} {S : Nat} {ws ws' : List (List UInt8)} {bad bad' : Bool} (h : ScStep a S ws bad b) (k : ScStep b S ws' bad' c) : ScStep a S ws' bad' c := ⟨k.1, grownBy_trans h.2 k.2⟩

theorem sc_mark {W : World} {S : Nat} {ws : List (List UInt8)} {bad : Bool} (h : Sc W S ws bad) : ScStep W S ws true (W.setCell ⟨S, 1, none⟩ (.bool true)) := by
  obtain ⟨bk, off, cap, h1, h2, h3, h4, h5⟩ := h
  refine ⟨⟨bk, off, cap, Joins.block_setCell h1 _, h2, h3, h4, fun j x hx => ?_⟩, ⟨rfl, rfl, rfl, by simp [World.setCell], fun k _ hk => heap_setCell_other W ⟨S, 1, none⟩ k _ (fun e => hk (by simp [e]))⟩⟩
  rw [← h5 j x hx]
  exact World.cell?_of_block (heap_setCell_other W ⟨S, 1, none⟩ bk _ (by simp; omega))
theorem sc_next {W : World} {S bk off cap : Nat} {x : List UInt8} {t : List (List UInt8)} {bad : Bool} (h1 : W.heap[S]? = some (.cells #[.slice (some ⟨bk, off, none⟩) (t.length + 1) cap, .bool bad] 46 (0, 0))) (h2 : bk < S)
    (h3 : t.length + 1 ≤ cap) (h4 : cap ≤ maxLen) (h5 : ∀ j y, (x :: t)[j]? = some y → W.cell? ⟨bk, off + j, none⟩ = some (.string ⟨y.toArray⟩)) (off' : Nat) (ho : t = [] ∨ off' = off + 1) :
    ScStep W S t bad (W.setCell ⟨S, 0, none⟩ (.slice (some ⟨bk, off', none⟩) t.length (cap - 1))) := by
  refine ⟨⟨bk, off', cap - 1, Joins.block_setCell h1 _, h2, by omega, by omega, fun j y hy => ?_⟩, ⟨rfl, rfl, rfl, by simp [World.setCell], fun k _ hk => heap_setCell_other W ⟨S, 0, none⟩ k _ (fun e => hk (by simp [e]))⟩⟩
  rcases ho with rfl | rfl
  · simp at hy
  · rw [show off + 1 + j = off + (j + 1) by omega, ← h5 (j + 1) y (by simpa using hy)]
    exact World.cell?_of_block (heap_setCell_other W ⟨S, 0, none⟩ bk _ (by simp; omega))

set_option maxHeartbeats 2000000 in
theorem scWord_any (S : Nat) (ws : List (List UInt8)) (bad : Bool) (W : World) (h : Sc W S ws bad) :
    Calls Tryz.prog 40 #[.pointer (some ⟨S, 0, none⟩)] W fun e w' => e = .returned (.string ⟨(ws.headD []).toArray⟩) ∧ ScStep W S ws.tail (bad || ws.isEmpty) w' := by
  have HS := Lib.hid h
  obtain ⟨bk, off, cap, h1, h2, h3, h4, h5⟩ := h
  obtain ⟨⟨c0, c1⟩, p0, p1⟩ := row2 h1
  have H1 := Lib.hid h1
  have H5 := Lib.hid h5
  clear h1 h5
  unfold maxLen at h4
  cases ws with
  | nil =>
    go_enter Tryz.func40, Tryz.ntmps40
    go_wp2
    go_ret
    exact ⟨rfl, by rw [Bool.or_comm]; exact sc_mark HS.out⟩
  | cons x t =>
    simp only [List.length_cons] at h3 c0
    have hx := H5.out 0 x rfl
    rw [Nat.add_zero] at hx
    by_cases hc : cap = 1
    · subst hc
      have ht : t = [] := List.length_eq_zero_iff.1 (by omega)
      subst ht
      have fin := Lib.hid (sc_next (x := x) (t := []) (bad := bad) H1.out h2 (by simp) (by unfold maxLen; omega) H5.out off (.inl rfl))
      go_enter Tryz.func40, Tryz.ntmps40
      go_wp2
      go_ret
      exact ⟨rfl, by rw [show (bad || [x].isEmpty) = bad by simp]; exact fin.out⟩
    · have fin := Lib.hid (sc_next (x := x) (t := t) (bad := bad) H1.out h2 h3 (by unfold maxLen; omega) H5.out (off + 1) (.inr rfl))
      go_enter Tryz.func40, Tryz.ntmps40
      go_wp2
      go_ret
      exact ⟨rfl, by rw [show (bad || (x :: t).isEmpty) = bad by simp]; exact fin.out⟩

/-- Is the next word this one? -/
def isW (ws : List (List UInt8)) (x : List UInt8) : Bool := match ws with
  | [] => false
  | y :: _ => y == x

set_option maxHeartbeats 2000000 in
theorem scIs_any (S : Nat) (ws : List (List UInt8)) (bad : Bool) (z : List UInt8) (W : World) (h : Sc W S ws bad) :
    Calls Tryz.prog 17 #[.pointer (some ⟨S, 0, none⟩), .string ⟨z.toArray⟩] W fun e w' => e = .returned (.bool (isW ws z)) ∧ ScStep W S (if isW ws z then ws.tail else ws) bad w' := by
  have HS := Lib.hid h
  obtain ⟨bk, off, cap, h1, h2, h3, h4, h5⟩ := h
  obtain ⟨⟨c0, c1⟩, p0, p1⟩ := row2 h1
  have H1 := Lib.hid h1
  have H5 := Lib.hid h5
  clear h1 h5
  unfold maxLen at h4
  cases ws with
  | nil =>
    go_enter Tryz.func17, Tryz.ntmps17
    go_wp2
    go_ret
    exact ⟨rfl, HS.out, ⟨rfl, rfl, rfl, Nat.le_refl _, fun _ _ _ => rfl⟩⟩
  | cons x t =>
    simp only [List.length_cons] at h3 c0
    have hx := H5.out 0 x rfl
    rw [Nat.add_zero] at hx
    cases hxz : (x == z)
    · rw [show isW (x :: t) z = false from hxz]
      go_enter Tryz.func17, Tryz.ntmps17
      go_wp2
      go_ret
      exact ⟨rfl, HS.out, ⟨rfl, rfl, rfl, Nat.le_refl _, fun _ _ _ => rfl⟩⟩
    · rw [show isW (x :: t) z = true from hxz]
      by_cases hc : cap = 1
      · subst hc
        have ht : t = [] := List.length_eq_zero_iff.1 (by omega)
        subst ht
        have fin := Lib.hid (sc_next (x := x) (t := []) (bad := bad) H1.out h2 (by simp) (by unfold maxLen; omega) H5.out off (.inl rfl))
        go_enter Tryz.func17, Tryz.ntmps17
        go_wp2
        go_ret
        exact ⟨rfl, fin.out⟩
      · have fin := Lib.hid (sc_next (x := x) (t := t) (bad := bad) H1.out h2 h3 (by unfold maxLen; omega) H5.out (off + 1) (.inr rfl))
        go_enter Tryz.func17, Tryz.ntmps17
        go_wp2
        go_ret
        exact ⟨rfl, fin.out⟩

set_option maxHeartbeats 2000000 in
theorem scText_any (S : Nat) (ws : List (List UInt8)) (bad : Bool) (T : List UInt8) (W : World) (h : Sc W S ws bad) (hE : EnvP W) (hl : T.length ≤ 1000000000) :
    Calls Tryz.prog 39 #[.pointer (some ⟨S, 0, none⟩), .string ⟨T.toArray⟩] W fun e w' => e = .returned (.int .i64 (vaI T)) ∧ ScStep W S ws (bad || !okI T) w' := by
  have HS := Lib.hid h
  have HE := Lib.hid hE
  clear h hE
  cases hok : okI T
  · go_enter Tryz.func39, Tryz.ntmps39
    go_wp2_with fail
    refine (atoi_any T _ HE.out hl).mono ?_
    rintro e w1 ⟨er, rfl, _, h2, hb⟩
    obtain ⟨te, pe, rfl⟩ := h2 hok
    have S1 := HS.out.below hb
    have S2 := Lib.hid (sc_mark S1)
    obtain ⟨bk, off, cap, h1, _⟩ := S1
    obtain ⟨⟨c0, c1⟩, p0, p1⟩ := row2 h1
    clear h1
    go_wp2
    go_ret
    exact ⟨rfl, by rw [show (bad || !false) = true by simp]; exact ⟨S2.out.1, grownBy_trans (below_grownAny hb _) S2.out.2⟩⟩
  · go_enter Tryz.func39, Tryz.ntmps39
    go_wp2_with fail
    refine (atoi_any T _ HE.out hl).mono ?_
    rintro e w1 ⟨er, rfl, h1, _, hb⟩
    obtain rfl := h1 hok
    go_wp2
    go_ret
    exact ⟨rfl, by rw [show (bad || !true) = bad by simp]; exact ⟨HS.out.below hb, below_grownAny hb _⟩⟩

/-- All words are short. -/
def Sh (ws : List (List UInt8)) : Prop := ∀ x ∈ ws, x.length ≤ 1000000000
theorem Sh.head {ws : List (List UInt8)} (h : Sh ws) : (ws.headD []).length ≤ 1000000000 := by
  cases ws with
  | nil => simp
  | cons x t => exact h x (by simp)
theorem Sh.tail {ws : List (List UInt8)} (h : Sh ws) : Sh ws.tail := fun x hx => h x (List.mem_of_mem_tail hx)

set_option maxHeartbeats 2000000 in
theorem scNumber_any (B S : Nat) (ws : List (List UInt8)) (bad : Bool) (W : World) (h : Sc W S ws bad) (hE : EnvB B W) (hs : Sh ws) (hB : B ≤ S) :
    Calls Tryz.prog 16 #[.pointer (some ⟨S, 0, none⟩)] W fun e w' => e = .returned (.int .i64 (vaI (ws.headD []))) ∧ ScStep W S ws.tail ((bad || ws.isEmpty) || !okI (ws.headD [])) w' := by
  have HS := Lib.hid h
  have HE := Lib.hid hE
  have hh := hs.head
  clear h hE hs
  obtain ⟨b1, hb1⟩ : ∃ b, b = (bad || ws.isEmpty) := ⟨_, rfl⟩
  rw [← hb1]
  obtain ⟨x, hx⟩ : ∃ x, x = ws.headD [] := ⟨_, rfl⟩
  rw [← hx] at hh ⊢
  go_enter Tryz.func16, Tryz.ntmps16
  go_wp2_with fail
  refine (scWord_any S ws bad _ HS.out).mono ?_
  rintro e w1 ⟨rfl, s1⟩
  rw [← hx]
  rw [← hb1] at s1
  have S1 := Lib.hid s1
  have E1 := (HE.out.grown s1.grown hB).p
  clear s1 hb1 hx
  go_wp2_with fail
  refine (scText_any S ws.tail _ x _ S1.out.sc E1 hh).mono ?_
  rintro e w2 ⟨rfl, s2⟩
  have S2 := Lib.hid (S1.out.trans s2)
  clear s2 E1
  go_wp2
  go_ret
  exact ⟨rfl, S2.out⟩

/-- the two ends of a span's word -/
def cut1 (x : List UInt8) : List UInt8 := (Lib.cut x [45]).1
def cut2 (x : List UInt8) : List UInt8 := (Lib.cut x [45]).2.1

set_option maxHeartbeats 2000000 in
theorem scSpan_any (B S : Nat) (ws : List (List UInt8)) (bad : Bool) (W : World) (h : Sc W S ws bad) (hE : EnvB B W) (hs : Sh ws) (hB : B ≤ S) (h1 : (cut1 (ws.headD [])).length ≤ 1000000000) (h2 : (cut2 (ws.headD [])).length ≤ 1000000000) :
    Calls Tryz.prog 18 #[.pointer (some ⟨S, 0, none⟩)] W fun e w' => e = .returned (.agg #[.int .i64 (vaI (cut1 (ws.headD []))), .int .i64 (vaI (cut2 (ws.headD [])))]) ∧
      ScStep W S ws.tail (((bad || ws.isEmpty) || !okI (cut1 (ws.headD []))) || !okI (cut2 (ws.headD []))) w' := by
  have hh := hs.head
  have b0 : Below W.heap.size W (W.alloc (.cells #[.int .i64 0, .int .i64 0] 25)) := (Below.refl _ _).alloc (Nat.le_refl _) _
  have k0 := heap_alloc_new W (.cells #[.int .i64 0, .int .i64 0] 25)
  have K0 := Lib.hid k0
  have hlt := h.lt
  have HS := Lib.hid (h.below b0)
  have HG := Lib.hid (below_grownAny b0 (some S))
  have HE := Lib.hid (hE.below b0)
  clear h hE hs b0 k0
  obtain ⟨b1, hb1⟩ : ∃ b, b = (bad || ws.isEmpty) := ⟨_, rfl⟩
  rw [← hb1]
  obtain ⟨x, hx⟩ : ∃ x, x = ws.headD [] := ⟨_, rfl⟩
  rw [← hx] at hh h1 h2 ⊢
  go_enter Tryz.func18, Tryz.ntmps18
  go_wp2_with fail
  refine (scWord_any S ws bad _ HS.out).mono ?_
  rintro e w1 ⟨rfl, s1⟩
  rw [← hx]
  rw [← hb1] at s1
  have S1 := Lib.hid s1
  have E1 := Lib.hid (HE.out.grown s1.grown hB)
  have K1 := Lib.hid (s1.row K0.out (by omega))
  clear s1 hb1 hx K0
  obtain ⟨m, hm⟩ := E1.out.p.max
  go_wp2_with fail
  refine (Tryz.strings_Cut ⟨x.toArray⟩ ⟨#[45]⟩ m _ (by simp [ByteArray.size]; omega) hm).mono ?_
  rintro e w2 ⟨rfl, n, rfl⟩
  have d0 := below_drewN (Below.refl w1.heap.size w1) n
  have e1 : (Lib.cut (⟨x.toArray⟩ : ByteArray).data.toList (⟨#[45]⟩ : ByteArray).data.toList).1 = cut1 x := by simp [cut1]
  have e2 : (Lib.cut (⟨x.toArray⟩ : ByteArray).data.toList (⟨#[45]⟩ : ByteArray).data.toList).2.1 = cut2 x := by simp [cut2]
  rw [e1, e2]
  clear e1 e2 hm
  obtain ⟨w2, hw2⟩ : ∃ w2, w2 = w1.drewN n := ⟨_, rfl⟩
  rw [← hw2] at d0 ⊢
  have S2 := Lib.hid (S1.out.trans ⟨S1.out.sc.below d0, below_grownAny d0 _⟩)
  have E2 := Lib.hid (E1.out.below d0)
  have K2 := Lib.hid ((d0.block W.heap.size (Array.getElem?_eq_some_iff.1 K1.out).1).trans K1.out)
  clear hw2 d0 S1 E1 K1
  go_wp2_with fail
  refine (scText_any S ws.tail _ (cut1 x) _ S2.out.sc E2.out.p h1).mono ?_
  rintro e w3 ⟨rfl, s3⟩
  have S3 := Lib.hid (S2.out.trans s3)
  have E3 := Lib.hid (E2.out.grown s3.grown hB)
  have K3 := Lib.hid (s3.row K2.out (by omega))
  clear s3 S2 E2 K2
  go_wp2_with fail
  refine (scText_any S ws.tail _ (cut2 x) _ S3.out.sc E3.out.p h2).mono ?_
  rintro e w4 ⟨rfl, s4⟩
  have S4 := Lib.hid (S3.out.trans s4)
  have k4 := s4.row K3.out (by omega)
  have K4 := Lib.hid k4
  obtain ⟨⟨c0, c1⟩, p0, p1⟩ := row2 k4
  clear s4 S3 E3 K3 k4
  go_wp2
  refine bodyPost_ret (results_row (p := 2) (ty := 25) rfl row25 _ _ W.heap.size 25 #[.int .i64 (vaI (cut1 x)), .int .i64 (vaI (cut2 x))] rfl rfl (Joins.block_setCell (i := 1) (Joins.block_setCell (i := 0) K4.out _) _)) rfl ?_
  refine ⟨rfl, S4.out.sc.grown (row := some W.heap.size) ⟨rfl, rfl, rfl, by simp [World.setCell], fun k _ hk => ?_⟩ (fun k hk => by simp only [Option.some.injEq] at hk; omega), ?_⟩
  · exact (heap_setCell_other _ ⟨W.heap.size, 1, none⟩ k _ (fun e => hk (by simp [e]))).trans (heap_setCell_other _ ⟨W.heap.size, 0, none⟩ k _ (fun e => hk (by simp [e])))
  · have g := grownBy_trans HG.out S4.out.grown
    exact ⟨g.os, g.tape, g.output, by simp [World.setCell]; exact g.size, fun k hk hr => (heap_setCell_other _ ⟨W.heap.size, 1, none⟩ k _ (by show k ≠ W.heap.size; omega)).trans ((heap_setCell_other _ ⟨W.heap.size, 0, none⟩ k _ (by show k ≠ W.heap.size; omega)).trans (g.block k hk hr))⟩

end Go.Proofs.YtdofpealmngmiaaGreatDoor
