/- Joined texts: Walks: the program's ParseRule, whatever the text. Conditions: none. -/
import Derived.Test.YtijofgaekmahkaaGreatDoorM27
namespace Go.Proofs.YtijofgaekmahkaaGreatDoor
open Go.RowKit
def K0 (T : List UInt8) (r : Rl) (ws : List (List UInt8)) (bad : Bool) : Prop := (T = [] → bad = true) ∧ Gh T (fun r0 => bad = false ∧ ws = dec r0.value :: rest1 r0 ∧ r = { r0 with value := 0, group := -1, cap := 0, lo := 0, hi := 1000000, counts := all3, coupon := 0 })
def K1 (T : List UInt8) (r : Rl) (ws : List (List UInt8)) (bad : Bool) : Prop := (T = [] → bad = true) ∧ Gh T (fun r0 => bad = false ∧ ws = rest1 r0 ∧ r = { r0 with group := -1, cap := 0, lo := 0, hi := 1000000, counts := all3, coupon := 0 })
def K2 (T : List UInt8) (r : Rl) (ws : List (List UInt8)) (bad : Bool) : Prop := (T = [] → bad = true) ∧ Gh T (fun r0 => bad = false ∧ ws = capW r0 ++ (totW r0 ++ (cntD r0.counts 0 ++ cpnW r0)) ∧ r = { r0 with cap := 0, lo := 0, hi := 1000000, counts := all3, coupon := 0 })
def K3 (T : List UInt8) (r : Rl) (ws : List (List UInt8)) (bad : Bool) : Prop := (T = [] → bad = true) ∧ Gh T (fun r0 => bad = false ∧ ws = totW r0 ++ (cntD r0.counts 0 ++ cpnW r0) ∧ r = { r0 with lo := 0, hi := 1000000, counts := all3, coupon := 0 })
def K4 (T : List UInt8) (r : Rl) (ws : List (List UInt8)) (bad : Bool) : Prop := (T = [] → bad = true) ∧ Gh T (fun r0 => bad = false ∧ ws = cntD r0.counts 0 ++ cpnW r0 ∧ r = { r0 with counts := all3, coupon := 0 })
def K5 (T : List UInt8) (r : Rl) (ws : List (List UInt8)) (bad : Bool) : Prop := (T = [] → bad = true) ∧ Gh T (fun r0 => bad = false ∧ ws = cpnW r0 ∧ r = { r0 with coupon := 0 })
def K6 (T : List UInt8) (r : Rl) (bad : Bool) : Prop := (T = [] → bad = true) ∧ Gh T (fun r0 => bad = false ∧ r = r0)
def KK (T : List UInt8) (k : Int) (r : Rl) (ws : List (List UInt8)) (bad : Bool) : Prop := (T = [] → bad = true) ∧ Gh T (fun r0 => bad = false ∧ ws = kindW r0.kind :: dec r0.value :: rest1 r0 ∧ k ≤ r0.kind ∧ r = { r0 with kind := 0, value := 0, group := -1, cap := 0, lo := 0, hi := 1000000, counts := all3, coupon := 0 })
theorem kindW_inj {a b : Int} (ha : a = 1 ∨ a = 2 ∨ a = 3) (hb : b = 1 ∨ b = 2 ∨ b = 3) (h : kindW a = kindW b) : a = b := by
 rcases ha with rfl | rfl | rfl <;> rcases hb with rfl | rfl | rfl <;> first | rfl | (exfalso; revert h; decide)
theorem kk_yes {T : List UInt8} {k : Int} {r : Rl} {ws : List (List UInt8)} {bad : Bool} (h : KK T k r ws bad) (hk : k = 1 ∨ k = 2 ∨ k = 3) (hb : isW ws (kindW k) = true) : K0 T { r with kind := k } (if isW ws (kindW k) then ws.tail else ws) bad := by
 refine ⟨h.1, h.2.imp fun r0 ok _ ⟨h1, h2, h3, h4⟩ => ?_⟩
 subst h2
 rw [hb, if_pos rfl]
 rw [isW_eq, beq_iff_eq] at hb
 have := kindW_inj (okRu_num ok).2.2.2.2.2.2.2.2.2.1 hk hb
 subst h4
 exact ⟨h1, rfl, by rw [← this]⟩
theorem kk_no {T : List UInt8} {k : Int} {r : Rl} {ws : List (List UInt8)} {bad : Bool} (h : KK T k r ws bad) (hb : isW ws (kindW k) = false) : KK T (k + 1) r (if isW ws (kindW k) then ws.tail else ws) bad := by
 refine ⟨h.1, h.2.imp fun r0 ok _ ⟨h1, h2, h3, h4⟩ => ?_⟩
 subst h2
 rw [hb, if_neg (by decide)]
 rw [isW_eq, beq_eq_false_iff_ne] at hb
 exact ⟨h1, rfl, by have : k ≠ r0.kind := fun e => hb (by rw [e]); omega, h4⟩
theorem kk_end {T : List UInt8} {r : Rl} {ws : List (List UInt8)} {bad : Bool} (h : KK T 4 r ws bad) : K0 T r ws bad :=
 ⟨h.1, h.2.imp fun r0 ok _ ⟨_, _, h3, _⟩ => by have := (okRu_num ok).2.2.2.2.2.2.2.2.2.1; omega⟩
theorem k0_val {T : List UInt8} {r : Rl} {ws : List (List UInt8)} {bad : Bool} (h : K0 T r ws bad) : K1 T { r with value := vaI (ws.headD []) } ws.tail ((bad || ws.isEmpty) || !okI (ws.headD [])) :=
 ⟨fun e => by rw [h.1 e]; simp, h.2.imp fun r0 ok _ ⟨h1, h2, h3⟩ => by
   subst h1 h2 h3
   have hb := (okRu_num ok).2.2.2.2.2.2.2.2.2.2
   have := num_dec (n := r0.value) (by omega) (by omega)
   simp only [List.headD_cons, List.isEmpty_cons, List.tail_cons]
   exact ⟨by rw [this.2]; rfl, trivial, by rw [this.1]⟩⟩
theorem nn_step {T : List UInt8} {ws : List (List UInt8)} {bad : Bool} (h : T = [] → bad = true) : T = [] → ((bad || ws.isEmpty) || !okI (ws.headD [])) = true := fun e => by rw [h e]; simp
theorem next_rest2 (r : Rl) {z : List UInt8} (h1 : wCap ≠ z) (h2 : wTotal ≠ z) (h3 : wCount ≠ z) (h4 : wCoupon ≠ z) : nextNot (capW r ++ (totW r ++ (cntD r.counts 0 ++ cpnW r))) z :=
 next_app (next_cap r h1) (next_app (next_tot r h2) (next_app (next_cntD _ _ h3) (next_cpn r h4)))
theorem k1_no {T : List UInt8} {r : Rl} {ws : List (List UInt8)} {bad : Bool} (h : K1 T r ws bad) (hb : isW ws wGroup = false) : K2 T r ws bad :=
 ⟨h.1, h.2.imp fun r0 ok _ ⟨h1, h2, h3⟩ => by
   subst h2 h3
   by_cases hg : r0.group = -1
   · exact ⟨h1, by simp [rest1, grpW, hg], by rw [← hg]⟩
   · simp [rest1, grpW, hg, isW] at hb⟩
theorem k1_yes {T : List UInt8} {r : Rl} {ws : List (List UInt8)} {bad : Bool} (h : K1 T r ws bad) (hb : isW ws wGroup = true) : K2 T { r with group := vaI (ws.tail.headD []) } ws.tail.tail ((bad || ws.tail.isEmpty) || !okI (ws.tail.headD [])) :=
 ⟨nn_step h.1, h.2.imp fun r0 ok _ ⟨h1, h2, h3⟩ => by
   subst h1 h2 h3
   by_cases hg : r0.group = -1
   · rw [rest1, show grpW r0 = [] by simp [grpW, hg], List.nil_append, isW_not (next_rest2 r0 (by decide) (by decide) (by decide) (by decide))] at hb
     cases hb
   · have h4 := (okRu_num ok).2.2.2.1
     have := num_dec (n := r0.group) (by omega) (by omega)
     simp only [rest1, grpW, if_neg hg, List.cons_append, List.nil_append, List.tail_cons, List.headD_cons, List.isEmpty_cons]
     exact ⟨by rw [this.2]; rfl, trivial, by rw [this.1]⟩⟩
theorem k2_no {T : List UInt8} {r : Rl} {ws : List (List UInt8)} {bad : Bool} (h : K2 T r ws bad) (hb : isW ws wCap = false) : K3 T r ws bad :=
 ⟨h.1, h.2.imp fun r0 ok _ ⟨h1, h2, h3⟩ => by
   subst h2 h3
   by_cases hg : r0.cap = 0
   · exact ⟨h1, by simp [capW, hg], by rw [← hg]⟩
   · simp [capW, hg, isW] at hb⟩
theorem k2_yes {T : List UInt8} {r : Rl} {ws : List (List UInt8)} {bad : Bool} (h : K2 T r ws bad) (hb : isW ws wCap = true) : K3 T { r with cap := vaI (ws.tail.headD []) } ws.tail.tail ((bad || ws.tail.isEmpty) || !okI (ws.tail.headD [])) :=
 ⟨nn_step h.1, h.2.imp fun r0 ok _ ⟨h1, h2, h3⟩ => by
   subst h1 h2 h3
   by_cases hg : r0.cap = 0
   · rw [show capW r0 = [] by simp [capW, hg], List.nil_append, isW_not (next_app (next_tot r0 (by decide)) (next_app (next_cntD _ _ (by decide)) (next_cpn r0 (by decide))))] at hb
     cases hb
   · have h4 := (okRu_num ok).2.2.2.2.1
     have := num_dec (n := r0.cap) (by omega) (by omega)
     simp only [capW, if_neg hg, List.cons_append, List.nil_append, List.tail_cons, List.headD_cons, List.isEmpty_cons]
     exact ⟨by rw [this.2]; rfl, trivial, by rw [this.1]⟩⟩
theorem cut1_span (a b : Int) : cut1 (spW a b) = dec a ∧ cut2 (spW a b) = dec b := by
 unfold cut1 cut2
 rw [cut_span]
 exact ⟨rfl, rfl⟩
theorem all_iff {a b : Int} (h : allSp a b = true) : a = 0 ∧ b = 1000000 := by simpa [allSp] using h
theorem k3_no {T : List UInt8} {r : Rl} {ws : List (List UInt8)} {bad : Bool} (h : K3 T r ws bad) (hb : isW ws wTotal = false) : K4 T r ws bad :=
 ⟨h.1, h.2.imp fun r0 ok _ ⟨h1, h2, h3⟩ => by
   subst h2 h3
   cases hg : allSp r0.lo r0.hi
   · simp [totW, hg, isW] at hb
   · have := all_iff hg
     exact ⟨h1, by simp [totW, hg], by rw [← this.1, ← this.2]⟩⟩
theorem k3_yes {T : List UInt8} {r : Rl} {ws : List (List UInt8)} {bad : Bool} (h : K3 T r ws bad) (hb : isW ws wTotal = true) : K4 T { { r with lo := vaI (cut1 (ws.tail.headD [])) } with hi := vaI (cut2 (ws.tail.headD [])) } ws.tail.tail
   (((bad || ws.tail.isEmpty) || !okI (cut1 (ws.tail.headD []))) || !okI (cut2 (ws.tail.headD []))) :=
 ⟨fun e => by rw [h.1 e]; simp, h.2.imp fun r0 ok _ ⟨h1, h2, h3⟩ => by
   subst h1 h2 h3
   cases hg : allSp r0.lo r0.hi
   · obtain ⟨h4, h5⟩ := (okRu_num ok).2.2.2.2.2.1
     have p := num_dec h4.1 h4.2
     have q := num_dec h5.1 h5.2
     simp only [totW, hg, Bool.false_eq_true, if_false, List.cons_append, List.nil_append, List.tail_cons, List.headD_cons, List.isEmpty_cons, (cut1_span _ _).1, (cut1_span _ _).2]
     exact ⟨by rw [p.2, q.2]; rfl, trivial, by rw [p.1, q.1]⟩
   · rw [show totW r0 = [] by simp [totW, hg], List.nil_append, isW_not (next_app (next_cntD _ _ (by decide)) (next_cpn r0 (by decide)))] at hb
     cases hb⟩
theorem k5_no {T : List UInt8} {r : Rl} {ws : List (List UInt8)} {bad : Bool} (h : K5 T r ws bad) (hb : isW ws wCoupon = false) : K6 T r bad :=
 ⟨h.1, h.2.imp fun r0 ok _ ⟨h1, h2, h3⟩ => by
   subst h2 h3
   by_cases hg : r0.coupon = 0
   · exact ⟨h1, by rw [← hg]⟩
   · simp [cpnW, hg, isW] at hb⟩
theorem k5_yes {T : List UInt8} {r : Rl} {ws : List (List UInt8)} {bad : Bool} (h : K5 T r ws bad) (hb : isW ws wCoupon = true) : K6 T { r with coupon := vaI (ws.tail.headD []) } ((bad || ws.tail.isEmpty) || !okI (ws.tail.headD [])) :=
 ⟨nn_step h.1, h.2.imp fun r0 ok _ ⟨h1, h2, h3⟩ => by
   subst h1 h2 h3
   by_cases hg : r0.coupon = 0
   · simp [cpnW, hg, isW] at hb
   · have h4 := (okRu_num ok).2.2.2.2.2.2.2.2.1
     have := num_dec (n := r0.coupon) (by omega) (by omega)
     simp only [cpnW, if_neg hg, List.tail_cons, List.headD_cons, List.isEmpty_cons]
     exact ⟨by rw [this.2]; rfl, by rw [this.1]⟩⟩
theorem k4_start {T : List UInt8} {r : Rl} {ws : List (List UInt8)} {bad : Bool} (h : K4 T r ws bad) : KC T r ws bad :=
 ⟨h.1, h.2.imp fun r0 _ _ ⟨h1, h2, h3⟩ => ⟨h1, 0, by omega, h2, h3⟩⟩
theorem kc_end {T : List UInt8} {r : Rl} {ws : List (List UInt8)} {bad : Bool} (h : KC T r ws bad) (hb : isW ws wCount = false) : K5 T r ws bad :=
 ⟨h.1, h.2.imp fun r0 ok _ ⟨h1, k, hk, h2, h3⟩ => by
   subst h2 h3
   have := cnt_none r0.counts (cpnW r0) (3 - k) k (by omega) hb
   exact ⟨h1, by rw [this.1]; rfl, by rw [this.2, mix3 (okRu_num ok).2.2.2.2.2.2.1]⟩⟩
theorem kc_step {T : List UInt8} {r : Rl} {ws : List (List UInt8)} {bad : Bool} (h : KC T r ws bad) (hb : isW ws wCount = true) :
   (T = [] → ((((((bad || ws.tail.isEmpty) || !okI (ws.tail.headD [])) || ws.tail.tail.isEmpty) || !okI (cut1 (ws.tail.tail.headD []))) || !okI (cut2 (ws.tail.tail.headD [])))) = true) ∧
   Gh T (fun r0 => ((((((bad || ws.tail.isEmpty) || !okI (ws.tail.headD [])) || ws.tail.tail.isEmpty) || !okI (cut1 (ws.tail.tail.headD []))) || !okI (cut2 (ws.tail.tail.headD [])))) = false ∧ ∃ j : Nat, j < 3 ∧ vaI (ws.tail.headD []) = j ∧ ws.tail.tail.tail = cntD r0.counts (j + 1) ++ cpnW r0 ∧
     { r with counts := r.counts.set j (vaI (cut1 (ws.tail.tail.headD [])), vaI (cut2 (ws.tail.tail.headD []))) } = { r0 with counts := mix r0.counts (j + 1), coupon := 0 }) :=
 ⟨fun e => by rw [h.1 e]; simp, h.2.imp fun r0 ok _ ⟨h1, k, hk, h2, h3⟩ => by
   subst h1 h2 h3
   obtain ⟨j, hj, e1, e2⟩ := cnt_some r0.counts (cpnW r0) (isW_not (next_cpn r0 (by decide))) (3 - k) k (by omega) hb
   have hc := (okRu_num ok).2.2.2.2.2.2.2.1 j (by rw [(okRu_num ok).2.2.2.2.2.2.1]; exact hj)
   have n1 := num_dec (n := (j : Int)) (by omega) (by omega)
   have n2 := num_dec hc.1.1 hc.1.2
   have n3 := num_dec hc.2.1 hc.2.2
   rw [e1, e2]
   simp only [List.tail_cons, List.headD_cons, List.isEmpty_cons, (cut1_span _ _).1, (cut1_span _ _).2, n1.2, n2.2, n3.2]
   exact ⟨rfl, j, hj, n1.1, rfl, by rw [n2.1, n3.1, mix_set hj]⟩⟩
theorem kc_in {T : List UInt8} {r : Rl} {ws : List (List UInt8)} {bad : Bool} {n p q : Int} {j : Nat} (hn : n = (j : Int)) (h : (T = [] → bad = true) ∧ Gh T (fun r0 => bad = false ∧ ∃ j : Nat, j < 3 ∧ n = j ∧ ws = cntD r0.counts (j + 1) ++ cpnW r0 ∧ { r with counts := r.counts.set j (p, q) } = { r0 with counts := mix r0.counts (j + 1), coupon := 0 })) :
   KC T { r with counts := r.counts.set j (p, q) } ws bad :=
 ⟨h.1, h.2.imp fun r0 _ _ ⟨h1, i, hi, h2, h3, h4⟩ => by
   have : i = j := by omega
   subst this
   exact ⟨h1, i + 1, by omega, h3, h4⟩⟩
theorem kc_out {T : List UInt8} {r : Rl} {ws : List (List UInt8)} {bad : Bool} {n p q : Int} (hn : wi n 0 2 = false) (h : (T = [] → bad = true) ∧ Gh T (fun r0 => bad = false ∧ ∃ j : Nat, j < 3 ∧ n = j ∧ ws = cntD r0.counts (j + 1) ++ cpnW r0 ∧ { r with counts := r.counts.set j (p, q) } = { r0 with counts := mix r0.counts (j + 1), coupon := 0 })) :
   KC T r ws bad :=
 ⟨h.1, h.2.imp fun r0 _ _ ⟨h1, i, hi, h2, h3, h4⟩ => by
   have : wi n 0 2 = true := by rw [wi_true]; omega
   rw [hn] at this
   cases this⟩
theorem gh_is {T : List UInt8} {ws : List (List UInt8)} {bad : Bool} {z : List UInt8} {rest : Rl → List (List UInt8)} {P : Rl → Prop} (h : Gh T (fun r0 => bad = false ∧ ws = z :: rest r0 ∧ P r0)) :
   Gh T (fun r0 => bad = false ∧ (if isW ws z = true then ws.tail else ws) = rest r0 ∧ P r0) := h.imp fun r0 _ _ ⟨h1, h2, h3⟩ => by
 subst h2
 rw [isW_eq, beq_self_eq_true, if_pos rfl]
 exact ⟨h1, rfl, h3⟩
theorem sh_if {b : Bool} {ws : List (List UInt8)} (h : Sh ws) : Sh (if b then ws.tail else ws) := by cases b <;> first | exact h | exact h.tail
set_option maxHeartbeats 16000000 in
set_option maxRecDepth 100000 in
theorem implParse (T : List UInt8) (w : World) (hE0 : EnvB w.heap.size w) (hl : T.length ≤ 1000000000) :
   Calls Tryz.prog 33 #[.string ⟨T.toArray⟩] w (Parsed T w) := by
 have b0 : Below w.heap.size w (w.alloc (.cells #[.int .i64 0, .int .i64 0, .int .i64 0, .int .i64 0, .int .i64 0, .int .i64 0, .int .i64 0, .int .i64 0, .int .i64 0, .slice none 0 0, .int .i64 0] 43)) := (Below.refl _ _).alloc (Nat.le_refl _) _
 have k0 := heap_alloc_new w (.cells #[.int .i64 0, .int .i64 0, .int .i64 0, .int .i64 0, .int .i64 0, .int .i64 0, .int .i64 0, .int .i64 0, .int .i64 0, .slice none 0 0, .int .i64 0] 43)
 have hE : EnvB w.heap.size (w.alloc (.cells #[.int .i64 0, .int .i64 0, .int .i64 0, .int .i64 0, .int .i64 0, .int .i64 0, .int .i64 0, .int .i64 0, .int .i64 0, .slice none 0 0, .int .i64 0] 43)) := hE0.below b0
 have B0 := Lib.hid b0
 have HK := Lib.hid k0
 have HE := Lib.hid hE
 clear b0 k0 hE hE0
 go_enter Tryz.func33, Tryz.ntmps33
 go_wp2_with fail
 refine (split_any T _ HE.out.p hl).mono ?_
 rintro e w1 ⟨rfl, hc, hs, hb⟩
 rw [World.size_alloc] at hs hc ⊢
 have hk1 : w.heap.size < (w.alloc (.cells #[.int .i64 0, .int .i64 0, .int .i64 0, .int .i64 0, .int .i64 0, .int .i64 0, .int .i64 0, .int .i64 0, .int .i64 0, .slice none 0 0, .int .i64 0] 43)).heap.size := by simp
 have E1 := HE.out.below hb
 have hm : (wordsOf T).length ≤ maxLen := by have := words_count T; unfold maxLen; omega
 have A0 := Lib.hid (At.start (T := T) ((hb.block _ hk1).trans HK.out) hs hc E1 (B0.out.trans (hb.mono B0.out.size)) hl hm)
 obtain ⟨a0, a1⟩ := E1.p.env.all
 have a2 := E1.p.size
 have z1 : 0 < w1.heap.size := by omega
 have HG0 : Hid (∀ b0 : Bool, b0 = false → Gh T (fun r0 => b0 = false ∧ wordsOf T = dec r0.num :: wLevel :: dec r0.lvl :: wRank :: dec r0.rank :: kindW r0.kind :: dec r0.value :: rest1 r0 ∧ True)) := fun b0 hb0 r0 ok ht => ⟨hb0, by rw [← ht, words_text, restW_rest ok]; rfl, trivial⟩
 have N0 : T = [] → wordsOf T = [[]] := fun h => by rw [h]; exact words_nil
 clear hc hs hb hk1 E1 HK HE B0
 obtain ⟨ws, hws⟩ : ∃ ws, ws = wordsOf T := ⟨_, rfl⟩
 rw [← hws] at A0 HG0 N0 hm ⊢
 clear hws hm
 have HN0 := Lib.hid N0
 clear N0

 go_wp2_with fail
 refine (scNumber_any w.heap.size _ ws false _ A0.out.sc A0.out.env A0.out.sh (Nat.le_of_lt A0.out.ord.1)).mono ?_
 rintro e W1 ⟨rfl, st⟩
 have a := A0.out.step st A0.out.sh.tail
 have gg := gh_num (n := Rl.num) (rest := fun r0 => wLevel :: dec r0.lvl :: wRank :: dec r0.rank :: kindW r0.kind :: dec r0.value :: rest1 r0) (P := fun _ => True) (bad := false) (ws := ws) (HG0.out false rfl) num_b
 have nn : T = [] → ((false || ws.isEmpty) || !okI (ws.headD [])) = true := fun h => by rw [HN0.out h]; rfl
 clear st A0 HG0 HN0 a0 a1
 revert a gg nn
 generalize vaI (ws.headD []) = n1
 generalize ((false || ws.isEmpty) || !okI (ws.headD [])) = bad1
 generalize ws.tail = ws1
 intro a gg nn
 obtain ⟨cg, pg⟩ := a.at 0 _ rfl
 have A1 := Lib.hid (a.num n1)
 have G1 := Lib.hid gg
 have N1 := Lib.hid nn
 clear a gg nn
 go_wp2_with fail
 refine (scIs_any _ ws1 bad1 wLevel _ A1.out.sc).mono ?_
 rintro e W2 ⟨rfl, st⟩
 have a := A1.out.step st (sh_if A1.out.sh)
 have gg := gh_is (z := wLevel) (rest := fun r0 => dec r0.lvl :: wRank :: dec r0.rank :: kindW r0.kind :: dec r0.value :: rest1 r0) G1.out
 have N2 := N1
 clear st A1 cg pg G1 N1
 revert a gg
 generalize isW ws1 wLevel = b2
 generalize (if b2 = true then ws1.tail else ws1) = ws2
 revert N2
 generalize bad1 = bad2
 intro N2 a gg
 have A2 := Lib.hid a
 have G2 := Lib.hid gg
 clear a gg
 go_wp2_with fail
 refine (scNumber_any w.heap.size _ ws2 bad2 _ A2.out.sc A2.out.env A2.out.sh (Nat.le_of_lt A2.out.ord.1)).mono ?_
 rintro e W3 ⟨rfl, st⟩
 have a := A2.out.step st A2.out.sh.tail
 have gg := gh_num (n := Rl.lvl) (rest := fun r0 => wRank :: dec r0.rank :: kindW r0.kind :: dec r0.value :: rest1 r0) G2.out lvl_b
 have nn : T = [] → ((bad2 || ws2.isEmpty) || !okI (ws2.headD [])) = true := fun h => by rw [N2.out h]; simp
 clear st A2 G2 N2
 revert a gg nn
 generalize vaI (ws2.headD []) = n3
 generalize ((bad2 || ws2.isEmpty) || !okI (ws2.headD [])) = bad3
 generalize ws2.tail = ws3
 intro a gg nn
 obtain ⟨cg, pg⟩ := a.at 1 _ rfl
 have A3 := Lib.hid (a.lvl n3)
 have G3 := Lib.hid gg
 have N3 := Lib.hid nn
 clear a gg nn
 go_wp2_with fail
 refine (scIs_any _ ws3 bad3 wRank _ A3.out.sc).mono ?_
 rintro e W4 ⟨rfl, st⟩
 have a := A3.out.step st (sh_if A3.out.sh)
 have gg := gh_is (z := wRank) (rest := fun r0 => dec r0.rank :: kindW r0.kind :: dec r0.value :: rest1 r0) G3.out
 have N4 := N3
 clear st A3 cg pg G3 N3
 revert a gg
 generalize isW ws3 wRank = b4
 generalize (if b4 = true then ws3.tail else ws3) = ws4
 revert N4
 generalize bad3 = bad4
 intro N4 a gg
 have A4 := Lib.hid a
 have G4 := Lib.hid gg
 clear a gg
 go_wp2_with fail
 refine (scNumber_any w.heap.size _ ws4 bad4 _ A4.out.sc A4.out.env A4.out.sh (Nat.le_of_lt A4.out.ord.1)).mono ?_
 rintro e W5 ⟨rfl, st⟩
 have a := A4.out.step st A4.out.sh.tail
 have gg := gh_num (n := Rl.rank) (rest := fun r0 => kindW r0.kind :: dec r0.value :: rest1 r0) G4.out rank_b
 have nn : T = [] → ((bad4 || ws4.isEmpty) || !okI (ws4.headD [])) = true := fun h => by rw [N4.out h]; simp
 clear st A4 G4 N4
 revert a gg nn
 generalize vaI (ws4.headD []) = n5
 generalize ((bad4 || ws4.isEmpty) || !okI (ws4.headD [])) = bad5
 generalize ws4.tail = ws5
 intro a gg nn
 obtain ⟨cg, pg⟩ := a.at 2 _ rfl
 have A5 := Lib.hid (a.rank n5)
 have G5 := Lib.hid gg
 have N5 := Lib.hid nn
 clear a gg nn
 have KS : Hid (KK T 1 { { { r00 with num := n1 } with lvl := n3 } with rank := n5 } ws5 bad5) := ⟨N5.out, G5.out.imp fun r0 ok _ ⟨h1, h2, h3, h4, h5, _⟩ => ⟨h1, h2, by have := (okRu_num ok).2.2.2.2.2.2.2.2.2.1; omega, by subst h3 h4 h5; rfl⟩⟩
 have AS := Lib.hid A5.out
 clear A5 G5 N5
 go_upto_region 8 with fail
 clear cg pg
 go_cut [6] from 7 (fun kv wr => kv = .int .i64 1 ∧ ∃ r ws bad, Hid (At w w1.heap.size (w1.heap.size + 1) (w1.heap.size + 1 + 1) r ws bad wr) ∧ Hid (KK T 1 r ws bad))
 case first =>
   go_wp2
   go_meet
   case rel => exact ⟨rfl, _, _, _, AS, KS⟩
 clear AS KS
 obtain ⟨rfl, r, ws, bad, AS, KS⟩ := hcut
 refine (by assumption : ∀ (a : Act) (w' : World), Code.wp _ _ _ a w' → _) _ _ ?_
 go_cut [] from 6 (fun wr => ∃ r ws bad, Hid (At w w1.heap.size (w1.heap.size + 1) (w1.heap.size + 1 + 1) r ws bad wr) ∧ Hid (K0 T r ws bad))
 case first =>
   go_wp2
   go_loopw [6] (fun kv wr => ∃ k : Int, kv = .int .i64 k ∧ (k = 1 ∨ k = 2 ∨ k = 3 ∨ k = 4) ∧ ∃ r ws bad, Hid (At w w1.heap.size (w1.heap.size + 1) (w1.heap.size + 1 + 1) r ws bad wr) ∧ Hid (KK T k r ws bad)) (fun kv _ => (4 - intOf kv).toNat)
   case atStart => exact ⟨1, rfl, .inl rfl, r, ws, bad, AS, KS⟩
   case round =>
     clear AS KS
     obtain ⟨k, rfl, hk, r, ws, bad, AS, KS⟩ := hrel
     rcases hk with rfl | rfl | rfl | rfl
     · obtain ⟨bm, hgl, hlk⟩ := AS.out.env.p.env.kinds
       have hg0 : 1 < wr.heap.size := by have := AS.out.env.p.size; omega
       have hl1 := hlk wr (Below.refl _ _) 1 (by simp)
       go_wp2_with fail
       refine (scIs_any _ ws bad (kindW 1) _ AS.out.sc).mono ?_
       rintro e W6 ⟨rfl, st⟩
       have a := AS.out.step st (sh_if AS.out.sh)
       cases hb : isW ws (kindW 1)
       · have kk := Lib.hid (kk_no KS.out hb)
         have a := Lib.hid a
         clear st AS KS hgl hlk hl1
         go_wp2
         go_roundw
         case rel => exact ⟨1 + 1, by go_num, by omega, r, _, bad, a, kk⟩
         case measure => simp [intOf]
       · have kk := Lib.hid (kk_yes KS.out (by simp) hb)
         obtain ⟨cg, pg⟩ := a.at 4 _ rfl
         have a := Lib.hid (a.kind 1)
         clear st AS KS hgl hlk hl1
         go_wp2
         go_meet
         case rel => exact ⟨_, _, bad, a, kk⟩
     · obtain ⟨bm, hgl, hlk⟩ := AS.out.env.p.env.kinds
       have hg0 : 1 < wr.heap.size := by have := AS.out.env.p.size; omega
       have hl1 := hlk wr (Below.refl _ _) 2 (by simp)
       go_wp2_with fail
       refine (scIs_any _ ws bad (kindW 2) _ AS.out.sc).mono ?_
       rintro e W6 ⟨rfl, st⟩
       have a := AS.out.step st (sh_if AS.out.sh)
       cases hb : isW ws (kindW 2)
       · have kk := Lib.hid (kk_no KS.out hb)
         have a := Lib.hid a
         clear st AS KS hgl hlk hl1
         go_wp2
         go_roundw
         case rel => exact ⟨2 + 1, by go_num, by omega, r, _, bad, a, kk⟩
         case measure => simp [intOf]
       · have kk := Lib.hid (kk_yes KS.out (by simp) hb)
         obtain ⟨cg, pg⟩ := a.at 4 _ rfl
         have a := Lib.hid (a.kind 2)
         clear st AS KS hgl hlk hl1
         go_wp2
         go_meet
         case rel => exact ⟨_, _, bad, a, kk⟩
     · obtain ⟨bm, hgl, hlk⟩ := AS.out.env.p.env.kinds
       have hg0 : 1 < wr.heap.size := by have := AS.out.env.p.size; omega
       have hl1 := hlk wr (Below.refl _ _) 3 (by simp)
       go_wp2_with fail
       refine (scIs_any _ ws bad (kindW 3) _ AS.out.sc).mono ?_
       rintro e W6 ⟨rfl, st⟩
       have a := AS.out.step st (sh_if AS.out.sh)
       cases hb : isW ws (kindW 3)
       · have kk := Lib.hid (kk_no KS.out hb)
         have a := Lib.hid a
         clear st AS KS hgl hlk hl1
         go_wp2
         go_roundw
         case rel => exact ⟨3 + 1, by go_num, by omega, r, _, bad, a, kk⟩
         case measure => simp [intOf]
       · have kk := Lib.hid (kk_yes KS.out (by simp) hb)
         obtain ⟨cg, pg⟩ := a.at 4 _ rfl
         have a := Lib.hid (a.kind 3)
         clear st AS KS hgl hlk hl1
         go_wp2
         go_meet
         case rel => exact ⟨_, _, bad, a, kk⟩
     · have kk := Lib.hid (kk_end KS.out)
       clear KS
       go_wp2
       go_meet
       case rel => exact ⟨r, ws, bad, AS, kk⟩
 case rest =>
   clear AS KS
   obtain ⟨r, ws, bad, AS, KS⟩ := hcut
   go_wp2_with fail
   refine (scNumber_any w.heap.size _ ws bad _ AS.out.sc AS.out.env AS.out.sh (Nat.le_of_lt AS.out.ord.1)).mono ?_
   rintro e W6 ⟨rfl, st⟩
   have a := AS.out.step st AS.out.sh.tail
   have kk := k0_val KS.out
   clear st AS KS
   obtain ⟨cg, pg⟩ := a.at 5 _ rfl
   have a := a.value (vaI (ws.headD []))
   revert a kk
   generalize vaI (ws.headD []) = n6
   generalize ((bad || ws.isEmpty) || !okI (ws.headD [])) = bad6
   generalize ws.tail = ws6
   intro kk a
   obtain ⟨r, ws, bad, AS, KS⟩ : ∃ r ws bad, Hid (At w w1.heap.size (w1.heap.size + 1) (w1.heap.size + 1 + 1) r ws bad (W6.setCell ⟨w1.heap.size + 1 + 1, 5, none⟩ (.int .i64 n6))) ∧ Hid (K1 T r ws bad) := ⟨_, _, _, a, kk⟩
   clear a kk
   go_wp2_with fail
   refine (scIs_any _ ws bad wGroup _ AS.out.sc).mono ?_
   rintro e W6 ⟨rfl, st⟩
   have a := AS.out.step st (sh_if AS.out.sh)
   have AX := Lib.hid a
   clear st AS a
   go_upto_if 48 with fail
   go_cut [] from 6 (fun wr => ∃ r ws bad, Hid (At w w1.heap.size (w1.heap.size + 1) (w1.heap.size + 1 + 1) r ws bad wr) ∧ Hid (K2 T r ws bad))
   case first =>
     have a := AX.out
     cases hb : isW ws wGroup
     · rw [hb, if_neg (by decide)] at a
       have a := Lib.hid a
       have kk := Lib.hid (k1_no KS.out hb)
       clear KS AX
       go_wp2
       go_meet
       case rel => exact ⟨r, ws, bad, a, kk⟩
     · rw [hb, if_pos rfl] at a
       have kk := Lib.hid (k1_yes KS.out hb)
       clear KS AX
       go_wp2_with fail
       refine (scNumber_any w.heap.size _ ws.tail bad _ a.sc a.env a.sh (Nat.le_of_lt a.ord.1)).mono ?_
       rintro e W7 ⟨rfl, st⟩
       have a := a.step st a.sh.tail
       obtain ⟨cg, pg⟩ := a.at 3 _ rfl
       obtain ⟨n, hn⟩ : ∃ n, n = vaI (ws.tail.headD []) := ⟨_, rfl⟩
       rw [← hn] at kk ⊢
       have a := Lib.hid (a.group n)
       clear st hn
       go_wp2
       go_meet
       case rel => exact ⟨_, _, _, a, kk⟩
   clear AX KS cg pg
   obtain ⟨r, ws, bad, AS, KS⟩ := hcut
   go_wp2_with fail
   refine (scIs_any _ ws bad wCap _ AS.out.sc).mono ?_
   rintro e W6 ⟨rfl, st⟩
   have a := AS.out.step st (sh_if AS.out.sh)
   have AX := Lib.hid a
   clear st AS a
   go_upto_if 53 with fail
   go_cut [] from 6 (fun wr => ∃ r ws bad, Hid (At w w1.heap.size (w1.heap.size + 1) (w1.heap.size + 1 + 1) r ws bad wr) ∧ Hid (K3 T r ws bad))
   case first =>
     have a := AX.out
     cases hb : isW ws wCap
     · rw [hb, if_neg (by decide)] at a
       have a := Lib.hid a
       have kk := Lib.hid (k2_no KS.out hb)
       clear KS AX
       go_wp2
       go_meet
       case rel => exact ⟨r, ws, bad, a, kk⟩
     · rw [hb, if_pos rfl] at a
       have kk := Lib.hid (k2_yes KS.out hb)
       clear KS AX
       go_wp2_with fail
       refine (scNumber_any w.heap.size _ ws.tail bad _ a.sc a.env a.sh (Nat.le_of_lt a.ord.1)).mono ?_
       rintro e W7 ⟨rfl, st⟩
       have a := a.step st a.sh.tail
       obtain ⟨cg, pg⟩ := a.at 6 _ rfl
       obtain ⟨n, hn⟩ : ∃ n, n = vaI (ws.tail.headD []) := ⟨_, rfl⟩
       rw [← hn] at kk ⊢
       have a := Lib.hid (a.cap n)
       clear st hn
       go_wp2
       go_meet
       case rel => exact ⟨_, _, _, a, kk⟩
   clear AX KS
   obtain ⟨r, ws, bad, AS, KS⟩ := hcut
   go_wp2_with fail
   refine (scIs_any _ ws bad wTotal _ AS.out.sc).mono ?_
   rintro e W6 ⟨rfl, st⟩
   have a := AS.out.step st (sh_if AS.out.sh)
   have AX := Lib.hid a
   clear st AS a
   go_upto_if 58 with fail
   go_cut [] from 6 (fun wr => ∃ r ws bad, Hid (At w w1.heap.size (w1.heap.size + 1) (w1.heap.size + 1 + 1) r ws bad wr) ∧ Hid (K4 T r ws bad))
   case first =>
     have a := AX.out
     cases hb : isW ws wTotal
     · rw [hb, if_neg (by decide)] at a
       have a := Lib.hid a
       have kk := Lib.hid (k3_no KS.out hb)
       clear KS AX
       go_wp2
       go_meet
       case rel => exact ⟨r, ws, bad, a, kk⟩
     · rw [hb, if_pos rfl] at a
       have kk := Lib.hid (k3_yes KS.out hb)
       clear KS AX
       go_wp2_with fail
       refine (scSpan_any w.heap.size _ ws.tail bad _ a.sc a.env a.sh (Nat.le_of_lt a.ord.1) (Nat.le_trans (cut_len _).1 a.sh.head) (Nat.le_trans (cut_len _).2 a.sh.head)).mono ?_
       rintro e W7 ⟨rfl, st⟩
       have a := a.step st a.sh.tail
       obtain ⟨cg, pg⟩ := a.at 7 _ rfl
       obtain ⟨cg2, pg2⟩ := a.at 8 _ rfl
       obtain ⟨n, hn⟩ : ∃ n, n = vaI (cut1 (ws.tail.headD [])) := ⟨_, rfl⟩
       obtain ⟨n2, hn2⟩ : ∃ n, n = vaI (cut2 (ws.tail.headD [])) := ⟨_, rfl⟩
       rw [← hn, ← hn2] at kk ⊢
       have a := Lib.hid ((a.lo n).hi n2)
       clear st hn hn2
       go_wp2
       go_meet
       case rel => exact ⟨_, _, _, a, kk⟩
   clear AX KS
   obtain ⟨r, ws, bad, AS, KS⟩ := hcut
   refine (by assumption : ∀ (a : Act) (w' : World), Code.wp _ _ _ a w' → _) _ _ ?_
   refine wp_seq_k (fun K9 hK9 => ?_)
   go_cut [] from 6 (fun wr => ∃ r ws bad, Hid (At w w1.heap.size (w1.heap.size + 1) (w1.heap.size + 1 + 1) r ws bad wr) ∧ Hid (K5 T r ws bad))
   case first =>
     go_wp2
     go_loopw [] (fun wr => ∃ r ws bad, Hid (At w w1.heap.size (w1.heap.size + 1) (w1.heap.size + 1 + 1) r ws bad wr) ∧ Hid (KC T r ws bad)) (fun wr => scLen wr w1.heap.size)
     case atStart => exact ⟨r, ws, bad, AS, Lib.hid (k4_start KS.out)⟩
     case round =>
       clear AS KS
       obtain ⟨r, ws, bad, AS, KS⟩ := hrel
       have hsl := Lib.hid AS.out.sc.len
       go_wp2_with fail
       refine (scIs_any _ ws bad wCount _ AS.out.sc).mono ?_
       rintro e W6 ⟨rfl, st⟩
       have a := AS.out.step st (sh_if AS.out.sh)
       clear st AS
       cases hb : isW ws wCount
       · rw [hb, if_neg (by decide)] at a
         have a := Lib.hid a
         have kk := Lib.hid (kc_end KS.out hb)
         clear KS
         go_wp2
         go_meet
         case rel => exact ⟨r, ws, bad, a, kk⟩
       · rw [hb, if_pos rfl] at a
         have ks := kc_step KS.out hb
         have hlen := Lib.hid (isW_len hb)
         clear KS
         go_wp2_with fail
         refine (scNumber_any w.heap.size _ ws.tail bad _ a.sc a.env a.sh (Nat.le_of_lt a.ord.1)).mono ?_
         rintro e W7 ⟨rfl, st⟩
         have a := a.step st a.sh.tail
         clear st
         revert a ks
         generalize vaI (ws.tail.headD []) = n
         generalize ((bad || ws.tail.isEmpty) || !okI (ws.tail.headD [])) = bad7
         intro ks a
         go_wp2_with fail
         refine (scSpan_any w.heap.size _ ws.tail.tail bad7 _ a.sc a.env a.sh (Nat.le_of_lt a.ord.1) (Nat.le_trans (cut_len _).1 a.sh.head) (Nat.le_trans (cut_len _).2 a.sh.head)).mono ?_
         rintro e W8 ⟨rfl, st⟩
         have a := a.step st a.sh.tail
         clear st
         revert a ks
         generalize vaI (cut1 (ws.tail.tail.headD [])) = p
         generalize vaI (cut2 (ws.tail.tail.headD [])) = q
         generalize (((bad7 || ws.tail.tail.isEmpty) || !okI (cut1 (ws.tail.tail.headD []))) || !okI (cut2 (ws.tail.tail.headD []))) = bad8
         intro ks a
         have a := a.alloc (.cells #[.int .i64 p, .int .i64 q] 38)
         have ks := Lib.hid ks
         cases hw : wi n 0 2
         · have kk := Lib.hid (kc_out hw ks.out)
           have a := Lib.hid a
           have hm := Lib.hid a.out.sc.len
           clear ks
           go_wp2_with (go_at_call 35; refine (within_any _ _ _ _).mono ?_; rintro e w9 ⟨rfl, hw9⟩; subst hw9; rw [hw])
           go_roundw
           case rel => exact ⟨r, _, _, a, kk⟩
           case measure => rw [hm.out, hsl.out]; exact hlen.out
         · have hw2 := hw
           rw [wi_true] at hw2
           obtain ⟨j, rfl⟩ := Int.eq_ofNat_of_zero_le hw2.1
           have hj : j < 3 := by omega
           obtain ⟨c9, _⟩ := a.at 9 _ rfl
           obtain ⟨a0, b0, a1, b1, a2, b2, _, h2⟩ := a.F
           obtain ⟨_, _, i0, i1, j0, j1⟩ := six_at h2 hj
           have kk := Lib.hid (kc_in (j := j) rfl ks.out)
           have a := Lib.hid (a.count j hj p q)
           have hm := Lib.hid a.out.sc.len
           clear ks h2
           go_wp2_with (go_at_call 35; refine (within_any _ _ _ _).mono ?_; rintro e w9 ⟨rfl, hw9⟩; subst hw9; rw [hw])
           go_roundw
           case rel => exact ⟨_, _, _, a, kk⟩
           case measure => rw [hm.out, hsl.out]; exact hlen.out
   clear AS KS
   obtain ⟨r, ws, bad, AS, KS⟩ := hcut
   go_wp2_with fail
   refine (scIs_any _ ws bad wCoupon _ AS.out.sc).mono ?_
   rintro e W6 ⟨rfl, st⟩
   have a := AS.out.step st (sh_if AS.out.sh)
   have AX := Lib.hid a
   clear st AS a
   go_upto_if 78 with fail
   go_cut [] from 6 (fun wr => ∃ r ws bad, Hid (At w w1.heap.size (w1.heap.size + 1) (w1.heap.size + 1 + 1) r ws bad wr) ∧ Hid (K6 T r bad))
   case first =>
     have a := AX.out
     cases hb : isW ws wCoupon
     · rw [hb, if_neg (by decide)] at a
       have a := Lib.hid a
       have kk := Lib.hid (k5_no KS.out hb)
       clear KS AX
       go_wp2
       go_meet
       case rel => exact ⟨r, ws, bad, a, kk⟩
     · rw [hb, if_pos rfl] at a
       have kk := Lib.hid (k5_yes KS.out hb)
       clear KS AX
       go_wp2_with fail
       refine (scNumber_any w.heap.size _ ws.tail bad _ a.sc a.env a.sh (Nat.le_of_lt a.ord.1)).mono ?_
       rintro e W7 ⟨rfl, st⟩
       have a := a.step st a.sh.tail
       obtain ⟨cg, pg⟩ := a.at 10 _ rfl
       obtain ⟨n, hn⟩ : ∃ n, n = vaI (ws.tail.headD []) := ⟨_, rfl⟩
       rw [← hn] at kk ⊢
       have a := Lib.hid (a.coupon n)
       clear st hn
       go_wp2
       go_meet
       case rel => exact ⟨_, _, _, a, kk⟩
   clear AX KS
   obtain ⟨r, ws, bad, AS, KS⟩ := hcut
   have A := AS.out
   obtain ⟨o1, o2, o3⟩ := A.ord
   obtain ⟨bk, off, cp, hs, _⟩ := A.sc
   obtain ⟨⟨s0, s1⟩, _⟩ := row2 hs
   clear hs
   have zw : w.heap.size ≤ w.heap.size := Nat.le_refl _
   cases bad
   · obtain ⟨⟨c0, c1, c2, c3, c4, c5, c6, c7, c8, c9, c10⟩, _⟩ := row11 A.G
     obtain ⟨a0, b0, a1, b1, a3, b3, h1, h2⟩ := A.F
     have RD : Rd wc 2 (.slice (some ⟨w1.heap.size + 1, 0, none⟩) 3 3) r.counts.length (pr r.counts) := by rw [h1]; exact Rd.of_owns (six_owns h2 (Nat.zero_le _))
     have RD := Lib.hid RD
     have H1 := Lib.hid h1
     have H2 := Lib.hid h2
     clear h1 h2 A
     go_wp2_with fail
     refine (implFormat_any r _ _ AS.out.env.p.env RD.out).mono ?_
     rintro e W9 ⟨rfl, hb⟩
     have k9 := (hb.block w.heap.size (Array.getElem?_eq_some_iff.1 AS.out.K).1).trans AS.out.K
     have g9 := (hb.block (w1.heap.size + 1 + 1) (Array.getElem?_eq_some_iff.1 AS.out.G).1).trans AS.out.G
     have f9 := (hb.block (w1.heap.size + 1) (Array.getElem?_eq_some_iff.1 H2.out).1).trans H2.out
     have B9 := Lib.hid (AS.out.bel.trans (hb.mono AS.out.bel.size))
     have K9 := Lib.hid k9
     have F9 := Lib.hid f9
     clear c0 c1 c2 c3 c4 c5 c6 c7 c8 c9 c10 s0 s1 hb f9
     obtain ⟨⟨d0, d1, d2, d3, d4, d5, d6, d7, d8, d9, d10⟩, q0, q1, q2, q3, q4, q5, q6, q7, q8, q9, q10⟩ := row11 k9
     obtain ⟨⟨c0, c1, c2, c3, c4, c5, c6, c7, c8, c9, c10⟩, _⟩ := row11 g9
     have G9 := Lib.hid g9
     clear k9 g9
     by_cases hf : fmtR r = T
     · have hok : okRu r = true := by
         cases ho : okRu r with
         | true => rfl
         | false =>
           have h0 : fmtR r = [] := by unfold fmtR; rw [ho]; rfl
           have := KS.out.1 (hf.symm.trans h0)
           cases this
       have ht : textR r = T := by rw [← hf]; unfold fmtR; rw [hok]; rfl
       have fin : Hid (okRu r = true ∧ textR r = T ∧ (∀ r0, okRu r0 = true → textR r0 = T → r0 = r)) := ⟨hok, ht, fun r0 h3 h4 => ((KS.out.2 r0 h3 h4).2).symm⟩
       rw [hf]
       have HF := Lib.hid hf
       clear hf ht hok KS q0 q1 q2 q3 q4 q5 q6 q7 q8 q9 q10 d0 d1 d2 d3 d4 d5 d6 d7 d8 d9 d10
       go_upto_region 29 with fail
       refine wp_copy3 (t := 94) (pd := 2) (ps := 5) (ty := 43) rfl rfl rfl rfl rfl (.bool true) rfl rfl (w1.heap.size + 1 + 1) w.heap.size #[.int .i64 r.num, .int .i64 r.lvl, .int .i64 r.rank, .int .i64 r.group, .int .i64 r.kind, .int .i64 r.value, .int .i64 r.cap, .int .i64 r.lo, .int .i64 r.hi, .slice (some ⟨w1.heap.size + 1, 0, none⟩) 3 3, .int .i64 r.coupon] #[.int .i64 0, .int .i64 0, .int .i64 0, .int .i64 0, .int .i64 0, .int .i64 0, .int .i64 0, .int .i64 0, .int .i64 0, .slice none 0 0, .int .i64 0] 43 43 11 row43 rfl rfl (by kernel_rfl) G9.out (by kernel_rfl) K9.out (by kernel_rfl) (by simp [Value.oneCell']) ?_
       have KR := Lib.hid (setRow_heap W9 w.heap.size _ #[.int .i64 r.num, .int .i64 r.lvl, .int .i64 r.rank, .int .i64 r.group, .int .i64 r.kind, .int .i64 r.value, .int .i64 r.cap, .int .i64 r.lo, .int .i64 r.hi, .slice (some ⟨w1.heap.size + 1, 0, none⟩) 3 3, .int .i64 r.coupon] 43 (0, 0) K9.out)
       have BR := Lib.hid (setRow_below B9.out zw B9.out.size #[.int .i64 r.num, .int .i64 r.lvl, .int .i64 r.rank, .int .i64 r.group, .int .i64 r.kind, .int .i64 r.value, .int .i64 r.cap, .int .i64 r.lo, .int .i64 r.hi, .slice (some ⟨w1.heap.size + 1, 0, none⟩) 3 3, .int .i64 r.coupon])
       have O9 : W9.ownsRow w.heap.size 38 2 (.slice (some ⟨w1.heap.size + 1, 0, none⟩) 3 3) r.counts.length (pr r.counts) := by rw [H1.out]; exact six_owns F9.out (by omega)
       have NV : ∀ k, (Value.slice (some ⟨w1.heap.size + 1, 0, none⟩) 3 3).ownBlock = some k → k ≠ w.heap.size := fun k hk => by have : w1.heap.size + 1 = k := Option.some.inj hk; omega
       have OR := Lib.hid (owns_row0 O9 NV #[.int .i64 r.num, .int .i64 r.lvl, .int .i64 r.rank, .int .i64 r.group, .int .i64 r.kind, .int .i64 r.value, .int .i64 r.cap, .int .i64 r.lo, .int .i64 r.hi, .slice (some ⟨w1.heap.size + 1, 0, none⟩) 3 3, .int .i64 r.coupon])
       clear O9 NV c0 c1 c2 c3 c4 c5 c6 c7 c8 c9 c10
       revert KR BR OR
       generalize W9.setRow w.heap.size _ = W10
       intro KR BR OR
       go_wp
       refine bodyPost_ret (results_row_tmp (p := 2) (q := 3) (ty := 43) (by kernel_rfl) row43 _ _ w.heap.size 43 #[.int .i64 r.num, .int .i64 r.lvl, .int .i64 r.rank, .int .i64 r.group, .int .i64 r.kind, .int .i64 r.value, .int .i64 r.cap, .int .i64 r.lo, .int .i64 r.hi, .slice (some ⟨w1.heap.size + 1, 0, none⟩) 3 3, .int .i64 r.coupon] rfl (by kernel_rfl) KR.out) rfl ?_
       exact ⟨.inl ⟨r, .slice (some ⟨w1.heap.size + 1, 0, none⟩) 3 3, fin.out.1, fin.out.2.1, fin.out.2.2, rfl, OR.out⟩, BR.out⟩
     · have hne : (fmtR r == T) = false := by rw [beq_eq_false_iff_ne]; exact hf
       have fin : Hid (∀ r0, okRu r0 = true → textR r0 ≠ T) := fun r0 h3 h4 => hf (by
         have h5 := (KS.out.2 r0 h3 h4).2
         subst h5
         rw [← h4]
         unfold fmtR
         rw [h3]
         rfl)
       clear hf KS c0 c1 c2 c3 c4 c5 c6 c7 c8 c9 c10 q0 q1 q2 q3 q4 q5 q6 q7 q8 q9 q10 d0 d1 d2 d3 d4 d5 d6 d7 d8 d9 d10
       go_upto_region 28 with fail
       refine wp_zero3 (t := 93) (pd := 2) (ty := 43) rfl rfl rfl rfl rfl (.bool false) rfl rfl w.heap.size #[.int .i64 0, .int .i64 0, .int .i64 0, .int .i64 0, .int .i64 0, .int .i64 0, .int .i64 0, .int .i64 0, .int .i64 0, .slice none 0 0, .int .i64 0] #[.int .i64 0, .int .i64 0, .int .i64 0, .int .i64 0, .int .i64 0, .int .i64 0, .int .i64 0, .int .i64 0, .int .i64 0, .slice none 0 0, .int .i64 0] 43 11 row43 rfl rfl built_rule (by kernel_rfl) K9.out (by kernel_rfl) (by simp [Value.oneCell']) ?_
       have KR := Lib.hid (setRow_heap W9 w.heap.size _ #[.int .i64 0, .int .i64 0, .int .i64 0, .int .i64 0, .int .i64 0, .int .i64 0, .int .i64 0, .int .i64 0, .int .i64 0, .slice none 0 0, .int .i64 0] 43 (0, 0) K9.out)
       have BR := Lib.hid (setRow_below B9.out zw B9.out.size #[.int .i64 0, .int .i64 0, .int .i64 0, .int .i64 0, .int .i64 0, .int .i64 0, .int .i64 0, .int .i64 0, .int .i64 0, .slice none 0 0, .int .i64 0])
       revert KR BR
       generalize W9.setRow w.heap.size _ = W10
       intro KR BR
       go_wp
       refine bodyPost_ret (results_row_tmp (p := 2) (q := 3) (ty := 43) (by kernel_rfl) row43 _ _ w.heap.size 43 #[.int .i64 0, .int .i64 0, .int .i64 0, .int .i64 0, .int .i64 0, .int .i64 0, .int .i64 0, .int .i64 0, .int .i64 0, .slice none 0 0, .int .i64 0] rfl (by kernel_rfl) KR.out) rfl ?_
       exact ⟨.inr ⟨fin.out, rfl⟩, BR.out⟩
   · have fin : Hid (∀ r0, okRu r0 = true → textR r0 ≠ T) := fun r0 h3 h4 => by
       have := (KS.out.2 r0 h3 h4).1
       cases this
     have K9 := Lib.hid A.K
     have B9 := Lib.hid A.bel
     clear A KS
     go_upto_region 28 with fail
     refine wp_zero3 (t := 93) (pd := 2) (ty := 43) rfl rfl rfl rfl rfl (.bool false) rfl rfl w.heap.size #[.int .i64 0, .int .i64 0, .int .i64 0, .int .i64 0, .int .i64 0, .int .i64 0, .int .i64 0, .int .i64 0, .int .i64 0, .slice none 0 0, .int .i64 0] #[.int .i64 0, .int .i64 0, .int .i64 0, .int .i64 0, .int .i64 0, .int .i64 0, .int .i64 0, .int .i64 0, .int .i64 0, .slice none 0 0, .int .i64 0] 43 11 row43 rfl rfl built_rule (by kernel_rfl) K9.out (by kernel_rfl) (by simp [Value.oneCell']) ?_
     have KR := Lib.hid (setRow_heap wc w.heap.size _ #[.int .i64 0, .int .i64 0, .int .i64 0, .int .i64 0, .int .i64 0, .int .i64 0, .int .i64 0, .int .i64 0, .int .i64 0, .slice none 0 0, .int .i64 0] 43 (0, 0) K9.out)
     have BR := Lib.hid (setRow_below B9.out zw B9.out.size #[.int .i64 0, .int .i64 0, .int .i64 0, .int .i64 0, .int .i64 0, .int .i64 0, .int .i64 0, .int .i64 0, .int .i64 0, .slice none 0 0, .int .i64 0])
     revert KR BR
     generalize wc.setRow w.heap.size _ = W10
     intro KR BR
     go_wp
     refine bodyPost_ret (results_row_tmp (p := 2) (q := 3) (ty := 43) (by kernel_rfl) row43 _ _ w.heap.size 43 #[.int .i64 0, .int .i64 0, .int .i64 0, .int .i64 0, .int .i64 0, .int .i64 0, .int .i64 0, .int .i64 0, .int .i64 0, .slice none 0 0, .int .i64 0] rfl (by kernel_rfl) KR.out) rfl ?_
     exact ⟨.inr ⟨fin.out, rfl⟩, BR.out⟩
end Go.Proofs.YtijofgaekmahkaaGreatDoor
