/- Joined texts: Walks: the reference's way to cut a text and to read a number. Walks: the reference's words, read one by one. Conditions: none. -/
import Derived.Test.YtijofgaekmahkaaGreatDoorM25
import Derived.Deep.RegionHeld3
namespace Go.Proofs.YtijofgaekmahkaaGreatDoor
open Go.RowKit
theorem ext_take (T : List UInt8) (a b : Nat) : (⟨T.toArray⟩ : ByteArray).extract a b = ⟨((T.take b).drop a).toArray⟩ := by
 have h : ((⟨T.toArray⟩ : ByteArray).extract a b).data = ((T.take b).drop a).toArray := by
   rw [ByteArray.data_extract]
   simp [List.drop_take]
 cases he : (⟨T.toArray⟩ : ByteArray).extract a b with
 | mk d => rw [he] at h; rw [show d = _ from h]
theorem app_strs {P : Program} {w : World} {ops : Array Oper} {rest : List Oper} {o : Oper} {a : Act} {Q : Exit → Act → World → Prop} (hgd : o.guard = none) (s x : Operand) (t : TypeId)
   (ho : o.op = .call { callee := .builtin .append, args := #[s, x], argTypes := #[t, t] }) (base : Nat) (e t2 : TypeId) (i : TypeInfo) (z : Value) (ht : P.underlying t = some (.slice e)) (hi : P.info? e = some i) (hz : i.zero = some z)
   (hs : i.size = 1) (hby : i.bytes = 16) (hzs : z.cells.size = 1) (v : Value) (ws : List (List UInt8)) (ys : List (List UInt8)) (xs : List Value) (hxs : xs = sw ys) (c : Nat) (hv : a.eval s = v) (hown : w.ownsRow base e 1 v ws.length (sw ws))
   (hx : a.eval x = .slice (some ⟨w.heap.size, 0, none⟩) ys.length c) (hlen : ws.length ≤ 1000000001) (hlen2 : ys.length ≤ 100000) (hbase : base ≤ w.heap.size)
   (h : ∀ v' w1, w1.ownsRow base e 1 v' (ws ++ ys).length (sw (ws ++ ys)) → (w.alloc (.cells xs.toArray t2)).grownBy w1 v.ownBlock → wpList P ops Q rest (a.put o.dst v') w1) :
   wpList P ops Q (o :: rest) a (w.alloc (.cells xs.toArray t2)) := by
 subst hxs
 refine wpList_append_own _ hgd s x t ho base e i z 1 16 ht hi hz hs hby hzs (by decide) v ws.length (sw ws) hv (hown.alloc _) ⟨w.heap.size, 0, none⟩ ys.length c (sw ys) hx (by rw [sw_len, Nat.mul_one]) (cells_new w _ t2) (by
   intro u hu
   obtain ⟨y, _, rfl⟩ := List.mem_map.1 hu
   rfl) (by unfold maxLen; omega) (by omega) (by rw [World.size_alloc]; omega) ?_
 intro v' w1 h1 h2 _
 refine h v' w1 ?_ h2
 rw [sw_append, List.length_append]
 exact h1
set_option maxRecDepth 100000 in
set_option maxHeartbeats 1000000 in
theorem splitAt_any (T : List UInt8) (c : UInt8) (w : World) (hl : T.length ≤ 1000000000) :
   Calls Tryz.prog 43 #[.string ⟨T.toArray⟩, .int .u8 (c.toNat : Int)] w fun e w' => ∃ v, e = .returned v ∧ w'.ownsRow w.heap.size 9 1 v (spl c T).length (sw (spl c T)) ∧ Below w.heap.size w w' := by
 obtain ⟨i0, hi, hz0, hz1, hz2⟩ := info_parts infoStr
 have HI := Lib.hid hi
 have HZ0 := Lib.hid hz0
 have HZ1 := Lib.hid hz1
 have HZ2 := Lib.hid hz2
 clear hi hz0 hz1 hz2
 have hs : (⟨T.toArray⟩ : ByteArray).size = T.length := by simp [ByteArray.size]
 have O0 : Hid ((w.alloc (.cells #[] 9)).ownsRow w.heap.size 9 1 (.slice (some ⟨w.heap.size, 0, none⟩) 0 0) ([] : List (List UInt8)).length (sw [])) := World.ownsRow_made w #[] 0 (Nat.le_refl _) (by simp) (by simp)
 have B0 : Below w.heap.size w (w.alloc (.cells #[] 9)) := (Below.refl _ _).alloc (Nat.le_refl _) _
 go_enter Tryz.func43, Tryz.ntmps43
 go_wp2
 go_loopw [5, 6, 7] (fun ov fv iv wr => ∃ (i fr : Nat) (out : List (List UInt8)), iv = .int .i64 i ∧ fv = .int .i64 fr ∧ fr ≤ i ∧ i ≤ T.length ∧ Hid (spl c (T.take i) = out ++ [(T.take i).drop fr]) ∧ Hid (wr.ownsRow w.heap.size 9 1 ov out.length (sw out)) ∧ Below w.heap.size w wr) (fun _ _ iv _ => T.length - (intOf iv).toNat)
 case atStart => exact ⟨0, 0, [], rfl, rfl, Nat.le_refl _, Nat.zero_le _, rfl, O0, B0⟩
 case round =>
   clear O0 B0
   obtain ⟨i, fr, out, rfl, rfl, hfi, hi, hsp, hown, hbl⟩ := hrel
   have hol : out.length ≤ 1000000001 := by
     have h1 := (spl_len c (T.take i)).1
     have h2 := congrArg List.length hsp.out
     simp only [List.length_append, List.length_singleton, List.length_take] at h1 h2
     omega
   by_cases hlt : i < T.length
   · obtain ⟨x, hx⟩ : ∃ x, T[i]? = some x := ⟨_, List.getElem?_eq_getElem hlt⟩
     have hi1 := str_index hx
     have htk : T.take (i + 1) = T.take i ++ [x] := by rw [List.take_add_one, hx]; rfl
     have hsn := spl_snoc c x (T.take i) _ _ hsp.out
     rw [← htk] at hsn
     have hw : IntKind.i64.wrap ((i : Int) + 1) = (i : Int) + 1 := IntWalk.i64_in _ (by omega)
     by_cases hxc : x = c
     · subst hxc
       rw [if_pos rfl] at hsn
       have fin := Lib.hid hsn
       clear hsn htk hx
       have he : [Value.string ((⟨T.toArray⟩ : ByteArray).extract fr i)] = sw [(T.take i).drop fr] := by rw [ext_take]; rfl
       have HE := Lib.hid he
       clear he
       go_wp2_with (at_builtin; refine app_strs rfl (.tmp 20) (.tmp 25) 23 rfl w.heap.size 9 9 i0 _ Tryz.underlying23 HI.out HZ0.out HZ1.out HZ2.out rfl _ out [(T.take i).drop fr] _ HE.out 1 rfl hown.out rfl hol (by simp) hbl.size ?_; intro v5 w9 ho9 hg9)
       go_roundw
       case rel =>
         refine ⟨i + 1, i + 1, out ++ [(T.take i).drop fr], by go_num, by go_num, by omega, by omega, ?_, ho9, (hbl.alloc hbl.size _).grown hg9 (by rw [World.size_alloc]; exact Nat.le_succ_of_le hbl.size) (fun k hk => (hown.out.lt k hk).1)⟩
         have h0 : (T.take (i + 1)).drop (i + 1) = [] := by rw [List.drop_eq_nil_iff, List.length_take]; omega
         rw [h0]
         exact fin.out
       case measure => simp [intOf]; omega
     · rw [if_neg hxc] at hsn
       have hnb : ((x.toNat : Int) == (c.toNat : Int)) = false := by
         rw [beq_eq_false_iff_ne]
         intro e
         exact hxc (UInt8.toNat_inj.1 (by omega))
       have e9 : (T.take (i + 1)).drop fr = (T.take i).drop fr ++ [x] := by
         rw [htk, List.drop_append_of_le_length (by rw [List.length_take]; omega)]
       rw [← e9] at hsn
       have fin := Lib.hid hsn
       clear hsn htk hx hxc e9
       go_wp2
       go_roundw
       case rel => exact ⟨i + 1, fr, out, by go_num, rfl, by omega, by omega, fin.out, hown, hbl⟩
       case measure => simp [intOf]; omega
   · have hiT : i = T.length := by omega
     have hsp2 : spl c T = out ++ [T.drop fr] := by have := hsp.out; rw [hiT, List.take_length] at this; exact this
     have he : [Value.string ((⟨T.toArray⟩ : ByteArray).extract fr T.length)] = sw [T.drop fr] := by rw [ext_take, List.take_length]; rfl
     have HE := Lib.hid he
     have HP := Lib.hid hsp2
     clear hsp hsp2 he hiT
     go_wp2_with (at_builtin; refine app_strs rfl (.tmp 29) (.tmp 33) 23 rfl w.heap.size 9 9 i0 _ Tryz.underlying23 HI.out HZ0.out HZ1.out HZ2.out rfl _ out [T.drop fr] _ HE.out 1 rfl hown.out rfl hol (by simp) hbl.size ?_; intro v5 w9 ho9 hg9)
     go_ret
     exact ⟨_, rfl, by rw [HP.out]; exact ho9, (hbl.alloc hbl.size _).grown hg9 (by rw [World.size_alloc]; exact Nat.le_succ_of_le hbl.size) (fun k hk => (hown.out.lt k hk).1)⟩
theorem pI_out {T : List UInt8} (h : T = [] ∨ 7 < T.length) : pI T = -1 := by unfold pI; rw [if_pos h]
theorem pI_in {T : List UInt8} (h : ¬ (T = [] ∨ 7 < T.length)) (hd : ∀ b ∈ T, isD b = true) : pI T = if dec (dvl T : Int) = T then (dvl T : Int) else -1 := by
 unfold pI
 rw [if_neg h, if_pos (List.all_eq_true.2 hd)]
theorem pI_bad {T : List UInt8} {b : UInt8} (hb : b ∈ T) (hd : isD b = false) : pI T = -1 := by
 unfold pI
 split
 · rfl
 · rw [if_neg]
   intro h
   have := List.all_eq_true.1 h b hb
   rw [hd] at this
   cases this
set_option maxRecDepth 100000 in
set_option maxHeartbeats 1000000 in
theorem parseInt_any (T : List UInt8) (w : World) (hl : T.length ≤ 1000000000) :
   Calls Tryz.prog 46 #[.string ⟨T.toArray⟩] w fun e w' => e = .returned (.int .i64 (pI T)) ∧ Below w.heap.size w w' := by
 have hs : (⟨T.toArray⟩ : ByteArray).size = T.length := by simp [ByteArray.size]
 by_cases h0 : T.length = 0
 · have fin := Lib.hid (pI_out (T := T) (.inl (List.length_eq_zero_iff.1 h0)))
   go_enter Tryz.func46, Tryz.ntmps46
   go_wp2
   all_goals go_ret
   all_goals exact ⟨by rw [fin.out]; rfl, Below.refl _ _⟩
 by_cases h7 : 7 < T.length
 · have fin := Lib.hid (pI_out (T := T) (.inr h7))
   go_enter Tryz.func46, Tryz.ntmps46
   go_wp2
   all_goals go_ret
   all_goals exact ⟨by rw [fin.out]; rfl, Below.refl _ _⟩
 have hne : ¬ (T = [] ∨ 7 < T.length) := by
   rintro (h | h)
   · subst h; simp at h0
   · exact h7 h
 have HN := Lib.hid hne
 have hz : ((T.length : Int) == 0) = false := by simpa using h0
 have h8 : T.length ≤ 7 := by omega
 clear hne h7 h0
 go_enter Tryz.func46, Tryz.ntmps46
 go_wp2
 go_loopw [3, 4] (fun nv iv wr => ∃ i n : Nat, iv = .int .i64 i ∧ nv = .int .i64 n ∧ i ≤ T.length ∧ n < 10000000 ∧ Hid (n = dvl (T.take i)) ∧ Hid (∀ b ∈ T.take i, isD b = true) ∧ Below w.heap.size w wr) (fun _ iv _ => T.length - (intOf iv).toNat)
 case atStart => exact ⟨0, 0, rfl, rfl, Nat.zero_le _, by omega, rfl, fun b hb => by simp at hb, Below.refl _ _⟩
 case round =>
   obtain ⟨i, n, rfl, rfl, hi, hn, hv, hd, hbl⟩ := hrel
   by_cases hlt : i < T.length
   · obtain ⟨x, hx⟩ : ∃ x, T[i]? = some x := ⟨_, List.getElem?_eq_getElem hlt⟩
     have hi1 := str_index hx
     have hxm : x ∈ T := List.mem_of_getElem? hx
     have htk : T.take (i + 1) = T.take i ++ [x] := by rw [List.take_add_one, hx]; rfl
     have hx255 := x.toNat_lt
     cases hD : isD x
     · have fin := Lib.hid (pI_bad hxm hD)
       have hw9 : wi (x.toNat : Int) 48 57 = false := by
         rw [wi_false]
         by_cases h1 : 48 ≤ x.toNat
         · simp only [isD, h1, decide_true, Bool.true_and, decide_eq_false_iff_not] at hD
           omega
         · omega
       clear htk hx hD
       go_wp2_with (go_at_call 54; refine (inRange_any _ _ _ _).mono ?_; rintro e w9 ⟨rfl, h9⟩; subst h9; rw [hw9])
       go_ret
       exact ⟨by rw [fin.out]; rfl, hbl⟩
     · have hD2 := hD
       simp only [isD, Bool.and_eq_true, decide_eq_true_eq] at hD2
       have hw9 : wi (x.toNat : Int) 48 57 = true := by rw [wi_true]; omega
       have h1 : IntKind.i64.wrap (10 * (n : Int)) = 10 * (n : Int) := IntWalk.i64_in _ (by omega)
       have h2 : IntKind.i64.wrap (10 * (n : Int) + (x.toNat : Int)) = 10 * (n : Int) + (x.toNat : Int) := IntWalk.i64_in _ (by omega)
       have h3 : IntKind.i64.wrap (10 * (n : Int) + (x.toNat : Int) - 48) = 10 * (n : Int) + (x.toNat : Int) - 48 := IntWalk.i64_in _ (by omega)
       have hw : IntKind.i64.wrap ((i : Int) + 1) = (i : Int) + 1 := IntWalk.i64_in _ (by omega)
       have hdv : dvl (T.take (i + 1)) = n * 10 + (x.toNat - 48) := by rw [htk, dvl_snoc, ← hv.out]
       have hall : ∀ b ∈ T.take (i + 1), isD b = true := fun b hb => by
         rw [htk, List.mem_append, List.mem_singleton] at hb
         rcases hb with hb | rfl
         · exact hd.out b hb
         · exact hD
       have hbd := dvl_lt (i + 1) (T.take (i + 1)) (by rw [List.length_take]; omega) hall
       have hp : 10 ^ (i + 1) ≤ 10 ^ 7 := Nat.pow_le_pow_right (by omega) (by omega)
       have hn2 : n * 10 + (x.toNat - 48) < 10000000 := by rw [← hdv]; omega
       have fin := Lib.hid hdv
       have fal := Lib.hid hall
       clear htk hx hD hdv hall hbd hp
       go_wp2_with (go_at_call 54; refine (inRange_any _ _ _ _).mono ?_; rintro e w9 ⟨rfl, h9⟩; subst h9; rw [hw9])
       go_roundw
       case rel =>
         exact ⟨i + 1, n * 10 + (x.toNat - 48), by go_num, by rw [show (((n * 10 + (x.toNat - 48) : Nat)) : Int) = 10 * (n : Int) + (x.toNat : Int) - 48 by omega], by omega, hn2, fin.out.symm, fal.out, hbl⟩
       case measure => simp [intOf]; omega
   · have hiT : i = T.length := by omega
     have hv2 : n = dvl T := by have := hv.out; rw [hiT, List.take_length] at this; exact this
     have hd2 : ∀ b ∈ T, isD b = true := fun b hb => by have := hd.out b; rw [hiT, List.take_length] at this; exact this hb
     have hp := pI_in HN.out hd2
     rw [← hv2] at hp
     by_cases he : dec (n : Int) = T
     · rw [if_pos he] at hp
       have fin := Lib.hid hp
       have hb : (dec (n : Int) == T) = true := by rw [he]; simp
       clear hv hd hv2 hd2 hp hiT he
       go_wp2_with (go_at_call 49; refine (decimal_run _ _ (by omega) (by omega)).mono ?_; rintro e w9 ⟨rfl, b9⟩)
       go_ret
       exact ⟨by rw [fin.out]; rfl, hbl.trans (b9.mono hbl.size)⟩
     · rw [if_neg he] at hp
       have fin := Lib.hid hp
       have hb : (dec (n : Int) == T) = false := by simpa using he
       clear hv hd hv2 hd2 hp hiT he
       go_wp2_with (go_at_call 49; refine (decimal_run _ _ (by omega) (by omega)).mono ?_; rintro e w9 ⟨rfl, b9⟩)
       go_ret
       exact ⟨by rw [fin.out]; rfl, hbl.trans (b9.mono hbl.size)⟩
end Go.Proofs.YtijofgaekmahkaaGreatDoor

namespace Go.Proofs.YtijofgaekmahkaaGreatDoor
open Go.RowKit
def Sw (W : World) (S : Nat) (ws : List (List UInt8)) : Prop :=
 ∃ (bk n cap k : Nat), W.heap[S]? = some (.cells #[.slice (some ⟨bk, 0, none⟩) n cap, .int .i64 k] 148 (0, 0)) ∧ bk < S ∧ n ≤ cap ∧ cap ≤ maxLen ∧ k + ws.length = n ∧
   ∀ j x, ws[j]? = some x → W.cell? ⟨bk, k + j, none⟩ = some (.string ⟨x.toArray⟩)
theorem Sw.lt {W : World} {S : Nat} {ws : List (List UInt8)} (h : Sw W S ws) : S < W.heap.size := by
 obtain ⟨_, _, _, _, h1, _⟩ := h
 exact (Array.getElem?_eq_some_iff.1 h1).1
theorem Sw.grown {W W' : World} {S : Nat} {ws : List (List UInt8)} (h : Sw W S ws) {row : Option Nat} (hg : W.grownBy W' row) (hr : ∀ k, row = some k → S < k) : Sw W' S ws := by
 have hS := h.lt
 obtain ⟨bk, n, cap, k, h1, h2, h3, h4, h5, h6⟩ := h
 exact ⟨bk, n, cap, k, (hg.block S hS (fun e => by have := hr S e.symm; omega)).trans h1, h2, h3, h4, h5,
   fun j x hx => (World.cell?_of_block (a := ⟨bk, k + j, none⟩) (hg.block bk (by omega) (fun e => by have := hr bk e.symm; omega))).trans (h6 j x hx)⟩
theorem Sw.below {W W' : World} {S : Nat} {ws : List (List UInt8)} (h : Sw W S ws) (hb : Below W.heap.size W W') : Sw W' S ws :=
 h.grown (below_grownAny hb none) (fun k e => by cases e)
structure SwStep (W : World) (S : Nat) (ws : List (List UInt8)) (W' : World) : Prop where
 sw : Sw W' S ws
 grown : W.grownBy W' (some S)
theorem SwStep.row {W W' : World} {S g : Nat} {ws : List (List UInt8)} {o : Obj} (st : SwStep W S ws W') (h : W.heap[g]? = some o) (hne : g ≠ S) : W'.heap[g]? = some o :=
 (st.grown.block g (Array.getElem?_eq_some_iff.1 h).1 (by simpa using hne)).trans h
theorem SwStep.trans {a b c : World} {S : Nat} {ws ws' : List (List UInt8)} (h : SwStep a S ws b) (k : SwStep b S ws' c) : SwStep a S ws' c := ⟨k.1, grownBy_trans h.2 k.2⟩
theorem Sw.stay {W W' : World} {S : Nat} {ws : List (List UInt8)} (h : Sw W S ws) (hb : Below W.heap.size W W') : SwStep W S ws W' := ⟨h.below hb, below_grownAny hb _⟩
theorem sw_next {W : World} {S bk n cap k : Nat} {x : List UInt8} {t : List (List UInt8)} (h1 : W.heap[S]? = some (.cells #[.slice (some ⟨bk, 0, none⟩) n cap, .int .i64 k] 148 (0, 0))) (h2 : bk < S)
   (h3 : n ≤ cap) (h4 : cap ≤ maxLen) (h5 : k + (t.length + 1) = n) (h6 : ∀ j y, (x :: t)[j]? = some y → W.cell? ⟨bk, k + j, none⟩ = some (.string ⟨y.toArray⟩)) :
   SwStep W S t (W.setCell ⟨S, 1, none⟩ (.int .i64 ((k : Int) + 1))) := by
 refine ⟨⟨bk, n, cap, k + 1, Joins.block_setCell h1 _, h2, h3, h4, by omega, fun j y hy => ?_⟩, ⟨rfl, rfl, rfl, by simp [World.setCell], fun i _ hk => heap_setCell_other W ⟨S, 1, none⟩ i _ (fun e => hk (by simp [e]))⟩⟩
 rw [show k + 1 + j = k + (j + 1) by omega, ← h6 (j + 1) y (by simpa using hy)]
 exact World.cell?_of_block (heap_setCell_other W ⟨S, 1, none⟩ bk _ (by simp; omega))
theorem sw_drawn {W : World} {S bk n cap k : Nat} {x : List UInt8} {t : List (List UInt8)} (h : Sw W S (x :: t)) (h1 : W.heap[S]? = some (.cells #[.slice (some ⟨bk, 0, none⟩) n cap, .int .i64 k] 148 (0, 0))) (h2 : bk < S)
   (h3 : n ≤ cap) (h4 : cap ≤ maxLen) (h5 : k + (t.length + 1) = n) (h6 : ∀ j y, (x :: t)[j]? = some y → W.cell? ⟨bk, k + j, none⟩ = some (.string ⟨y.toArray⟩)) :
   ∀ m, SwStep W S t ((W.drewN m).setCell ⟨S, 1, none⟩ (.int .i64 ((k : Int) + 1))) := fun m =>
 (h.stay (below_drewN (Below.refl _ _) m)).trans (sw_next (W := W.drewN m) h1 h2 h3 h4 h5 h6)
set_option maxRecDepth 100000 in
set_option maxHeartbeats 2000000 in
theorem swWord_any (S : Nat) (ws : List (List UInt8)) (z : List UInt8) (W : World) (h : Sw W S ws) :
   Calls Tryz.prog 125 #[.pointer (some ⟨S, 0, none⟩), .string ⟨z.toArray⟩] W fun e w' => e = .returned (.bool (isW ws z)) ∧ SwStep W S (if isW ws z then ws.tail else ws) w' := by
 have HS := Lib.hid h
 obtain ⟨bk, n, cap, k, h1, h2, h3, h4, h5, h6⟩ := h
 obtain ⟨⟨c0, c1⟩, p0, p1⟩ := row2 h1
 have H1 := Lib.hid h1
 have H6 := Lib.hid h6
 clear h1 h6
 unfold maxLen at h4
 cases ws with
 | nil =>
   simp only [List.length_nil, Nat.add_zero] at h5
   subst h5
   have hd : decide ((k : Int) < (k : Int)) = false := by simp
   go_enter Tryz.func125, Tryz.ntmps125
   go_wp2
   go_quiet (fail)
   go_wp2
   go_ret
   exact ⟨rfl, HS.out.stay (below_drewN (Below.refl _ _) _)⟩
 | cons x t =>
   simp only [List.length_cons] at h5
   have hx := H6.out 0 x rfl
   rw [Nat.add_zero] at hx
   have hlt : (k : Int) < (n : Int) := by omega
   have hkn : k < n := by omega
   have hw : IntKind.i64.wrap ((k : Int) + 1) = (k : Int) + 1 := IntWalk.i64_in _ (by omega)
   cases hxz : (x == z)
   · rw [show isW (x :: t) z = false from hxz]
     go_enter Tryz.func125, Tryz.ntmps125
     go_wp2
     go_quiet (fail)
     go_wp2
     go_ret
     exact ⟨rfl, HS.out.stay (below_drewN (Below.refl _ _) _)⟩
   · rw [show isW (x :: t) z = true from hxz]
     have fin := Lib.hid (sw_drawn HS.out H1.out h2 h3 (by unfold maxLen; omega) (by omega) H6.out)
     go_enter Tryz.func125, Tryz.ntmps125
     go_wp2
     go_quiet (fail)
     go_wp2
     go_ret
     exact ⟨rfl, fin.out _⟩
theorem sh_head {x : List UInt8} {t : List (List UInt8)} (h : Sh (x :: t)) : x.length ≤ 1000000000 := h x (by simp)
set_option maxRecDepth 100000 in
set_option maxHeartbeats 2000000 in
theorem swNumber_any (S : Nat) (ws : List (List UInt8)) (W : World) (h : Sw W S ws) (hs : Sh ws) :
   Calls Tryz.prog 124 #[.pointer (some ⟨S, 0, none⟩)] W fun e w' => e = .returned (.int .i64 (numV ws)) ∧ SwStep W S ws.tail w' := by
 have HS := Lib.hid h
 obtain ⟨bk, n, cap, k, h1, h2, h3, h4, h5, h6⟩ := h
 obtain ⟨⟨c0, c1⟩, p0, p1⟩ := row2 h1
 have H1 := Lib.hid h1
 have H6 := Lib.hid h6
 clear h1 h6
 unfold maxLen at h4
 cases ws with
 | nil =>
   simp only [List.length_nil, Nat.add_zero] at h5
   subst h5
   have hd : ((k : Int) == (k : Int)) = true := by simp
   go_enter Tryz.func124, Tryz.ntmps124
   go_wp2
   go_quiet (fail)
   go_wp2
   go_ret
   exact ⟨rfl, HS.out.stay (below_drewN (Below.refl _ _) _)⟩
 | cons x t =>
   simp only [List.length_cons] at h5
   have hx := H6.out 0 x rfl
   rw [Nat.add_zero] at hx
   have hne : ((k : Int) == (n : Int)) = false := by rw [beq_eq_false_iff_ne]; omega
   have hkn : k < n := by omega
   have hw : IntKind.i64.wrap ((k : Int) + 1) = (k : Int) + 1 := IntWalk.i64_in _ (by omega)
   have hw2 : IntKind.i64.wrap ((k : Int) + 1 - 1) = (k : Int) := by rw [show (k : Int) + 1 - 1 = k by omega]; exact IntWalk.i64_in _ (by omega)
   have hw3 : IntKind.i64.wrap (k : Int) = (k : Int) := IntWalk.i64_in _ (by omega)
   have fin := Lib.hid (sw_drawn HS.out H1.out h2 h3 (by unfold maxLen; omega) (by omega) H6.out)
   have HX := Lib.hid (sh_head hs)
   have hb : bk ≠ S := by omega
   clear hs HS
   go_enter Tryz.func124, Tryz.ntmps124
   go_wp2
   go_quiet (fail)
   go_upto_region 4 with fail
   have f9 := fin.out nq
   obtain ⟨W1, hW1⟩ : ∃ W1, W1 = (W.drewN nq).setCell ⟨S, 1, none⟩ (.int .i64 ((k : Int) + 1)) := ⟨_, rfl⟩
   rw [← hW1] at f9 ⊢
   have d0 : W1.cell? ⟨S, 0, none⟩ = some (.slice (some ⟨bk, 0, none⟩) n cap) := by rw [hW1]; exact cell_of_row _ S 0 _ _ _ (Joins.block_setCell (w := W.drewN nq) H1.out _)
   have d1 : W1.cell? ⟨S, 1, none⟩ = some (.int .i64 ((k : Int) + 1)) := by rw [hW1]; exact cell_of_row _ S 1 _ _ _ (Joins.block_setCell (w := W.drewN nq) H1.out _)
   have d2 : W1.cell? ⟨bk, k, none⟩ = some (.string ⟨x.toArray⟩) := by rw [hW1]; exact (World.cell?_of_block (heap_setCell_other (W.drewN nq) ⟨S, 1, none⟩ bk _ hb)).trans hx
   have F9 := Lib.hid f9
   clear f9 hW1 c0 c1 p0 p1 hx fin
   go_still_tail 11, (by kernel_rfl)
   change wpList _ _ _ _ _ W1.drew
   go_wp2_with (go_at_call 46; refine (parseInt_any x _ HX.out).mono ?_; rintro e w9 ⟨rfl, b9⟩)
   go_ret
   exact ⟨rfl, F9.out.trans (F9.out.sw.stay ((Below.refl _ W1).drew.trans b9))⟩
theorem row_two {w : World} {g : Nat} {a b : Value} {t : TypeId} (h : w.heap[g]? = some (.cells #[a, b] t (0, 0))) (x y : Value) : (((w.setCell ⟨g, 0, none⟩ x).setCell ⟨g, 1, none⟩ y).heap[g]? = some (.cells #[x, y] t (0, 0))) :=
 Joins.block_setCell (i := 1) (Joins.block_setCell (i := 0) h _) _
theorem grown_two (w : World) (g : Nat) (x y : Value) : w.grownBy ((w.setCell ⟨g, 0, none⟩ x).setCell ⟨g, 1, none⟩ y) (some g) :=
 ⟨rfl, rfl, rfl, by simp [World.setCell], fun k _ hk => (heap_setCell_other _ ⟨g, 1, none⟩ k _ (fun e => hk (by simp [e]))).trans (heap_setCell_other _ ⟨g, 0, none⟩ k _ (fun e => hk (by simp [e])))⟩
theorem cell_far2 (w : World) {K g : Nat} (h : g ≠ K) (x y : Value) (j : Nat) : ((w.setCell ⟨K, 0, none⟩ x).setCell ⟨K, 1, none⟩ y).cell? ⟨g, j, none⟩ = w.cell? ⟨g, j, none⟩ :=
 World.cell?_of_block ((heap_setCell_other _ ⟨K, 1, none⟩ g _ h).trans (heap_setCell_other _ ⟨K, 0, none⟩ g _ h))
theorem sw_boxed {W W' : World} {S : Nat} {ws : List (List UInt8)} {o : Obj} (h : SwStep (W.alloc o) S ws W') (hS : S < W.heap.size) (x y : Value) : SwStep W S ws ((W'.setCell ⟨W.heap.size, 0, none⟩ x).setCell ⟨W.heap.size, 1, none⟩ y) := by
 have g1 : W.grownBy W' (some S) := grownBy_trans (below_grownAny ((Below.refl _ W).alloc (Nat.le_refl _) o) _) h.grown
 refine ⟨h.sw.grown (grown_two W' W.heap.size x y) (fun k hk => by simp only [Option.some.injEq] at hk; omega), grownBy_new g1 (grown_two W' W.heap.size x y) (fun k hk => by simp only [Option.some.injEq] at hk; omega)⟩
set_option maxRecDepth 100000 in
set_option maxHeartbeats 4000000 in
theorem swSpan_any (S : Nat) (ws : List (List UInt8)) (W : World) (h : Sw W S ws) (hs : Sh ws) :
   Calls Tryz.prog 127 #[.pointer (some ⟨S, 0, none⟩)] W fun e w' => e = .returned (.agg #[.int .i64 (spnV ws).1, .int .i64 (spnV ws).2]) ∧ SwStep W S ws.tail w' := by
 have b0 : Below W.heap.size W (W.alloc (.cells #[.int .i64 0, .int .i64 0] 38)) := (Below.refl _ _).alloc (Nat.le_refl _) _
 have K0 := Lib.hid (heap_alloc_new W (.cells #[.int .i64 0, .int .i64 0] 38))
 have hS := h.lt
 have hz : W.heap.size < (W.alloc (.cells #[.int .i64 0, .int .i64 0] 38)).heap.size := by simp
 have h := h.below b0
 obtain ⟨W0, hW0⟩ : ∃ W0, W0 = W.alloc (.cells #[.int .i64 0, .int .i64 0] 38) := ⟨_, rfl⟩
 have fin := Lib.hid (fun (ws : List (List UInt8)) (W' : World) (x y : Value) (hh : SwStep W0 S ws W') => sw_boxed (o := .cells #[.int .i64 0, .int .i64 0] 38) (hW0 ▸ hh) hS x y)
 rw [← hW0] at h K0 hz
 have HW := Lib.hid hW0
 clear hW0
 have HS := Lib.hid h
 obtain ⟨bk, n, cap, k, h1, h2, h3, h4, h5, h6⟩ := h
 obtain ⟨⟨c0, c1⟩, p0, p1⟩ := row2 h1
 obtain ⟨⟨e0, e1⟩, q0, q1⟩ := row2 K0.out
 have H1 := Lib.hid h1
 have H6 := Lib.hid h6
 clear h1 h6
 unfold maxLen at h4
 cases ws with
 | nil =>
   simp only [List.length_nil, Nat.add_zero] at h5
   subst h5
   have hd : ((k : Int) == (k : Int)) = true := by simp
   go_enter Tryz.func127, Tryz.ntmps127
   go_upto_region 1 with fail
   rw [← HW.out]
   go_quiet (fail)
   go_wp2
   refine bodyPost_ret (results_row (p := 2) (ty := 38) rfl row38 _ _ W.heap.size 38 #[.int .i64 (-1), .int .i64 0] rfl rfl (row_two (w := W0.drewN nq) K0.out _ _)) rfl ?_
   exact ⟨rfl, fin.out _ _ _ _ (HS.out.stay (below_drewN (Below.refl _ _) _))⟩
 | cons x t =>
   simp only [List.length_cons] at h5
   have hx := H6.out 0 x rfl
   rw [Nat.add_zero] at hx
   have hne : ((k : Int) == (n : Int)) = false := by rw [beq_eq_false_iff_ne]; omega
   have hkn : k < n := by omega
   have hw : IntKind.i64.wrap ((k : Int) + 1) = (k : Int) + 1 := IntWalk.i64_in _ (by omega)
   have hw2 : IntKind.i64.wrap ((k : Int) + 1 - 1) = (k : Int) := by rw [show (k : Int) + 1 - 1 = k by omega]; exact IntWalk.i64_in _ (by omega)
   have hw3 : IntKind.i64.wrap (k : Int) = (k : Int) := IntWalk.i64_in _ (by omega)
   have nxt := Lib.hid (sw_drawn HS.out H1.out h2 h3 (by unfold maxLen; omega) (by omega) H6.out)
   have hx9 := sh_head hs
   have HX := Lib.hid hx9
   have hb : bk ≠ S := by omega
   have hWS : W.heap.size ≠ S := by omega
   clear hs HS
   obtain ⟨cs, hcs⟩ : ∃ cs, cs = spl 45 x := ⟨_, rfl⟩
   have hcl : cs.length ≤ 1000000001 := by rw [hcs]; have := (spl_len 45 x).1; omega
   have hel : ∀ y ∈ cs, y.length ≤ 1000000000 := fun y hy => by rw [hcs] at hy; exact Nat.le_trans ((spl_len 45 x).2 y hy) hx9
   go_enter Tryz.func127, Tryz.ntmps127
   go_upto_region 1 with fail
   rw [← HW.out]
   go_quiet (fail)
   go_upto_region 4 with fail
   have f9 := nxt.out nq
   obtain ⟨W1, hW1⟩ : ∃ W1, W1 = (W0.drewN nq).setCell ⟨S, 1, none⟩ (.int .i64 ((k : Int) + 1)) := ⟨_, rfl⟩
   rw [← hW1] at f9 ⊢
   have d0 : W1.cell? ⟨S, 0, none⟩ = some (.slice (some ⟨bk, 0, none⟩) n cap) := by rw [hW1]; exact cell_of_row _ S 0 _ _ _ (Joins.block_setCell (w := W0.drewN nq) H1.out _)
   have d1 : W1.cell? ⟨S, 1, none⟩ = some (.int .i64 ((k : Int) + 1)) := by rw [hW1]; exact cell_of_row _ S 1 _ _ _ (Joins.block_setCell (w := W0.drewN nq) H1.out _)
   have d2 : W1.cell? ⟨bk, k, none⟩ = some (.string ⟨x.toArray⟩) := by rw [hW1]; exact (World.cell?_of_block (heap_setCell_other (W0.drewN nq) ⟨S, 1, none⟩ bk _ hb)).trans hx
   have K1 := Lib.hid (f9.row K0.out hWS)
   have F9 := Lib.hid f9
   have zK : W.heap.size < W1.heap.size := Nat.lt_of_lt_of_le hz f9.grown.size
   clear f9 hW1 c0 c1 p0 p1 e0 e1 q0 q1 hx nxt K0 hz
   go_still_tail 11, (by kernel_rfl)
   change wpList _ _ _ _ _ W1.drew
   go_wp2_with fail
   refine (splitAt_any x 45 _ HX.out).mono ?_
   rintro e w2 ⟨v, rfl, O2, b2⟩
   rw [← hcs] at O2
   have b2 := (Below.refl _ W1).drew.trans b2
   have K2 := Lib.hid ((b2.block W.heap.size zK).trans K1.out)
   have F2 := Lib.hid (F9.out.trans (F9.out.sw.stay b2))
   have z2 : W.heap.size < w2.heap.size := Nat.lt_of_lt_of_le zK b2.size
   obtain ⟨ao, cap2, rfl, ⟨hc1, hc2⟩, hg⟩ := owns_shape_cap O2
   have O3 := Lib.hid O2
   clear O2 b2 F9 K1 d0 d1 d2
   obtain ⟨⟨e0, e1⟩, q0, q1⟩ := row2 K2.out
   by_cases h2 : cs.length = 2
   · obtain ⟨a, b, hab⟩ : ∃ a b, cs = [a, b] := by
       match cs, h2 with
       | [a, b], _ => exact ⟨a, b, rfl⟩
     have hsv : spnV (x :: t) = (pI a, pI b) := by
       show (match spl 45 x with | [a, b] => (pI a, pI b) | _ => (-1, 0)) = _
       rw [← hcs, hab]
     have ha : a.length ≤ 1000000000 := hel a (by rw [hab]; simp)
     have hb9 : b.length ≤ 1000000000 := hel b (by rw [hab]; simp)
     obtain ⟨g, rfl, hgb⟩ := hg (by omega)
     have o0 : w2.cell? ⟨g, 0, none⟩ = some (.string ⟨a.toArray⟩) := (O3.out.cellAt 0 (by omega)).trans (by rw [hab]; rfl)
     have o1 : w2.cell? ⟨g, 1, none⟩ = some (.string ⟨b.toArray⟩) := (O3.out.cellAt 1 (by omega)).trans (by rw [hab]; rfl)
     have zg : g < w2.heap.size := (O3.out.lt g rfl).2
     have hgb : W1.heap.size ≤ g := hgb
     have hgK : g ≠ W.heap.size := by omega
     have SV := Lib.hid hsv
     have hne2 : ((cs.length : Int) != 2) = false := by rw [h2]; rfl
     rw [h2] at hne2 ⊢
     clear hcs hel hab hsv hg O3 hcl hc1
     go_upto_region 7 with fail
     have BB : Below w2.heap.size w2 w2.drew := (Below.refl _ w2).drew
     go_region_held3 (fun w' => w'.cell? ⟨g, 0, none⟩ = some (.string ⟨a.toArray⟩) ∧ w'.cell? ⟨g, 1, none⟩ = some (.string ⟨b.toArray⟩))
       (first
         | exact ⟨(BB.cell (p := ⟨g, 0, none⟩) zg).trans o0, (BB.cell (p := ⟨g, 1, none⟩) zg).trans o1⟩
         | exact ⟨(cell_far2 _ hgK _ _ 0).trans ((BB.cell (p := ⟨g, 0, none⟩) zg).trans o0), (cell_far2 _ hgK _ _ 1).trans ((BB.cell (p := ⟨g, 1, none⟩) zg).trans o1)⟩
         | (go_keep; done))
       ((first
         | (go_at_call 46; (with_reducible refine (parseInt_any a _ ha).mono ?_); rintro e w7 ⟨rfl, hb⟩; have BB := BB.trans (hb.mono BB.size); obtain ⟨⟨k0, k1⟩, r0, r1⟩ := row2 ((BB.block W.heap.size z2).trans K2.out))
         | (go_at_call 46; (with_reducible refine (parseInt_any b _ hb9).mono ?_); rintro e w7 ⟨rfl, hb⟩; have BB := BB.trans (hb.mono BB.size); obtain ⟨⟨k0, k1⟩, r0, r1⟩ := row2 ((BB.block W.heap.size z2).trans K2.out))))
     all_goals
       have k7 := (BB.block W.heap.size z2).trans K2.out
       go_wp
       refine bodyPost_ret (results_row (p := 2) (ty := 38) (by kernel_rfl) row38 _ _ W.heap.size 38 #[.int .i64 (pI a), .int .i64 (pI b)] rfl (by kernel_rfl) (row_two k7 _ _)) rfl ?_
       exact ⟨by rw [SV.out], fin.out _ _ _ _ (F2.out.trans (F2.out.sw.stay BB))⟩
   · have hsv : spnV (x :: t) = (-1, 0) := by
       show (match spl 45 x with | [a, b] => (pI a, pI b) | _ => (-1, 0)) = _
       rw [← hcs]
       match cs, h2 with
       | [], _ => rfl
       | [_], _ => rfl
       | [_, _], h => exact absurd rfl h
       | _ :: _ :: _ :: _, _ => rfl
     have SV := Lib.hid hsv
     have hne2 : ((cs.length : Int) != 2) = true := by simp; omega
     clear hcs hel hsv hg O3 h2
     go_upto_region 6 with fail
     go_wp
     refine bodyPost_ret (results_row (p := 2) (ty := 38) (by kernel_rfl) row38 _ _ W.heap.size 38 #[.int .i64 (-1), .int .i64 0] rfl (by kernel_rfl) (row_two K2.out _ _)) rfl ?_
     exact ⟨by rw [SV.out], fin.out _ _ _ _ F2.out⟩
def kndV (ws : List (List UInt8)) : Int := if isW ws (kindW 1) then 1 else if isW ws (kindW 2) then 2 else if isW ws (kindW 3) then 3 else 0
def kndT (ws : List (List UInt8)) : List (List UInt8) := if isW ws (kindW 1) || isW ws (kindW 2) || isW ws (kindW 3) then ws.tail else ws
theorem kind_lit : kindW 1 = [112, 101, 114, 109, 105, 108, 108, 101] ∧ kindW 2 = [97, 109, 111, 117, 110, 116] ∧ kindW 3 = [102, 114, 101, 101] := by decide
theorem kndV_1 {ws : List (List UInt8)} (h : isW ws (kindW 1) = true) : kndV ws = 1 ∧ kndT ws = ws.tail := by simp [kndV, kndT, h]
theorem kndV_2 {ws : List (List UInt8)} (h1 : isW ws (kindW 1) = false) (h : isW ws (kindW 2) = true) : kndV ws = 2 ∧ kndT ws = ws.tail := by simp [kndV, kndT, h1, h]
theorem kndV_3 {ws : List (List UInt8)} (h1 : isW ws (kindW 1) = false) (h2 : isW ws (kindW 2) = false) (h : isW ws (kindW 3) = true) : kndV ws = 3 ∧ kndT ws = ws.tail := by simp [kndV, kndT, h1, h2, h]
theorem kndV_0 {ws : List (List UInt8)} (h1 : isW ws (kindW 1) = false) (h2 : isW ws (kindW 2) = false) (h : isW ws (kindW 3) = false) : kndV ws = 0 ∧ kndT ws = ws := by simp [kndV, kndT, h1, h2, h]
theorem row_three {w : World} {g : Nat} {a b c : Value} {t : TypeId} (h : w.heap[g]? = some (.cells #[a, b, c] t (0, 0))) : w.cell? ⟨g, 0, none⟩ = some a ∧ w.cell? ⟨g, 1, none⟩ = some b ∧ w.cell? ⟨g, 2, none⟩ = some c :=
 ⟨cell_of_row w g 0 _ _ _ h, cell_of_row w g 1 _ _ _ h, cell_of_row w g 2 _ _ _ h⟩
set_option maxRecDepth 100000 in
set_option maxHeartbeats 4000000 in
theorem swKind_any (S : Nat) (ws : List (List UInt8)) (W : World) (h : Sw W S ws) :
   Calls Tryz.prog 126 #[.pointer (some ⟨S, 0, none⟩)] W fun e w' => e = .returned (.int .i64 (kndV ws)) ∧ SwStep W S (kndT ws) w' := by
 have hS := h.lt
 have b0 : Below W.heap.size W (W.alloc (.cells #[.string ⟨#[112, 101, 114, 109, 105, 108, 108, 101]⟩, .string ⟨#[97, 109, 111, 117, 110, 116]⟩, .string ⟨#[102, 114, 101, 101]⟩] 9)) := (Below.refl _ _).alloc (Nat.le_refl _) _
 have k0 := heap_alloc_new W (.cells #[.string ⟨#[112, 101, 114, 109, 105, 108, 108, 101]⟩, .string ⟨#[97, 109, 111, 117, 110, 116]⟩, .string ⟨#[102, 114, 101, 101]⟩] 9)
 have K0 := Lib.hid k0
 have F0 := Lib.hid (h.stay b0)
 clear h b0 k0
 go_enter Tryz.func126, Tryz.ntmps126
 go_wp2
 go_loopw [4] (fun iv wr => ∃ k : Int, iv = .int .i64 k ∧ (k = 0 ∨ k = 1 ∨ k = 2 ∨ k = 3) ∧ Hid (SwStep W S ws wr) ∧ Hid (wr.heap[W.heap.size]? = some (.cells #[.string ⟨#[112, 101, 114, 109, 105, 108, 108, 101]⟩, .string ⟨#[97, 109, 111, 117, 110, 116]⟩, .string ⟨#[102, 114, 101, 101]⟩] 9 (0, 0))) ∧ Hid (∀ m : Int, 1 ≤ m → m ≤ k → isW ws (kindW m) = false)) (fun iv _ => (3 - intOf iv).toNat)
 case atStart => exact ⟨0, rfl, .inl rfl, F0, K0, fun m h1 h2 => by omega⟩
 case round =>
   clear F0 K0
   obtain ⟨k, rfl, hk, F, K, hN⟩ := hrel
   obtain ⟨c0, c1, c2⟩ := row_three K.out
   rcases hk with rfl | rfl | rfl | rfl
   · have hl : kindW 1 = [112, 101, 114, 109, 105, 108, 108, 101] := kind_lit.1
     cases hb : isW ws (kindW 1)
     · have hN2 : Hid (∀ m : Int, 1 ≤ m → m ≤ 0 + 1 → isW ws (kindW m) = false) := fun m h1 h2 => by
         by_cases e : m = 1
         · rw [e]; exact hb
         · exact hN.out m h1 (by omega)
       rw [hl] at hb
       have HB := Lib.hid hb
       clear hb hl hN
       go_wp2_with fail
       refine (swWord_any S ws [112, 101, 114, 109, 105, 108, 108, 101] _ F.out.sw).mono ?_
       rintro e W6 ⟨rfl, st⟩
       rw [HB.out, if_neg (by decide)] at st
       rw [HB.out]
       have K6 := Lib.hid (st.row K.out (by omega))
       have F6 := Lib.hid (F.out.trans st)
       clear st F K c0 c1 c2
       go_wp2
       go_roundw
       case rel => exact ⟨0 + 1, by go_num, by omega, F6, K6, hN2⟩
       case measure => simp [intOf]
     · have V := Lib.hid (kndV_1  hb)
       rw [hl] at hb
       have HB := Lib.hid hb
       clear hb hl hN
       go_wp2_with fail
       refine (swWord_any S ws [112, 101, 114, 109, 105, 108, 108, 101] _ F.out.sw).mono ?_
       rintro e W6 ⟨rfl, st⟩
       rw [HB.out, if_pos rfl] at st
       rw [HB.out]
       have F6 := Lib.hid (F.out.trans st)
       clear st F K c0 c1 c2
       go_wp2
       go_ret
       exact ⟨by rw [V.out.1]; rfl, by rw [V.out.2]; exact F6.out⟩
   · have hl : kindW 2 = [97, 109, 111, 117, 110, 116] := kind_lit.2.1
     cases hb : isW ws (kindW 2)
     · have hN2 : Hid (∀ m : Int, 1 ≤ m → m ≤ 1 + 1 → isW ws (kindW m) = false) := fun m h1 h2 => by
         by_cases e : m = 2
         · rw [e]; exact hb
         · exact hN.out m h1 (by omega)
       rw [hl] at hb
       have HB := Lib.hid hb
       clear hb hl hN
       go_wp2_with fail
       refine (swWord_any S ws [97, 109, 111, 117, 110, 116] _ F.out.sw).mono ?_
       rintro e W6 ⟨rfl, st⟩
       rw [HB.out, if_neg (by decide)] at st
       rw [HB.out]
       have K6 := Lib.hid (st.row K.out (by omega))
       have F6 := Lib.hid (F.out.trans st)
       clear st F K c0 c1 c2
       go_wp2
       go_roundw
       case rel => exact ⟨1 + 1, by go_num, by omega, F6, K6, hN2⟩
       case measure => simp [intOf]
     · have V := Lib.hid (kndV_2 (hN.out 1 (by omega) (by omega)) hb)
       rw [hl] at hb
       have HB := Lib.hid hb
       clear hb hl hN
       go_wp2_with fail
       refine (swWord_any S ws [97, 109, 111, 117, 110, 116] _ F.out.sw).mono ?_
       rintro e W6 ⟨rfl, st⟩
       rw [HB.out, if_pos rfl] at st
       rw [HB.out]
       have F6 := Lib.hid (F.out.trans st)
       clear st F K c0 c1 c2
       go_wp2
       go_ret
       exact ⟨by rw [V.out.1]; rfl, by rw [V.out.2]; exact F6.out⟩
   · have hl : kindW 3 = [102, 114, 101, 101] := kind_lit.2.2
     cases hb : isW ws (kindW 3)
     · have hN2 : Hid (∀ m : Int, 1 ≤ m → m ≤ 2 + 1 → isW ws (kindW m) = false) := fun m h1 h2 => by
         by_cases e : m = 3
         · rw [e]; exact hb
         · exact hN.out m h1 (by omega)
       rw [hl] at hb
       have HB := Lib.hid hb
       clear hb hl hN
       go_wp2_with fail
       refine (swWord_any S ws [102, 114, 101, 101] _ F.out.sw).mono ?_
       rintro e W6 ⟨rfl, st⟩
       rw [HB.out, if_neg (by decide)] at st
       rw [HB.out]
       have K6 := Lib.hid (st.row K.out (by omega))
       have F6 := Lib.hid (F.out.trans st)
       clear st F K c0 c1 c2
       go_wp2
       go_roundw
       case rel => exact ⟨2 + 1, by go_num, by omega, F6, K6, hN2⟩
       case measure => simp [intOf]
     · have V := Lib.hid (kndV_3 (hN.out 1 (by omega) (by omega)) (hN.out 2 (by omega) (by omega)) hb)
       rw [hl] at hb
       have HB := Lib.hid hb
       clear hb hl hN
       go_wp2_with fail
       refine (swWord_any S ws [102, 114, 101, 101] _ F.out.sw).mono ?_
       rintro e W6 ⟨rfl, st⟩
       rw [HB.out, if_pos rfl] at st
       rw [HB.out]
       have F6 := Lib.hid (F.out.trans st)
       clear st F K c0 c1 c2
       go_wp2
       go_ret
       exact ⟨by rw [V.out.1]; rfl, by rw [V.out.2]; exact F6.out⟩
   · have V := Lib.hid (kndV_0 (hN.out 1 (by omega) (by omega)) (hN.out 2 (by omega) (by omega)) (hN.out 3 (by omega) (by omega)))
     go_wp2
     go_ret
     exact ⟨by rw [V.out.1]; rfl, by rw [V.out.2]; exact F.out⟩
end Go.Proofs.YtijofgaekmahkaaGreatDoor
