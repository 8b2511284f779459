/- Walks: the reference's way to cut a text and to read a number. Conditions: none. -/
import Derived.Test.YtdofpealmngmiaaGreatDoorPS
import Derived.Test.YtdofpealmngmiaaGreatDoorRH
import Derived.Test.YtdofpealmngmiaaGreatDoorRA
import Derived.Test.YtdofpealmngmiaaGreatDoorSI
namespace Go.Proofs.YtdofpealmngmiaaGreatDoor
open Go.RowKit

theorem ext_take (T : List UInt8) (a b : Nat) : (⟨T.toArray⟩ : ByteArray).extract a b = ⟨((T.take b).drop a).toArray⟩ := by
  have h : ((⟨T.toArray⟩ : ByteArray).extract a b).data = ((T.take b).drop a).toArray := by
    rw [ByteArray.data_extract]
    simp [List.drop_take]
  cases he : (⟨T.toArray⟩ : ByteArray).extract a b with
  | mk d => rw [he] at h; rw [show d = _ from h]

/-- append of words to a row of the call's own -/
theorem app_strs {P : Program} {w : World} {ops : Array Oper} {rest : List Oper} {o : Oper} {a : Act} {Q : Exit → Act → World → Prop} (hgd : o.guard = none) (s x : Operand) (t : TypeId)
    (ho : o.op = .call { callee := .builtin .append, args := #[s, x], argTypes := #[t, t] }) (base : Nat) (e t2 : TypeId) (i : TypeInfo) (z : Value) (ht : P.underlying t = some (.slice e)) (hi : P.info? e = some i) (hz : i.zero = some z)
    (hs : i.size = 1) (hby : i.bytes = 16) (hzs : z.cells.size = 1) (v : Value) (ws : List (List UInt8)) (ys : List (List UInt8)) (xs : List Value) (hxs : xs = sw ys) (c : Nat) (hv : a.eval s = v) (hown : w.ownsRow base e 1 v ws.length (sw ws))
    (hx : a.eval x = .slice (some ⟨w.heap.size, 0, none⟩) ys.length c) (hlen : ws.length ≤ 1000000001) (hlen2 : ys.length ≤ 100000) (hbase : base ≤ w.heap.size)
    (h : ∀ v' w1, w1.ownsRow base e 1 v' (ws ++ ys).length (sw (ws ++ ys)) → (w.alloc (.cells xs.toArray t2)).grownBy w1 v.ownBlock → wpList P ops Q rest (a.put o.dst v') w1) :
    wpList P ops Q (o :: rest) a (w.alloc (.cells xs.toArray t2)) := by
  subst hxs
  refine wpList_append_own _ hgd s x t ho base e i z 1 16 ht hi hz hs hby hzs (by decide) v ws.length (sw ws) hv (hown.alloc _) ⟨w.heap.size, 0, none⟩ ys.length c (sw ys) hx (by rw [sw_len, Nat.mul_one]) (cells_new w _ t2) (by
    intro u hu
    obtain ⟨y, _, rfl⟩ := List.mem_map.1 hu
    rfl) (by unfold maxLen; omega) (by omega) (by rw [World.size_alloc]; omega) ?_
  intro v' w1 h1 h2 _
  refine h v' w1 ?_ h2
  rw [sw_append, List.length_append]
  exact h1

set_option maxRecDepth 100000 in
set_option maxHeartbeats 1000000 in
theorem splitAt_any (T : List UInt8) (c : UInt8) (w : World) (hl : T.length ≤ 1000000000) :
    Calls Tryz.prog 20 #[.string ⟨T.toArray⟩, .int .u8 (c.toNat : Int)] w fun e w' => ∃ v, e = .returned v ∧ w'.ownsRow w.heap.size 9 1 v (spl c T).length (sw (spl c T)) ∧ Below w.heap.size w w' := by
  obtain ⟨i0, hi, hz0, hz1, hz2⟩ := info_parts infoStr
  have HI := Lib.hid hi
  have HZ0 := Lib.hid hz0
  have HZ1 := Lib.hid hz1
  have HZ2 := Lib.hid hz2
  clear hi hz0 hz1 hz2
  have hs : (⟨T.toArray⟩ : ByteArray).size = T.length := by simp [ByteArray.size]
  have O0 : Hid ((w.alloc (.cells #[] 9)).ownsRow w.heap.size 9 1 (.slice (some ⟨w.heap.size, 0, none⟩) 0 0) ([] : List (List UInt8)).length (sw [])) := World.ownsRow_made w #[] 0 (Nat.le_refl _) (by simp) (by simp)
  have B0 : Below w.heap.size w (w.alloc (.cells #[] 9)) := (Below.refl _ _).alloc (Nat.le_refl _) _
  go_enter Tryz.func20, Tryz.ntmps20
  go_wp2
  go_loopw [5, 6, 7] (fun ov fv iv wr => ∃ (i fr : Nat) (out : List (List UInt8)), iv = .int .i64 i ∧ fv = .int .i64 fr ∧ fr ≤ i ∧ i ≤ T.length ∧ Hid (spl c (T.take i) = out ++ [(T.take i).drop fr]) ∧ Hid (wr.ownsRow w.heap.size 9 1 ov out.length (sw out)) ∧ Below w.heap.size w wr) (fun _ _ iv _ => T.length - (intOf iv).toNat)
  case atStart => exact ⟨0, 0, [], rfl, rfl, Nat.le_refl _, Nat.zero_le _, rfl, O0, B0⟩
  case round =>
    clear O0 B0
    obtain ⟨i, fr, out, rfl, rfl, hfi, hi, hsp, hown, hbl⟩ := hrel
    have hol : out.length ≤ 1000000001 := by
      have h1 := (spl_len c (T.take i)).1
      have h2 := congrArg List.length hsp.out
      simp only [List.length_append, List.length_singleton, List.length_take] at h1 h2
      omega
    by_cases hlt : i < T.length
    · obtain ⟨x, hx⟩ : ∃ x, T[i]? = some x := ⟨_, List.getElem?_eq_getElem hlt⟩
      have hi1 := str_index hx
      have htk : T.take (i + 1) = T.take i ++ [x] := by rw [List.take_add_one, hx]; rfl
      have hsn := spl_snoc c x (T.take i) _ _ hsp.out
      rw [← htk] at hsn
      have hw : IntKind.i64.wrap ((i : Int) + 1) = (i : Int) + 1 := IntWalk.i64_in _ (by omega)
      by_cases hxc : x = c
      · subst hxc
        rw [if_pos rfl] at hsn
        have fin := Lib.hid hsn
        clear hsn htk hx
        have he : [Value.string ((⟨T.toArray⟩ : ByteArray).extract fr i)] = sw [(T.take i).drop fr] := by rw [ext_take]; rfl
        have HE := Lib.hid he
        clear he
        go_wp2_with (at_builtin; refine app_strs rfl (.tmp 20) (.tmp 25) 43 rfl w.heap.size 9 9 i0 _ Tryz.underlying43 HI.out HZ0.out HZ1.out HZ2.out rfl _ out [(T.take i).drop fr] _ HE.out 1 rfl hown.out rfl hol (by simp) hbl.size ?_; intro v5 w9 ho9 hg9)
        go_roundw
        case rel =>
          refine ⟨i + 1, i + 1, out ++ [(T.take i).drop fr], by go_num, by go_num, by omega, by omega, ?_, ho9, (hbl.alloc hbl.size _).grown hg9 (by rw [World.size_alloc]; exact Nat.le_succ_of_le hbl.size) (fun k hk => (hown.out.lt k hk).1)⟩
          have h0 : (T.take (i + 1)).drop (i + 1) = [] := by rw [List.drop_eq_nil_iff, List.length_take]; omega
          rw [h0]
          exact fin.out
        case measure => simp [intOf]; omega
      · rw [if_neg hxc] at hsn
        have hnb : ((x.toNat : Int) == (c.toNat : Int)) = false := by
          rw [beq_eq_false_iff_ne]
          intro e
          exact hxc (UInt8.toNat_inj.1 (by omega))
        have e9 : (T.take (i + 1)).drop fr = (T.take i).drop fr ++ [x] := by
          rw [htk, List.drop_append_of_le_length (by rw [List.length_take]; omega)]
        rw [← e9] at hsn
        have fin := Lib.hid hsn
        clear hsn htk hx hxc e9
        go_wp2
        go_roundw
        case rel => exact ⟨i + 1, fr, out, by go_num, rfl, by omega, by omega, fin.out, hown, hbl⟩
        case measure => simp [intOf]; omega
    · have hiT : i = T.length := by omega
      have hsp2 : spl c T = out ++ [T.drop fr] := by have := hsp.out; rw [hiT, List.take_length] at this; exact this
      have he : [Value.string ((⟨T.toArray⟩ : ByteArray).extract fr T.length)] = sw [T.drop fr] := by rw [ext_take, List.take_length]; rfl
      have HE := Lib.hid he
      have HP := Lib.hid hsp2
      clear hsp hsp2 he hiT
      go_wp2_with (at_builtin; refine app_strs rfl (.tmp 29) (.tmp 33) 43 rfl w.heap.size 9 9 i0 _ Tryz.underlying43 HI.out HZ0.out HZ1.out HZ2.out rfl _ out [T.drop fr] _ HE.out 1 rfl hown.out rfl hol (by simp) hbl.size ?_; intro v5 w9 ho9 hg9)
      go_ret
      exact ⟨_, rfl, by rw [HP.out]; exact ho9, (hbl.alloc hbl.size _).grown hg9 (by rw [World.size_alloc]; exact Nat.le_succ_of_le hbl.size) (fun k hk => (hown.out.lt k hk).1)⟩

theorem pI_out {T : List UInt8} (h : T = [] ∨ 7 < T.length) : pI T = -1 := by unfold pI; rw [if_pos h]
theorem pI_in {T : List UInt8} (h : ¬ (T = [] ∨ 7 < T.length)) (hd : ∀ b ∈ T, isD b = true) : pI T = if dec (dvl T : Int) = T then (dvl T : Int) else -1 := by
  unfold pI
  rw [if_neg h, if_pos (List.all_eq_true.2 hd)]
theorem pI_bad {T : List UInt8} {b : UInt8} (hb : b ∈ T) (hd : isD b = false) : pI T = -1 := by
  unfold pI
  split
  · rfl
  · rw [if_neg]
    intro h
    have := List.all_eq_true.1 h b hb
    rw [hd] at this
    cases this

set_option maxRecDepth 100000 in
set_option maxHeartbeats 1000000 in
theorem parseInt_any (T : List UInt8) (w : World) (hl : T.length ≤ 1000000000) :
    Calls Tryz.prog 42 #[.string ⟨T.toArray⟩] w fun e w' => e = .returned (.int .i64 (pI T)) ∧ Below w.heap.size w w' := by
  have hs : (⟨T.toArray⟩ : ByteArray).size = T.length := by simp [ByteArray.size]
  by_cases h0 : T.length = 0
  · have fin := Lib.hid (pI_out (T := T) (.inl (List.length_eq_zero_iff.1 h0)))
    go_enter Tryz.func42, Tryz.ntmps42
    go_wp2
    all_goals go_ret
    all_goals exact ⟨by rw [fin.out]; rfl, Below.refl _ _⟩
  by_cases h7 : 7 < T.length
  · have fin := Lib.hid (pI_out (T := T) (.inr h7))
    go_enter Tryz.func42, Tryz.ntmps42
    go_wp2
    all_goals go_ret
    all_goals exact ⟨by rw [fin.out]; rfl, Below.refl _ _⟩
  have hne : ¬ (T = [] ∨ 7 < T.length) := by
    rintro (h | h)
    · subst h; simp at h0
    · exact h7 h
  have HN := Lib.hid hne
  have hz : ((T.length : Int) == 0) = false := by simpa using h0
  have h8 : T.length ≤ 7 := by omega
  clear hne h7 h0
  go_enter Tryz.func42, Tryz.ntmps42
  go_wp2
  go_loopw [3, 4] (fun nv iv wr => ∃ i n : Nat, iv = .int .i64 i ∧ nv = .int .i64 n ∧ i ≤ T.length ∧ n < 10000000 ∧ Hid (n = dvl (T.take i)) ∧ Hid (∀ b ∈ T.take i, isD b = true) ∧ Below w.heap.size w wr) (fun _ iv _ => T.length - (intOf iv).toNat)
  case atStart => exact ⟨0, 0, rfl, rfl, Nat.zero_le _, by omega, rfl, fun b hb => by simp at hb, Below.refl _ _⟩
  case round =>
    obtain ⟨i, n, rfl, rfl, hi, hn, hv, hd, hbl⟩ := hrel
    by_cases hlt : i < T.length
    · obtain ⟨x, hx⟩ : ∃ x, T[i]? = some x := ⟨_, List.getElem?_eq_getElem hlt⟩
      have hi1 := str_index hx
      have hxm : x ∈ T := List.mem_of_getElem? hx
      have htk : T.take (i + 1) = T.take i ++ [x] := by rw [List.take_add_one, hx]; rfl
      have hx255 := x.toNat_lt
      cases hD : isD x
      · have fin := Lib.hid (pI_bad hxm hD)
        have hw9 : wi (x.toNat : Int) 48 57 = false := by
          rw [wi_false]
          by_cases h1 : 48 ≤ x.toNat
          · simp only [isD, h1, decide_true, Bool.true_and, decide_eq_false_iff_not] at hD
            omega
          · omega
        clear htk hx hD
        go_wp2_with (go_at_call 25; refine (inRange_any _ _ _ _).mono ?_; rintro e w9 ⟨rfl, h9⟩; subst h9; rw [hw9])
        go_ret
        exact ⟨by rw [fin.out]; rfl, hbl⟩
      · have hD2 := hD
        simp only [isD, Bool.and_eq_true, decide_eq_true_eq] at hD2
        have hw9 : wi (x.toNat : Int) 48 57 = true := by rw [wi_true]; omega
        have h1 : IntKind.i64.wrap (10 * (n : Int)) = 10 * (n : Int) := IntWalk.i64_in _ (by omega)
        have h2 : IntKind.i64.wrap (10 * (n : Int) + (x.toNat : Int)) = 10 * (n : Int) + (x.toNat : Int) := IntWalk.i64_in _ (by omega)
        have h3 : IntKind.i64.wrap (10 * (n : Int) + (x.toNat : Int) - 48) = 10 * (n : Int) + (x.toNat : Int) - 48 := IntWalk.i64_in _ (by omega)
        have hw : IntKind.i64.wrap ((i : Int) + 1) = (i : Int) + 1 := IntWalk.i64_in _ (by omega)
        have hdv : dvl (T.take (i + 1)) = n * 10 + (x.toNat - 48) := by rw [htk, dvl_snoc, ← hv.out]
        have hall : ∀ b ∈ T.take (i + 1), isD b = true := fun b hb => by
          rw [htk, List.mem_append, List.mem_singleton] at hb
          rcases hb with hb | rfl
          · exact hd.out b hb
          · exact hD
        have hbd := dvl_lt (i + 1) (T.take (i + 1)) (by rw [List.length_take]; omega) hall
        have hp : 10 ^ (i + 1) ≤ 10 ^ 7 := Nat.pow_le_pow_right (by omega) (by omega)
        have hn2 : n * 10 + (x.toNat - 48) < 10000000 := by rw [← hdv]; omega
        have fin := Lib.hid hdv
        have fal := Lib.hid hall
        clear htk hx hD hdv hall hbd hp
        go_wp2_with (go_at_call 25; refine (inRange_any _ _ _ _).mono ?_; rintro e w9 ⟨rfl, h9⟩; subst h9; rw [hw9])
        go_roundw
        case rel =>
          exact ⟨i + 1, n * 10 + (x.toNat - 48), by go_num, by rw [show (((n * 10 + (x.toNat - 48) : Nat)) : Int) = 10 * (n : Int) + (x.toNat : Int) - 48 by omega], by omega, hn2, fin.out.symm, fal.out, hbl⟩
        case measure => simp [intOf]; omega
    · have hiT : i = T.length := by omega
      have hv2 : n = dvl T := by have := hv.out; rw [hiT, List.take_length] at this; exact this
      have hd2 : ∀ b ∈ T, isD b = true := fun b hb => by have := hd.out b; rw [hiT, List.take_length] at this; exact this hb
      have hp := pI_in HN.out hd2
      rw [← hv2] at hp
      by_cases he : dec (n : Int) = T
      · rw [if_pos he] at hp
        have fin := Lib.hid hp
        have hb : (dec (n : Int) == T) = true := by rw [he]; simp
        clear hv hd hv2 hd2 hp hiT he
        go_wp2_with (go_at_call 44; refine (decimal_run _ _ (by omega) (by omega)).mono ?_; rintro e w9 ⟨rfl, b9⟩)
        go_ret
        exact ⟨by rw [fin.out]; rfl, hbl.trans (b9.mono hbl.size)⟩
      · rw [if_neg he] at hp
        have fin := Lib.hid hp
        have hb : (dec (n : Int) == T) = false := by simpa using he
        clear hv hd hv2 hd2 hp hiT he
        go_wp2_with (go_at_call 44; refine (decimal_run _ _ (by omega) (by omega)).mono ?_; rintro e w9 ⟨rfl, b9⟩)
        go_ret
        exact ⟨by rw [fin.out]; rfl, hbl.trans (b9.mono hbl.size)⟩

end Go.Proofs.YtdofpealmngmiaaGreatDoor
