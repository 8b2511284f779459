/- The text of a valid rule has single spaces, and six of them at least; for all arguments. Conditions: none. -/
import Derived.Test.YtdofpealmngmiaaDoorRQD
import Derived.Test.YtdofpealmngmiaaDoorRH
import Derived.Test.YtdofpealmngmiaaDoorTX
namespace Go.Proofs.YtdofpealmngmiaaDoor
open Go.RowKit

theorem str_index {T : List UInt8} {i : Nat} {x : UInt8} (h : T[i]? = some x) (W : World) : (Instr.index 9 (.string ⟨T.toArray⟩) (.int .i64 (i : Int))).run Tryd.prog W = .ok (.int .u8 (x.toNat : Int)) W := by
  have hl := (List.getElem?_eq_some_iff.1 h).1
  have hx := (List.getElem?_eq_some_iff.1 h).2
  rw [run_index_string _ _ _ _ _ Tryd.underlying9]
  have hc : 0 ≤ (i : Int) ∧ (i : Int) < ((⟨T.toArray⟩ : ByteArray).size : Int) := ⟨by omega, by simp [ByteArray.size]; omega⟩
  rw [dif_pos hc]
  congr 3
  show (T.toArray[(i : Int).toNat]'_).toNat = _
  simp [hx]

theorem text_len {r : Rl} (h : OkR r) : (textR r).length ≤ 1000000 := by
  rw [textR_s4]
  have h1 := s4_len h r.counts.length (Nat.le_refl _)
  have h2 := h.cn
  have h3 := dec_short (n := r.coupon) (by have := h.coupon; omega) (by have := h.coupon; omega)
  unfold cpnW
  split
  · simp [tl]; omega
  · simp [tl, wCoupon]; omega

/-- what the law of the texts needs of one -/
structure Wd (T : List UInt8) : Prop where
  ne : T ≠ []
  six : 6 ≤ nsp T
  nod : ∀ i : Nat, T[i]? = some 32 → T[i + 1]? = some 32 → False
  last : ∀ y, T.getLast? = some y → y ≠ 32
  short : T.length ≤ 1000000

theorem nsp_take {T : List UInt8} {i : Nat} {x : UInt8} (h : T[i]? = some x) : nsp (T.take (i + 1)) = nsp (T.take i) + (if x = 32 then 1 else 0) := by
  rw [List.take_add_one, h, Option.toList_some, nsp_append]
  congr 1
  unfold nsp
  by_cases hx : x = 32
  · subst hx; rfl
  · rw [if_neg hx]; simp [hx]

theorem nsp_le (T : List UInt8) : nsp T ≤ T.length := List.countP_le_length

set_option maxRecDepth 100000 in
set_option maxHeartbeats 4000000 in
theorem lawRuleTextWords (z : List Int) (v : Value) (w : World) (hv : Rd w 1 v z.length (z.map (Value.int .u8))) (hz : ∀ x ∈ z, 0 ≤ x ∧ x ≤ 255) (hE : Env w) :
    Calls Tryd.prog 3 #[v] w fun e w' => e = .returned (.bool true) ∧ Below w.heap.size w w' := by
  have HV := Lib.hid hv
  have HE := Lib.hid hE
  have hm := hv.len
  unfold maxLen at hm
  obtain ⟨_, bo, bcap, rfl, _⟩ := hv
  clear hE
  by_cases hbig : 1048576 < z.length
  · go_enter Tryd.func3, Tryd.ntmps3
    go_wp2
    go_ret
    exact ⟨rfl, Below.refl _ _⟩
  · go_enter Tryd.func3, Tryd.ntmps3
    go_wp2_with fail
    refine (DrawFormatRule_any z _ w HV.out hz).mono ?_
    rintro e w1 ⟨r, v', rfl, O1, l1, B1⟩
    unfold ruV
    obtain ⟨ao, cap, rfl, _⟩ := owns_shape O1
    have a1 := heap_alloc_new w1 (.cells #[.int .i64 r.num, .int .i64 r.lvl, .int .i64 r.rank, .int .i64 r.group, .int .i64 r.kind, .int .i64 r.value, .int .i64 r.cap, .int .i64 r.lo, .int .i64 r.hi, .slice ao r.counts.length cap, .int .i64 r.coupon] 29)
    have O2 := Lib.hid (O1.alloc (.cells #[.int .i64 r.num, .int .i64 r.lvl, .int .i64 r.rank, .int .i64 r.group, .int .i64 r.kind, .int .i64 r.value, .int .i64 r.cap, .int .i64 r.lo, .int .i64 r.hi, .slice ao r.counts.length cap, .int .i64 r.coupon] 29))
    have B2 := Lib.hid (B1.alloc B1.size (.cells #[.int .i64 r.num, .int .i64 r.lvl, .int .i64 r.rank, .int .i64 r.group, .int .i64 r.kind, .int .i64 r.value, .int .i64 r.cap, .int .i64 r.lo, .int .i64 r.hi, .slice ao r.counts.length cap, .int .i64 r.coupon] 29))
    have zz : w1.heap.size < (w1.alloc (.cells #[.int .i64 r.num, .int .i64 r.lvl, .int .i64 r.rank, .int .i64 r.group, .int .i64 r.kind, .int .i64 r.value, .int .i64 r.cap, .int .i64 r.lo, .int .i64 r.hi, .slice ao r.counts.length cap, .int .i64 r.coupon] 29)).heap.size := by simp
    have A1 := Lib.hid a1
    obtain ⟨⟨c0, c1, c2, c3, c4, c5, c6, c7, c8, c9, c10⟩, _⟩ := row11 a1
    clear a1 O1
    go_wp2_with fail
    refine (implFormat_any r _ _ (HE.out.below B2.out) (Rd.of_owns O2.out)).mono ?_
    rintro e w2 ⟨rfl, hb⟩
    clear c0 c1 c2 c3 c4 c5 c6 c7 c8 c9 c10
    have a2 := (hb.block w1.heap.size zz).trans A1.out
    have R2 := Lib.hid ((Rd.of_owns O2.out).below hb (Nat.le_refl _))
    have B3 := Lib.hid (B2.out.trans (hb.mono B2.out.size))
    obtain ⟨⟨c0, c1, c2, c3, c4, c5, c6, c7, c8, c9, c10⟩, _⟩ := row11 a2
    have A2 := Lib.hid a2
    have z2 := (Array.getElem?_eq_some_iff.1 a2).1
    clear a2 hb A1 B2 O2
    cases hok : okRu r
    · have hT : Hid (fmtR r = []) := by show fmtR r = []; unfold fmtR; rw [hok]; rfl
      rw [hT.out]
      go_wp2_with fail
      refine (specFormat_any r _ _ R2.out).mono ?_
      rintro e w3 ⟨rfl, hb⟩
      rw [hT.out]
      clear c0 c1 c2 c3 c4 c5 c6 c7 c8 c9 c10
      have a3 := (hb.block w1.heap.size z2).trans A2.out
      have R3 := Lib.hid (R2.out.below hb (Nat.le_refl _))
      have B4 := Lib.hid (B3.out.trans (hb.mono B3.out.size))
      obtain ⟨⟨c0, c1, c2, c3, c4, c5, c6, c7, c8, c9, c10⟩, _⟩ := row11 a3
      clear a3 hb
      go_wp2_with fail
      refine (specFormat_any r _ _ R3.out).mono ?_
      rintro e w4 ⟨rfl, hb⟩
      rw [hT.out]
      go_wp2
      go_ret
      exact ⟨rfl, B4.out.trans (hb.mono B4.out.size)⟩
    · have hT : Hid (fmtR r = textR r) := by show fmtR r = _; unfold fmtR; rw [hok]; rfl
      rw [hT.out]
      go_wp2_with fail
      refine (specFormat_any r _ _ R2.out).mono ?_
      rintro e w3 ⟨rfl, hb⟩
      rw [hT.out]
      clear c0 c1 c2 c3 c4 c5 c6 c7 c8 c9 c10
      have B4 := Lib.hid (B3.out.trans (hb.mono B3.out.size))
      have W0 : Wd (textR r) := ⟨text_ne r, nsp_text r, nod_at (nod_text r), last_text r, text_len (OkR.of hok)⟩
      clear hb hT
      revert W0
      generalize textR r = T
      intro W0
      have hl := W0.short
      have hl0 : 0 < T.length := List.length_pos_iff.2 W0.ne
      have hne : (T == []) = false := by simpa using W0.ne
      have hsz : (⟨T.toArray⟩ : ByteArray).size = T.length := by simp [ByteArray.size]
      have HW := Lib.hid W0
      clear W0
      go_wp2
      go_loopw [5, 6] (fun nv iv wr => ∃ i c : Nat, iv = .int .i64 i ∧ i ≤ T.length ∧ nv = .int .i64 c ∧ c ≤ i ∧ Hid (c = nsp (T.take i)) ∧ Below w.heap.size w wr) (fun _ iv _ => T.length - (intOf iv).toNat)
      case atStart => exact ⟨0, 0, rfl, Nat.zero_le _, rfl, Nat.le_refl _, rfl, B4.out⟩
      case round =>
        clear B4 B3
        obtain ⟨i, c, rfl, hi, rfl, hci, hc, hbl⟩ := hrel
        by_cases hlt : i < T.length
        · obtain ⟨x, hx⟩ : ∃ x, T[i]? = some x := ⟨_, List.getElem?_eq_getElem hlt⟩
          have hn := nsp_take hx
          have hi1 := str_index hx
          by_cases h32 : x = 32
          · rw [h32] at hx hi1 hn
            rw [if_pos rfl, ← hc.out] at hn
            rw [show ((32 : UInt8).toNat : Int) = 32 from rfl] at hi1
            have hw : IntKind.i64.wrap ((c : Int) + 1) = (c : Int) + 1 := IntWalk.i64_in _ (by omega)
            have fin := Lib.hid hn.symm
            clear h32 hn
            by_cases hi0 : i = 0
            · subst hi0
              rw [show ((0 : Nat) : Int) = 0 from rfl] at hi1
              go_wp2
              go_roundw
              case rel => exact ⟨0 + 1, c + 1, by go_num, by omega, by go_num, by omega, fin.out, hbl⟩
              case measure => simp [intOf]; omega
            · obtain ⟨y, hy⟩ : ∃ y, T[i - 1]? = some y := ⟨_, List.getElem?_eq_getElem (by omega)⟩
              have hj1 := str_index hy
              rw [show ((i - 1 : Nat) : Int) = (i : Int) - 1 by omega] at hj1
              have hny : y ≠ 32 := fun e => HW.out.nod (i - 1) (by rw [hy, e]) (by rw [show i - 1 + 1 = i by omega]; exact hx)
              have hnb : ((y.toNat : Int) == 32) = false := by
                rw [beq_eq_false_iff_ne]
                intro e
                exact hny (UInt8.toNat_inj.1 (by have : y.toNat = 32 := by omega
                                                 rw [this]; rfl))
              have hw2 : IntKind.i64.wrap ((i : Int) - 1) = (i : Int) - 1 := IntWalk.i64_in _ (by omega)
              clear hny hy
              go_wp2
              go_roundw
              case rel => exact ⟨i + 1, c + 1, by go_num, by omega, by go_num, by omega, fin.out, hbl⟩
              case measure => simp [intOf]; omega
          · rw [if_neg h32, ← hc.out] at hn
            have hnb : ((x.toNat : Int) == 32) = false := by
              rw [beq_eq_false_iff_ne]
              intro e
              exact h32 (UInt8.toNat_inj.1 (by have : x.toNat = 32 := by omega
                                               rw [this]; rfl))
            have fin := Lib.hid hn.symm
            clear h32 hn
            by_cases hi0 : i = 0
            · subst hi0
              rw [show ((0 : Nat) : Int) = 0 from rfl] at hi1
              go_wp2
              go_roundw
              case rel => exact ⟨0 + 1, c, by go_num, by omega, rfl, by omega, fin.out, hbl⟩
              case measure => simp [intOf]; omega
            · go_wp2
              go_roundw
              case rel => exact ⟨i + 1, c, by go_num, by omega, rfl, by omega, fin.out, hbl⟩
              case measure => simp [intOf]; omega
        · have he : i = T.length := by omega
          subst he
          have h6 := HW.out.six
          have hc2 := hc.out
          rw [List.take_length] at hc2
          have h7 : 6 ≤ c := by omega
          obtain ⟨y, hy⟩ : ∃ y, T[T.length - 1]? = some y := ⟨_, List.getElem?_eq_getElem (by omega)⟩
          have hy2 : y ≠ 32 := HW.out.last y (by rw [List.getLast?_eq_getElem?]; exact hy)
          have hj1 := str_index hy
          have hnb : ((y.toNat : Int) != 32) = true := by
            simp only [bne_iff_ne, ne_eq]
            intro e
            exact hy2 (UInt8.toNat_inj.1 (by have : y.toNat = 32 := by omega
                                             rw [this]; rfl))
          rw [show ((T.length - 1 : Nat) : Int) = (T.length : Int) - 1 by omega] at hj1
          clear hy hy2 hc2 hc h6
          go_wp2
          go_ret
          exact ⟨rfl, hbl⟩

end Go.Proofs.YtdofpealmngmiaaDoor
