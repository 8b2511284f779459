/- Walks: taking pieces in the program: whether it succeeds. Conditions: none. -/
import Derived.Test.YtomapdedajdkkaaCD
namespace Go.Proofs.Ytomapdedajdkkaa
open Go.RowKit

/-- What taking pieces hands back. -/
def TakePost (s : List Art) (c : List (Int × Int)) (a n : Int) (w : World) (e : Ending) (w' : World) : Prop :=
  ∃ v : Value, e = .returned (.tuple #[v, .bool (takeOk s c a n)]) ∧ Below w.heap.size w w'
theorem takeOk_c {s : List Art} {c : List (Int × Int)} {a n : Int} (h : vCart s c = false) : takeOk s c a n = false := by simp [takeOk, h]
theorem takeOk_n {s : List Art} {c : List (Int × Int)} {a n : Int} (h : n < 1) : takeOk s c a n = false := by simp [takeOk]; omega
theorem takeOk_f {s : List Art} {c : List (Int × Int)} {a n : Int} (h : fewA c a n = true) : takeOk s c a n = false := by simp [takeOk, h]
theorem takeOk_h {s : List Art} {c : List (Int × Int)} {a n : Int} (h : hasA c a = false) : takeOk s c a n = false := by simp [takeOk, h]
theorem takeOk_y {s : List Art} {c : List (Int × Int)} {a n : Int} (h1 : vCart s c = true) (h2 : 1 ≤ n) (h3 : hasA c a = true) (h4 : fewA c a n = false) : takeOk s c a n = true := by simp [takeOk, h1, h2, h3, h4]
theorem takePost_mk {s : List Art} {c : List (Int × Int)} {a n : Int} {w w1 : World} {v : Value} {b : Bool} (h : takeOk s c a n = b) (hb : Below w.heap.size w w1) : TakePost s c a n w (.returned (.tuple #[v, .bool b])) w1 := ⟨v, by rw [h], hb⟩

set_option maxHeartbeats 4000000 in
set_option maxRecDepth 100000 in
theorem implTake_any (s : List Art) (u : Value) (c : List (Int × Int)) (v : Value) (a n : Int) (w : World) (hs : Rd w 4 u s.length (ar s)) (hv : Rd w 2 v c.length (pr c)) :
    Calls Try.prog 36 #[u, v, .int .i64 a, .int .i64 n] w (TakePost s c a n w) := by
  have HV := Lib.hid hv
  have HS := Lib.hid hs
  have hm := hs.len
  have hm2 := hv.len
  unfold maxLen at hm hm2
  obtain ⟨so, scap, rfl, _⟩ := hs.arts
  obtain ⟨co, ccap, rfl, _, _, hrc⟩ := hv.pairs
  have HRC := Lib.hid hrc
  clear hv hs hrc
  obtain ⟨i0, hi, hz0, hz1, hz2⟩ := info_parts Try.info57a
  have HI := Lib.hid hi
  have HZ0 := Lib.hid hz0
  have HZ1 := Lib.hid hz1
  have HZ2 := Lib.hid hz2
  clear hi hz0 hz1 hz2
  cases hp : vCart s c
  · have fin := Lib.hid (takeOk_c (a := a) (n := n) hp)
    go_enter Try.func36, Try.ntmps36
    go_wp2_with (go_at_call 45; (with_reducible refine (implCart_any s _ c _ _ HS.out HV.out).mono ?_); rintro e w1 ⟨rfl, hb1⟩)
    go_ret2
    exact takePost_mk fin.out (hb1.alloc hb1.size _)
  by_cases hn : n < 1
  · have fin := Lib.hid (takeOk_n (s := s) (c := c) (a := a) hn)
    go_enter Try.func36, Try.ntmps36
    go_wp2_with (go_at_call 45; (with_reducible refine (implCart_any s _ c _ _ HS.out HV.out).mono ?_); rintro e w1 ⟨rfl, hb1⟩)
    go_ret2
    exact takePost_mk fin.out (hb1.alloc hb1.size _)
  have HOK := Lib.hid hp
  have hnb : decide (n < 1) = false := by simpa using hn
  have hn1 : 1 ≤ n := by omega
  go_enter Try.func36, Try.ntmps36
  go_wp2_with (go_at_call 45; (with_reducible refine (implCart_any s _ c _ _ HS.out HV.out).mono ?_); rintro e w2 ⟨rfl, hb1⟩)
  have O0 := Lib.hid (show (w2.alloc (.cells #[] 57)).ownsRow w.heap.size 57 2 (.slice (some ⟨w2.heap.size, 0, none⟩) 0 0) 0 (pr []) from World.ownsRow_made w2 #[] 0 hb1.size (by simp) (by simp))
  have B0 := hb1.alloc hb1.size (.cells #[] 57)
  have T0 := Lib.hid (takeL_zero c a n)
  clear hp hb1
  go_loopw [10, 11, 26] (fun o_ d_ i_ wr => ∃ (k : Nat) (d : Bool) (o : List (Int × Int)), k ≤ c.length ∧ i_ = .int .i64 k ∧ d_ = .bool d ∧ o.length ≤ k ∧ Hid (hasA (c.take k) a = d) ∧ Hid (fewA (c.take k) a n = false) ∧ Hid (wr.ownsRow w.heap.size 57 2 o_ o.length (pr o)) ∧ Below w.heap.size w wr) (fun _ _ i_ _ => c.length - (intOf i_).toNat)
  case atStart => exact ⟨0, false, [], Nat.zero_le _, rfl, rfl, Nat.le_refl _, T0.out.2.1, T0.out.2.2, O0, B0⟩
  case round =>
    clear O0 B0
    obtain ⟨k, d, o, hk, rfl, rfl, hol, hH, hF, O, hbl⟩ := hrel
    have hc8 := (vLines_all (vCart_pr HOK.out).2).2
    by_cases hlt : k < c.length
    · obtain ⟨h4, h5, h6, h7, h8, h9⟩ := art_in HOK.out hlt
      obtain ⟨b, off, rfl, hb, hcell⟩ := HRC.out (by omega)
      have g0 := (hbl.cell (p := ⟨b, off + k*2, none⟩) hb).trans (hcell k hlt).1
      have g1 := (hbl.cell (p := ⟨b, off + k*2+1, none⟩) hb).trans (hcell k hlt).2
      have hbw : b < wr.heap.size := Nat.lt_of_lt_of_le hb hbl.size
      clear hcell h4 h5 h6 h9
      have hbl1 : Below w.heap.size w (wr.alloc (.cells #[.int .i64 (pA c k), .int .i64 (pB c k)] 57)) := hbl.alloc hbl.size _
      by_cases heq : pA c k = a
      · have hneq : (pA c k == a) = true := by rw [beq_iff_eq]; exact heq
        have HE := Lib.hid heq
        clear heq
        by_cases hfew : pB c k < n
        · have fin := Lib.hid (takeOk_f (s := s) (takeL_few hlt HE.out hfew))
          go_wp2
          go_ret2
          exact takePost_mk fin.out (hbl1.alloc hbl1.size _)
        · have hw : IntKind.i64.wrap (pB c k - n) = pB c k - n := IntWalk.i64_in _ (by omega)
          have hfewb : decide (pB c k < n) = false := by simpa using hfew
          by_cases hmore : n < pB c k
          · have hnew := Lib.hid (takeL_more hlt HE.out hmore)
            have hgb : 0 < pB c k - n := by omega
            go_wp2_with (at_builtin; refine app_pair2 rfl (.tmp 47) (.tmp 49) 24 rfl w.heap.size 57 _ i0 _ Try.underlying24 HI.out HZ0.out HZ1.out HZ2.out rfl _ o (pA c k) (pB c k - n) rfl O.out rfl (by omega) hbl.size ?_; intro vA wA hoA hgA; have OB := Lib.hid hoA; have BOB := below_row ((hbl.alloc hbl.size _).alloc (hbl.alloc hbl.size _).size _) hgA (fun k hk => (O.out.lt k hk).1); clear hoA hgA)
            go_roundw
            case rel => exact ⟨k + 1, true, o ++ [(pA c k, pB c k - n)], by omega, by go_num, rfl, by simp; omega, hnew.out.2.1, by rw [Hid, hnew.out.2.2]; exact hF.out, OB, BOB⟩
            case measure => simp [intOf]; omega
          · have hnew := Lib.hid (takeL_all (n := n) hlt HE.out (by omega))
            have hgb : decide (0 < pB c k - n) = false := by simp; omega
            go_wp2
            go_roundw
            case rel => exact ⟨k + 1, true, o, by omega, by go_num, rfl, by omega, hnew.out.2.1, by rw [Hid, hnew.out.2.2]; exact hF.out, Lib.hid (O.out.alloc _), hbl.alloc hbl.size _⟩
            case measure => simp [intOf]; omega
      · have hnew := Lib.hid (takeL_ne (n := n) hlt heq)
        have hneq : (pA c k == a) = false := by rw [beq_eq_false_iff_ne]; exact heq
        have hgb : 0 < pB c k := by omega
        go_wp2_with (at_builtin; refine app_pair2 rfl (.tmp 47) (.tmp 49) 24 rfl w.heap.size 57 _ i0 _ Try.underlying24 HI.out HZ0.out HZ1.out HZ2.out rfl _ o (pA c k) (pB c k) rfl O.out rfl (by omega) hbl.size ?_; intro vA wA hoA hgA; have OB := Lib.hid hoA; have BOB := below_row ((hbl.alloc hbl.size _).alloc (hbl.alloc hbl.size _).size _) hgA (fun k hk => (O.out.lt k hk).1); clear hoA hgA)
        go_roundw
        case rel => exact ⟨k + 1, d, o ++ [(pA c k, pB c k)], by omega, by go_num, rfl, by simp; omega, by rw [Hid, hnew.out.2.1]; exact hH.out, by rw [Hid, hnew.out.2.2]; exact hF.out, OB, BOB⟩
        case measure => simp [intOf]; omega
    · obtain rfl : k = c.length := by omega
      rw [List.take_length] at hH hF
      cases d
      · have fin := Lib.hid (takeOk_h (s := s) (n := n) hH.out)
        go_wp2
        go_ret2
        exact takePost_mk fin.out (hbl.alloc hbl.size _)
      · have fin := Lib.hid (takeOk_y HOK.out hn1 hH.out hF.out)
        go_wp2
        go_ret2
        exact takePost_mk fin.out hbl

/-- The lines of a valid cart have each article once. -/
theorem eqN_none {l : List (Int × Int)} {a : Int} : ∀ k, k ≤ l.length → (∀ j, j < k → ¬ pA l j = a) → eqN (l.take k) a = 0
  | 0, _, _ => (fil_zero l a).2.2
  | k + 1, hk, h => by rw [eqN_no (by omega) (h k (by omega)), eqN_none k (by omega) (fun j hj => h j (by omega))]

end Go.Proofs.Ytomapdedajdkkaa
