/- Walks: the generators of histories of prices and of days. Conditions: none. -/
import Derived.Test.YtphjdgncfamloabWR
import Derived.Lib.MinMax
namespace Go.Proofs.Ytphjdgncfamloab
open Go.RowKit

theorem Try.info36g : (Try.prog.info? 36).map (fun i => (i.zero, i.size, i.bytes)) = some (some (.agg #[.int .i64 0, .int .i64 0]), 2, 16) := by kernel_rfl

/-- all numbers of a drawn history are small -/
def small (l : List (Int × Int)) : Prop := ∀ x ∈ l, -10000 ≤ x.1 ∧ x.1 ≤ 10000 ∧ -10000 ≤ x.2 ∧ x.2 ≤ 10000

theorem small_snoc {l : List (Int × Int)} {a b : Int} (h : small l) (h1 : -10000 ≤ a ∧ a ≤ 10000) (h2 : -10000 ≤ b ∧ b ≤ 10000) : small (l ++ [(a, b)]) := by
  intro x hx
  rcases List.mem_append.1 hx with h3 | h3
  · exact h x h3
  · simp only [List.mem_singleton] at h3; subst h3; exact ⟨h1.1, h1.2, h2.1, h2.2⟩

theorem small_set {l : List (Int × Int)} {k : Nat} {a b : Int} (h : small l) (h1 : -10000 ≤ a ∧ a ≤ 10000) (h2 : -10000 ≤ b ∧ b ≤ 10000) : small (l.set k (a, b)) := by
  intro x hx
  rcases List.mem_or_eq_of_mem_set hx with h3 | h3
  · exact h x h3
  · subst h3; exact ⟨h1.1, h1.2, h2.1, h2.2⟩

theorem small_get {l : List (Int × Int)} {k : Nat} (h : small l) (hk : k < l.length) : -10000 ≤ pA l k ∧ pA l k ≤ 10000 ∧ -10000 ≤ pB l k ∧ pB l k ≤ 10000 := by
  unfold pA pB
  rw [List.getD_eq_getElem?_getD, List.getElem?_eq_getElem hk]
  exact h _ (List.getElem_mem hk)

/-- What a drawn history is. -/
def PricesPost (w : World) (R u : Nat) (e : Ending) (w' : World) : Prop :=
  ∃ (l : List (Int × Int)) (v : Value), e = .returned v ∧ w'.ownsRow w.heap.size 36 2 v l.length (pr l) ∧ small l ∧ l.length ≤ 13 ∧ RdrStep w R (u + 40) w'

set_option maxHeartbeats 2000000 in
theorem anyPrices_any (R u : Nat) (w : World) (h : Rdr w R u) (hu : u ≤ 1000000000000) :
    Calls Try.prog 36 #[.pointer (some ⟨R, 0, none⟩)] w (PricesPost w R u) := by
  have hR := h.lt
  obtain ⟨i0, hi, hz0, hz1, hz2⟩ := info_parts Try.info36g
  have HI := Lib.hid hi
  have HZ0 := Lib.hid hz0
  have HZ1 := Lib.hid hz1
  have HZ2 := Lib.hid hz2
  clear hi hz0 hz1 hz2
  go_enter Try.func36, Try.ntmps36
  go_wp2_with fail
  have s0 := (RdrStep.refl h).alloc (.cells #[] 36)
  have o0 : (w.alloc (.cells #[] 36)).ownsRow w.heap.size 36 2 (.slice (some ⟨w.heap.size, 0, none⟩) 0 0) 0 (pr []) := World.ownsRow_made w #[] 0 (Nat.le_refl _) (by simp) (by simp)
  have O0 := Lib.hid o0
  clear o0
  refine (pick_any R _ _ _ s0.1 (by omega)).mono ?_
  rintro e w1 ⟨d0, rfl, hd0, hd1, s1⟩
  have hd2 := hd1 (by omega)
  have o1 := owns_step O0.out s1 hR
  have O1 := Lib.hid o1
  have s1' := s0.trans s1
  clear o1 hd1 O0 s0 s1
  go_wp2_with fail
  refine (one_lit R _ [3, 4, 2, 6, 1, 0, 12, 13] _ _ s1'.1 (by omega) (by simp) (by simp)).mono ?_
  rintro e w2 ⟨n0, hn0, rfl, s2⟩
  have hn1 : 0 ≤ n0 ∧ n0 ≤ 13 := (by decide : ∀ x ∈ ([3, 4, 2, 6, 1, 0, 12, 13] : List Int), 0 ≤ x ∧ x ≤ 13) n0 hn0
  obtain ⟨n, rfl⟩ := Int.eq_ofNat_of_zero_le hn1.1
  have hn2 : n ≤ 13 := by omega
  have O2 := Lib.hid (owns_step O1.out s2 hR)
  have s2' := s1'.trans s2
  clear hn0 hn1 O1 s2 s1'
  go_wp2
  go_loopw [3, 4, 5] (fun v dd nn wr => ∃ (m : Nat) (l : List (Int × Int)) (d : Int), nn = .int .i64 m ∧ l.length + m ≤ 13 ∧ dd = .int .i64 d ∧ 0 ≤ d ∧ d + 60 * m ≤ 900 ∧ Hid (wr.ownsRow w.heap.size 36 2 v l.length (pr l)) ∧ small l ∧ RdrStep w R (u + 30 - 2 * m) wr) (fun _ _ nn _ => (intOf nn).toNat)
  case atStart => exact ⟨n, [], d0, rfl, by simp; exact hn2, rfl, hd0, by omega, O2, by simp [small], s2'.mono (by omega)⟩
  case round =>
    clear O2 s2'
    obtain ⟨m, l, d, rfl, hlm, rfl, hd3, hd4, hown, hsm, hs⟩ := hrel
    by_cases hm : 0 < m
    · go_wp2_with fail
      refine (one_lit R _ [500, 450, 700, 1, 5000, 399] _ _ hs.1 (by omega) (by simp) (by simp)).mono ?_
      rintro e w3 ⟨p, hp, rfl, s3⟩
      have hp1 : 1 ≤ p ∧ p ≤ 5000 := (by decide : ∀ x ∈ ([500, 450, 700, 1, 5000, 399] : List Int), 1 ≤ x ∧ x ≤ 5000) p hp
      have O3 := Lib.hid (owns_step hown.out s3 hR)
      have s3' := hs.trans s3
      clear hp hown s3 hs
      go_wp2_with (at_builtin; refine app_pair rfl (.tmp 16) (.tmp 23) 23 rfl w.heap.size 36 _ i0 _ Try.underlying23 HI.out HZ0.out HZ1.out HZ2.out rfl _ l (min d 999) p rfl O3.out rfl (by omega) s3'.size ?_; intro v' w4 hown4 hg4)
      have s4 := (s3'.alloc _).own hR hg4 (fun k hk => (O3.out.lt k hk).1)
      have O4 := Lib.hid hown4
      have sm4 := small_snoc hsm (a := min d 999) (b := p) (by omega) (by omega)
      have SM4 := Lib.hid sm4
      clear hown4 hg4 O3 s3' hsm sm4
      go_wp2_with fail
      refine (one_lit R _ [1, 5, 10, 29, 30, 31, 60] _ _ s4.1 (by omega) (by simp) (by simp)).mono ?_
      rintro e w5 ⟨q, hq, rfl, s5⟩
      have hq1 : 1 ≤ q ∧ q ≤ 60 := (by decide : ∀ x ∈ ([1, 5, 10, 29, 30, 31, 60] : List Int), 1 ≤ x ∧ x ≤ 60) q hq
      have O5 := Lib.hid (owns_step O4.out s5 hR)
      have s5' := s4.trans s5
      clear hq O4 s4 s5
      go_wp2
      go_roundw
      case rel => exact ⟨m - 1, l ++ [(min d 999, p)], d + q, by go_num, by simp; omega, rfl, by omega, by omega, O5, SM4.out, s5'.mono (by omega)⟩
      case measure => simp [intOf]; omega
    · obtain ⟨ao, cap, hv, hg⟩ := owns_shape hown.out
      subst hv
      have HG := Lib.hid hg
      have HS := Lib.hid hsm
      clear hg hsm
      by_cases hl : 0 < l.length
      · obtain ⟨g, rfl, hgb⟩ := HG.out hl
        go_wp2_with fail
        refine (pick_any R _ _ _ hs.1 (by omega)).mono ?_
        rintro e w3 ⟨k0, rfl, _, _, s3⟩
        have O3 := Lib.hid (owns_step hown.out s3 hR)
        have s3' := hs.trans s3
        clear hown s3 hs
        cases hz : (k0 == 0)
        · go_wp2
          go_ret
          exact ⟨l, _, rfl, O3.out, HS.out, by omega, s3'.mono (by omega)⟩
        · go_wp2_with fail
          refine (pick_any R _ _ _ s3'.1 (by omega)).mono ?_
          rintro e w4 ⟨k1, rfl, hk1, hk2, s4⟩
          have hk3 := hk2 (by omega)
          obtain ⟨k, rfl⟩ := Int.eq_ofNat_of_zero_le hk1
          have hk4 : k < l.length := by omega
          have O4 := Lib.hid (owns_step O3.out s4 hR)
          have s4' := s3'.trans s4
          clear O3 s4 s3' hk2 hk3 hk1
          go_wp2_with fail
          refine (one_lit R _ [-1, 1000, 5] _ _ s4'.1 (by omega) (by simp) (by simp)).mono ?_
          rintro e w5 ⟨p, hp, rfl, s5⟩
          have hp1 : -10000 ≤ p ∧ p ≤ 10000 := (by decide : ∀ x ∈ ([-1, 1000, 5] : List Int), -10000 ≤ x ∧ x ≤ 10000) p hp
          have O5 := Lib.hid (owns_step O4.out s5 hR)
          have s5' := s4'.trans s5
          clear hp O4 s5 s4'
          go_wp2_with fail
          refine (one_lit R _ [0, 5001, 1] _ _ s5'.1 (by omega) (by simp) (by simp)).mono ?_
          rintro e w6 ⟨q, hq, rfl, s6⟩
          have hq1 : -10000 ≤ q ∧ q ≤ 10000 := (by decide : ∀ x ∈ ([0, 5001, 1] : List Int), -10000 ≤ x ∧ x ≤ 10000) q hq
          have O6 := Lib.hid (owns_step O5.out s6 hR)
          have s6' := s5'.trans s6
          clear hq O5 s6 s5'
          obtain ⟨c0, c1, f0, f1⟩ := owns_at2 O6.out k hk4
          go_wp2
          go_ret
          refine ⟨l.set k (p, q), _, rfl, ?_, small_set HS.out hp1 hq1, by simp; omega, ?_⟩
          · rw [List.length_set]
            exact owns_set2 O6.out k p q
          · have e1 := (O6.out.stored (k * 2) (.int .i64 p))
            have e2 := (e1.1.stored (k * 2 + 1) (.int .i64 q))
            have hge : ∀ k, some g = some k → w.heap.size ≤ k := fun k hk => by simp only [Option.some.injEq] at hk; omega
            exact ((s6'.own hR e1.2 hge).own hR e2.2 hge).mono (by omega)
      · go_wp2
        go_ret
        exact ⟨l, _, rfl, hown.out, HS.out, by omega, hs.mono (by omega)⟩

end Go.Proofs.Ytphjdgncfamloab
