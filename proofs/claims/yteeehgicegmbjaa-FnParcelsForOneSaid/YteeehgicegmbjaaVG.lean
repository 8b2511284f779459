/- Walks: the generators of bands. Conditions: none. -/
import Derived.Test.YteeehgicegmbjaaWR
import Derived.Lib.MinMax
namespace Go.Proofs.Yteeehgicegmbjaa
open Go.RowKit

theorem Try.info37g : (Try.prog.info? 37).map (fun i => (i.zero, i.size, i.bytes)) = some (some (.agg #[.int .i64 0, .int .i64 0]), 2, 16) := by kernel_rfl

/-- all numbers of drawn bands are small -/
def smallM (l : List (Int × Int)) : Prop := ∀ x ∈ l, -1100000 ≤ x.1 ∧ x.1 ≤ 1100000 ∧ -1100000 ≤ x.2 ∧ x.2 ≤ 1100000

theorem smallM_snoc {l : List (Int × Int)} {a b : Int} (h : smallM l) (h1 : -1100000 ≤ a ∧ a ≤ 1100000) (h2 : -1100000 ≤ b ∧ b ≤ 1100000) : smallM (l ++ [(a, b)]) := by
  intro x hx
  rcases List.mem_append.1 hx with h3 | h3
  · exact h x h3
  · simp only [List.mem_singleton] at h3; subst h3; exact ⟨h1.1, h1.2, h2.1, h2.2⟩

theorem smallM_set {l : List (Int × Int)} {k : Nat} {a b : Int} (h : smallM l) (h1 : -1100000 ≤ a ∧ a ≤ 1100000) (h2 : -1100000 ≤ b ∧ b ≤ 1100000) : smallM (l.set k (a, b)) := by
  intro x hx
  rcases List.mem_or_eq_of_mem_set hx with h3 | h3
  · exact h x h3
  · subst h3; exact ⟨h1.1, h1.2, h2.1, h2.2⟩

theorem smallM_get {l : List (Int × Int)} {k : Nat} (h : smallM l) (hk : k < l.length) : -1100000 ≤ pA l k ∧ pA l k ≤ 1100000 ∧ -1100000 ≤ pB l k ∧ pB l k ≤ 1100000 := by
  unfold pA pB
  rw [List.getD_eq_getElem?_getD, List.getElem?_eq_getElem hk]
  exact h _ (List.getElem_mem hk)

/-- What a drawn history is. -/
def BandsPost (w : World) (R u : Nat) (e : Ending) (w' : World) : Prop :=
  ∃ (l : List (Int × Int)) (v : Value), e = .returned v ∧ w'.ownsRow w.heap.size 37 2 v l.length (pr l) ∧ smallM l ∧ l.length ≤ 6 ∧ RdrStep w R (u + 40) w'

set_option maxHeartbeats 2000000 in
theorem anyBands_any (R u : Nat) (w : World) (h : Rdr w R u) (hu : u ≤ 1000000000000) :
    Calls Try.prog 37 #[.pointer (some ⟨R, 0, none⟩)] w (BandsPost w R u) := by
  have hR := h.lt
  obtain ⟨i0, hi, hz0, hz1, hz2⟩ := info_parts Try.info37g
  have HI := Lib.hid hi
  have HZ0 := Lib.hid hz0
  have HZ1 := Lib.hid hz1
  have HZ2 := Lib.hid hz2
  clear hi hz0 hz1 hz2
  go_enter Try.func37, Try.ntmps37
  go_wp2_with fail
  have s0 := (RdrStep.refl h).alloc (.cells #[] 37)
  have o0 : (w.alloc (.cells #[] 37)).ownsRow w.heap.size 37 2 (.slice (some ⟨w.heap.size, 0, none⟩) 0 0) 0 (pr []) := World.ownsRow_made w #[] 0 (Nat.le_refl _) (by simp) (by simp)
  have O0 := Lib.hid o0
  clear o0
  have c1 := one_lit R _ [2, 3, 1, 5, 0, 6] (w.alloc (.cells #[] 37)) 3 s0.1 (by omega) (by simp) (by simp)
  rw [World.size_alloc] at c1
  refine c1.mono ?_
  clear c1
  rintro e w2 ⟨n0, hn0, rfl, s2⟩
  have hn1 : 0 ≤ n0 ∧ n0 ≤ 6 := (by decide : ∀ x ∈ ([2, 3, 1, 5, 0, 6] : List Int), 0 ≤ x ∧ x ≤ 6) n0 hn0
  obtain ⟨n, rfl⟩ := Int.eq_ofNat_of_zero_le hn1.1
  have hn2 : n ≤ 6 := by omega
  have O2 := Lib.hid (owns_step O0.out s2 hR)
  have s2' := s0.trans s2
  clear hn0 hn1 O0 s2 s0
  go_wp2
  go_loopw [3, 4, 5, 6] (fun v uu pp nn wr => ∃ (m : Nat) (l : List (Int × Int)) (d p : Int), nn = .int .i64 m ∧ l.length + m ≤ 6 ∧ uu = .int .i64 d ∧ pp = .int .i64 p ∧ 0 ≤ d ∧ d + 2000 * m ≤ 12000 ∧ 0 ≤ p ∧ p + 450 * m ≤ 2700 ∧ Hid (wr.ownsRow w.heap.size 37 2 v l.length (pr l)) ∧ smallM l ∧ RdrStep w R (u + 30 - 2 * m) wr) (fun _ _ _ nn _ => (intOf nn).toNat)
  case atStart => exact ⟨n, [], 0, 0, rfl, by simp; exact hn2, rfl, rfl, by omega, by omega, by omega, by omega, O2, by simp [smallM], s2'.mono (by omega)⟩
  case round =>
    clear O2 s2'
    obtain ⟨m, l, d, p, rfl, hlm, rfl, rfl, hd3, hd4, hp3, hp4, hown, hsm, hs⟩ := hrel
    by_cases hm : 0 < m
    · go_wp2_with fail
      refine (one_lit R _ [500, 1000, 2000, 1] _ _ hs.1 (by omega) (by simp) (by simp)).mono ?_
      rintro e w3 ⟨q, hq, rfl, s3⟩
      have hq1 : 0 ≤ q ∧ q ≤ 2000 := (by decide : ∀ x ∈ ([500, 1000, 2000, 1] : List Int), 0 ≤ x ∧ x ≤ 2000) q hq
      have O3 := Lib.hid (owns_step hown.out s3 hR)
      have s3' := hs.trans s3
      clear hq hown s3 hs
      go_wp2_with fail
      refine (one_lit R _ [0, 300, 100, 450] _ _ s3'.1 (by omega) (by simp) (by simp)).mono ?_
      rintro e w5 ⟨r, hr, rfl, s5⟩
      have hr1 : 0 ≤ r ∧ r ≤ 450 := (by decide : ∀ x ∈ ([0, 300, 100, 450] : List Int), 0 ≤ x ∧ x ≤ 450) r hr
      have O5 := Lib.hid (owns_step O3.out s5 hR)
      have s5' := s3'.trans s5
      clear hr O3 s3' s5
      go_wp2_with (at_builtin; refine app_pair rfl (.tmp 25) (.tmp 29) 23 rfl w.heap.size 37 _ i0 _ Try.underlying23 HI.out HZ0.out HZ1.out HZ2.out rfl _ l (d + q) (p + r) rfl O5.out rfl (by omega) s5'.size ?_; intro v' w4 hown4 hg4)
      have s4 := (s5'.alloc _).own hR hg4 (fun k hk => (O5.out.lt k hk).1)
      have O4 := Lib.hid hown4
      have sm4 := smallM_snoc hsm (a := d + q) (b := p + r) (by omega) (by omega)
      have SM4 := Lib.hid sm4
      clear hown4 hg4 O5 s5' hsm sm4
      go_wp2
      go_roundw
      case rel => exact ⟨m - 1, l ++ [(d + q, p + r)], d + q, p + r, by go_num, by simp; omega, rfl, rfl, by omega, by omega, by omega, by omega, O4, SM4.out, s4.mono (by omega)⟩
      case measure => simp [intOf]; omega
    · obtain ⟨ao, cap, hv, hg⟩ := owns_shape hown.out
      subst hv
      have HG := Lib.hid hg
      have HS := Lib.hid hsm
      clear hg hsm
      by_cases hl : 0 < l.length
      · obtain ⟨g, rfl, hgb⟩ := HG.out hl
        go_wp2_with fail
        refine (pick_any R _ _ _ hs.1 (by omega)).mono ?_
        rintro e w3 ⟨k0, rfl, _, _, s3⟩
        have O3 := Lib.hid (owns_step hown.out s3 hR)
        have s3' := hs.trans s3
        clear hown s3 hs
        cases hz : (k0 == 0)
        · go_wp2
          go_ret
          exact ⟨l, _, rfl, O3.out, HS.out, by omega, s3'.mono (by omega)⟩
        · go_wp2_with fail
          refine (pick_any R _ _ _ s3'.1 (by omega)).mono ?_
          rintro e w4 ⟨k1, rfl, hk1, hk2, s4⟩
          have hk3 := hk2 (by omega)
          obtain ⟨k, rfl⟩ := Int.eq_ofNat_of_zero_le hk1
          have hk4 : k < l.length := by omega
          have O4 := Lib.hid (owns_step O3.out s4 hR)
          have s4' := s3'.trans s4
          clear O3 s4 s3' hk2 hk3 hk1
          go_wp2_with fail
          refine (one_lit R _ [0, 800001, 1] _ _ s4'.1 (by omega) (by simp) (by simp)).mono ?_
          rintro e w5 ⟨p, hp, rfl, s5⟩
          have hp1 : -1100000 ≤ p ∧ p ≤ 1100000 := (by decide : ∀ x ∈ ([0, 800001, 1] : List Int), -1100000 ≤ x ∧ x ≤ 1100000) p hp
          have O5 := Lib.hid (owns_step O4.out s5 hR)
          have s5' := s4'.trans s5
          clear hp O4 s5 s4'
          go_wp2_with fail
          refine (one_lit R _ [-1, 0, 1000001] _ _ s5'.1 (by omega) (by simp) (by simp)).mono ?_
          rintro e w6 ⟨q, hq, rfl, s6⟩
          have hq1 : -1100000 ≤ q ∧ q ≤ 1100000 := (by decide : ∀ x ∈ ([-1, 0, 1000001] : List Int), -1100000 ≤ x ∧ x ≤ 1100000) q hq
          have O6 := Lib.hid (owns_step O5.out s6 hR)
          have s6' := s5'.trans s6
          clear hq O5 s6 s5'
          obtain ⟨c0, c1, f0, f1⟩ := owns_at2 O6.out k hk4
          go_wp2
          go_ret
          refine ⟨l.set k (p, q), _, rfl, ?_, smallM_set HS.out hp1 hq1, by simp; omega, ?_⟩
          · rw [List.length_set]
            exact owns_set2 O6.out k p q
          · have e1 := (O6.out.stored (k * 2) (.int .i64 p))
            have e2 := (e1.1.stored (k * 2 + 1) (.int .i64 q))
            have hge : ∀ k, some g = some k → w.heap.size ≤ k := fun k hk => by simp only [Option.some.injEq] at hk; omega
            exact ((s6'.own hR e1.2 hge).own hR e2.2 hge).mono (by omega)
      · go_wp2
        go_ret
        exact ⟨l, _, rfl, hown.out, HS.out, by omega, hs.mono (by omega)⟩

end Go.Proofs.Yteeehgicegmbjaa
