/- How pieces are packed into parcels: plain functions on lists and plain laws on them. No program. Conditions: none. -/
import Derived.Test.YteeehgicegmbjaaBandFns
namespace Go.Proofs.Yteeehgicegmbjaa

/-- the count at place i -/
def nG (o : List Nat) (i : Nat) : Nat := o.getD i 0
/-- counts as numbers -/
def nats (o : List Nat) : List Int := o.map fun n : Nat => (n : Int)
/-- how many pieces lie before parcel i -/
def offN (o : List Nat) (i : Nat) : Nat := (o.take i).sum
/-- the weight of n pieces from a on -/
def GS (ws : List Int) (a n : Nat) : Int := ((ws.drop a).take n).sum

theorem nats_len (o : List Nat) : (nats o).length = o.length := by simp [nats]
theorem nats_get (o : List Nat) (i : Nat) : iG (nats o) i = (nG o i : Int) := by
  unfold iG nats nG
  rw [List.getD_eq_getElem?_getD, List.getElem?_map, List.getD_eq_getElem?_getD]
  cases o[i]? <;> rfl
theorem nats_snoc (o : List Nat) (n : Nat) : nats (o ++ [n]) = nats o ++ [(n : Int)] := by simp [nats]
theorem nats_set (o : List Nat) (i n : Nat) : nats (o.set i n) = (nats o).set i (n : Int) := by simp [nats, List.map_set]

theorem GS_zero (ws : List Int) (a : Nat) : GS ws a 0 = 0 := by simp [GS]
theorem GS_succ {ws : List Int} {a n : Nat} (h : a + n < ws.length) : GS ws a (n + 1) = GS ws a n + iG ws (a + n) := by
  unfold GS iG
  have h2 : n < (ws.drop a).length := by rw [List.length_drop]; omega
  rw [List.take_succ_eq_append_getElem h2, List.sum_append, List.getElem_drop, List.getD_eq_getElem?_getD, List.getElem?_eq_getElem h]
  simp

theorem offN_zero (o : List Nat) : offN o 0 = 0 := by simp [offN]
theorem offN_succ {o : List Nat} {i : Nat} (h : i < o.length) : offN o (i + 1) = offN o i + nG o i := by
  unfold offN nG
  rw [List.take_succ_eq_append_getElem h, List.sum_append, List.getD_eq_getElem?_getD, List.getElem?_eq_getElem h]
  simp
theorem offN_all (o : List Nat) : offN o o.length = o.sum := by simp [offN]
theorem offN_mono (o : List Nat) {i j : Nat} (h : i ≤ j) (hj : j ≤ o.length) : offN o i ≤ offN o j := by
  induction j with
  | zero => rw [show i = 0 by omega]; exact Nat.le_refl _
  | succ j ih =>
    by_cases e : i = j + 1
    · subst e; exact Nat.le_refl _
    · have := ih (by omega) (by omega)
      rw [offN_succ (by omega)]; omega
theorem offN_le (o : List Nat) {i : Nat} (h : i ≤ o.length) : offN o i ≤ o.sum := by rw [← offN_all]; exact offN_mono o h (Nat.le_refl _)

theorem nG_left (f : List Nat) (c : Nat) {i : Nat} (h : i < f.length) : nG (f ++ [c]) i = nG f i := by
  unfold nG; rw [List.getD_eq_getElem?_getD, List.getElem?_append_left h, List.getD_eq_getElem?_getD]
theorem nG_last (f : List Nat) (c : Nat) : nG (f ++ [c]) f.length = c := by
  unfold nG; rw [List.getD_eq_getElem?_getD, List.getElem?_append_right (Nat.le_refl _), Nat.sub_self]; rfl
theorem offN_left (f : List Nat) (c : Nat) {i : Nat} (h : i ≤ f.length) : offN (f ++ [c]) i = offN f i := by
  unfold offN; rw [List.take_append_of_le_length h]

/-- one more piece -/
def stepP (most : Int) (s : List Nat × Int) (w : Int) : List Nat × Int :=
  if s.1 = [] ∨ most < s.2 + w then (s.1 ++ [1], w) else (s.1.set (s.1.length - 1) (nG s.1 (s.1.length - 1) + 1), s.2 + w)
/-- the parcels of the first k pieces, and the load of the last one -/
def pk (most : Int) (ws : List Int) : Nat → List Nat × Int
  | 0 => ([], 0)
  | k + 1 => stepP most (pk most ws k) (iG ws k)

structure Packed (most : Int) (ws : List Int) (k : Nat) (o : List Nat) (load : Int) : Prop where
  cnt : o.sum = k
  pos : ∀ i, i < o.length → 1 ≤ nG o i
  fit : ∀ i, i < o.length → GS ws (offN o i) (nG o i) ≤ most
  last : 0 < o.length → load = GS ws (offN o (o.length - 1)) (nG o (o.length - 1))
  full : ∀ i, i + 1 < o.length → most < GS ws (offN o i) (nG o i) + iG ws (offN o (i + 1))

theorem packed_new {most : Int} {ws : List Int} {k : Nat} {o : List Nat} {load : Int} (h : Packed most ws k o load) (hk : k < ws.length) (hw : iG ws k ≤ most) (hc : o = [] ∨ most < load + iG ws k) :
    Packed most ws (k + 1) (o ++ [1]) (iG ws k) := by
  have hoff : offN (o ++ [1]) o.length = k := by rw [offN_left _ _ (Nat.le_refl _), offN_all, h.cnt]
  have hG : GS ws k 1 = iG ws k := by rw [show (1 : Nat) = 0 + 1 from rfl, GS_succ (by omega), GS_zero]; simp
  have hl : (o ++ [1]).length = o.length + 1 := by simp
  refine ⟨by rw [List.sum_append, h.cnt]; rfl, fun i hi => ?_, fun i hi => ?_, fun _ => ?_, fun i hi => ?_⟩
  · by_cases e : i = o.length
    · subst e; rw [nG_last]; omega
    · rw [nG_left _ _ (by omega)]; exact h.pos i (by omega)
  · by_cases e : i = o.length
    · subst e; rw [hoff, nG_last, hG]; exact hw
    · rw [nG_left _ _ (by omega), offN_left _ _ (by omega)]; exact h.fit i (by omega)
  · rw [hl, Nat.add_sub_cancel, hoff, nG_last, hG]
  · by_cases e : i + 1 = o.length
    · rw [e, hoff, nG_left _ _ (by omega), offN_left _ _ (by omega)]
      have hl2 := h.last (by omega)
      rw [show o.length - 1 = i by omega] at hl2
      rcases hc with rfl | hc
      · simp at e
      · rw [← hl2]; exact hc
    · rw [nG_left _ _ (by omega), offN_left _ _ (by omega), offN_left _ _ (by omega)]; exact h.full i (by omega)

theorem packed_more {most : Int} {ws : List Int} {k : Nat} {f : List Nat} {c : Nat} {load : Int} (h : Packed most ws k (f ++ [c]) load) (hk : k < ws.length) (hc : load + iG ws k ≤ most) :
    Packed most ws (k + 1) (f ++ [c + 1]) (load + iG ws k) := by
  have hl : ∀ c : Nat, (f ++ [c]).length = f.length + 1 := by simp
  have hs : f.sum + c = k := by have := h.cnt; rw [List.sum_append] at this; simpa using this
  have hf : offN f f.length = f.sum := offN_all f
  have hlast := h.last (by rw [hl]; omega)
  rw [hl, Nat.add_sub_cancel, nG_last, offN_left _ _ (Nat.le_refl _), hf] at hlast
  have hG : GS ws f.sum (c + 1) = load + iG ws k := by rw [GS_succ (by omega), hs, ← hlast]
  refine ⟨by rw [List.sum_append, List.sum_singleton, ← hs]; omega, fun i hi => ?_, fun i hi => ?_, fun _ => ?_, fun i hi => ?_⟩
  · rw [hl] at hi
    by_cases e : i = f.length
    · subst e; rw [nG_last]; omega
    · have := h.pos i (by rw [hl]; omega)
      rw [nG_left _ _ (by omega)] at this ⊢; exact this
  · rw [hl] at hi
    by_cases e : i = f.length
    · subst e; rw [nG_last, offN_left _ _ (Nat.le_refl _), hf, hG]; exact hc
    · have := h.fit i (by rw [hl]; omega)
      rw [nG_left _ _ (by omega), offN_left _ _ (by omega)] at this ⊢; exact this
  · rw [hl, Nat.add_sub_cancel, nG_last, offN_left _ _ (Nat.le_refl _), hf, hG]
  · rw [hl] at hi
    have := h.full i (by rw [hl]; omega)
    rw [nG_left _ _ (by omega), offN_left _ _ (by omega), offN_left _ _ (by omega)] at this ⊢; exact this

theorem snoc_of {o : List Nat} (h : ¬ o = []) : ∃ f c, o = f ++ [c] := ⟨o.dropLast, o.getLast h, (List.dropLast_concat_getLast h).symm⟩

theorem bump_snoc (f : List Nat) (c : Nat) : (f ++ [c]).set ((f ++ [c]).length - 1) (nG (f ++ [c]) ((f ++ [c]).length - 1) + 1) = f ++ [c + 1] := by
  have hl : (f ++ [c]).length - 1 = f.length := by simp
  rw [hl, nG_last, List.set_append_right _ _ (Nat.le_refl _), Nat.sub_self]; rfl

theorem packed_all {most : Int} {ws : List Int} (hw : ∀ i, i < ws.length → iG ws i ≤ most) : ∀ k, k ≤ ws.length → Packed most ws k (pk most ws k).1 (pk most ws k).2
  | 0, _ => ⟨rfl, fun i hi => absurd hi (Nat.not_lt_zero _), fun i hi => absurd hi (Nat.not_lt_zero _), fun h => absurd h (Nat.lt_irrefl _), fun i hi => absurd hi (Nat.not_lt_zero _)⟩
  | k + 1, hk => by
    have ih := packed_all hw k (by omega)
    have hwk := hw k (by omega)
    unfold pk stepP
    generalize (pk most ws k).1 = o at *
    generalize (pk most ws k).2 = load at *
    by_cases hc : o = [] ∨ most < load + iG ws k
    · rw [if_pos hc]
      exact packed_new ih (by omega) hwk hc
    · rw [if_neg hc]
      obtain ⟨f, c, rfl⟩ := snoc_of (fun e => hc (.inl e))
      simp only [bump_snoc]
      exact packed_more ih (by omega) (by omega)

/-- the parcels of all pieces -/
def fParcels (l : List (Int × Int)) (ws : List Int) : List Nat :=
  if vBands l = true ∧ ws.length ≤ 8 ∧ ∀ i, i < ws.length → wi (iG ws i) 0 (pA l (l.length - 1)) = true then (pk (pA l (l.length - 1)) ws ws.length).1 else []

theorem fParcels_some {l : List (Int × Int)} {ws : List Int} (h : ¬ fParcels l ws = []) : vBands l = true ∧ ws.length ≤ 8 ∧ (∀ i, i < ws.length → wi (iG ws i) 0 (pA l (l.length - 1)) = true) ∧ fParcels l ws = (pk (pA l (l.length - 1)) ws ws.length).1 ∧
    ∃ load, Packed (pA l (l.length - 1)) ws ws.length (fParcels l ws) load := by
  by_cases hc : vBands l = true ∧ ws.length ≤ 8 ∧ ∀ i, i < ws.length → wi (iG ws i) 0 (pA l (l.length - 1)) = true
  · have e : fParcels l ws = (pk (pA l (l.length - 1)) ws ws.length).1 := by unfold fParcels; rw [if_pos hc]
    refine ⟨hc.1, hc.2.1, hc.2.2, e, (pk (pA l (l.length - 1)) ws ws.length).2, ?_⟩
    rw [e]
    exact packed_all (fun i hi => (wi_true.1 (hc.2.2 i hi)).2) _ (Nat.le_refl _)
  · exact absurd (by unfold fParcels; rw [if_neg hc]) h

theorem GS_nonneg {ws : List Int} (h : ∀ i, i < ws.length → 0 ≤ iG ws i) (a : Nat) : ∀ n, a + n ≤ ws.length → 0 ≤ GS ws a n
  | 0, _ => by rw [GS_zero]; omega
  | n + 1, hn => by
    have := GS_nonneg h a n (by omega)
    have := h (a + n) (by omega)
    rw [GS_succ (by omega)]; omega

theorem GS_add {ws : List Int} (a : Nat) (n : Nat) : ∀ m, a + n + m ≤ ws.length → GS ws a (n + m) = GS ws a n + GS ws (a + n) m
  | 0, _ => by rw [GS_zero]; simp
  | m + 1, hm => by
    rw [← Nat.add_assoc, GS_succ (by omega), GS_succ (by omega), GS_add a n m (by omega), ← Nat.add_assoc]; omega

/-- what fits is one parcel -/
theorem one_parcel {most : Int} {ws : List Int} {o : List Nat} {load : Int} (h : Packed most ws ws.length o load) (hw : ∀ i, i < ws.length → 0 ≤ iG ws i) (h0 : 0 < o.length) : GS ws 0 ws.length ≤ most ↔ o.length = 1 := by
  have hs := h.cnt
  constructor
  · intro hle
    by_cases e : o.length = 1
    · exact e
    · exfalso
      have hf := h.full 0 (by omega)
      have h1 : offN o 1 = nG o 0 := by have h : offN o 1 = offN o 0 + nG o 0 := offN_succ h0; rw [offN_zero] at h; omega
      rw [offN_zero, show (0 : Nat) + 1 = 1 from rfl, h1] at hf
      have h2 : offN o 2 = offN o 1 + nG o 1 := offN_succ (o := o) (i := 1) (by omega)
      have h3 := h.pos 1 (by omega)
      have h4 := offN_le o (i := 2) (by omega)
      have h5 : nG o 0 + 1 ≤ ws.length := by omega
      have h6 := GS_add (ws := ws) 0 (nG o 0 + 1) (ws.length - (nG o 0 + 1)) (by omega)
      have h7 := GS_nonneg hw (0 + (nG o 0 + 1)) (ws.length - (nG o 0 + 1)) (by omega)
      have h8 := GS_succ (ws := ws) (a := 0) (n := nG o 0) (by omega)
      rw [show nG o 0 + 1 + (ws.length - (nG o 0 + 1)) = ws.length by omega] at h6
      rw [Nat.zero_add] at h8 h7 h6
      omega
  · intro e
    have hf := h.fit 0 h0
    have h1 := offN_all o
    have h2 : offN o 1 = offN o 0 + nG o 0 := offN_succ (o := o) (i := 0) h0
    rw [e, hs] at h1
    rw [offN_zero] at hf h2
    rwa [show nG o 0 = ws.length by omega] at hf

theorem fParcels_v {l : List (Int × Int)} {ws : List Int} (h : vBands l = false) : fParcels l ws = [] := by unfold fParcels; rw [if_neg (by rw [h]; simp)]
theorem fParcels_n {l : List (Int × Int)} {ws : List Int} (h : 8 < ws.length) : fParcels l ws = [] := by unfold fParcels; rw [if_neg (by intro hc; omega)]
theorem fParcels_w {l : List (Int × Int)} {ws : List Int} {k : Nat} (hk : k < ws.length) (h : wi (iG ws k) 0 (pA l (l.length - 1)) = false) : fParcels l ws = [] := by
  unfold fParcels; rw [if_neg (by intro hc; rw [hc.2.2 k hk] at h; cases h)]
theorem fParcels_y {l : List (Int × Int)} {ws : List Int} (h1 : vBands l = true) (h2 : ws.length ≤ 8) (h3 : ∀ i, i < ws.length → wi (iG ws i) 0 (pA l (l.length - 1)) = true) : fParcels l ws = (pk (pA l (l.length - 1)) ws ws.length).1 := by
  unfold fParcels; rw [if_pos ⟨h1, h2, h3⟩]

theorem nG_le : ∀ (o : List Nat) (i : Nat), nG o i ≤ o.sum
  | [], i => by simp [nG]
  | a :: o, 0 => by simp [nG]
  | a :: o, i + 1 => by
    have := nG_le o i
    have e : nG (a :: o) (i + 1) = nG o i := by simp [nG]
    rw [e, List.sum_cons]; omega

theorem pk_len (most : Int) (ws : List Int) : ∀ k, (pk most ws k).1.length ≤ k
  | 0 => by simp [pk]
  | k + 1 => by
    have ih := pk_len most ws k
    unfold pk stepP
    split
    · simp; omega
    · simp; omega

theorem pk_load {most : Int} {ws : List Int} (h : ∀ i, i < ws.length → 0 ≤ iG ws i ∧ iG ws i ≤ most) (h0 : 0 ≤ most) : ∀ k, k ≤ ws.length → 0 ≤ (pk most ws k).2 ∧ (pk most ws k).2 ≤ most
  | 0, _ => by simp [pk]; exact h0
  | k + 1, hk => by
    have ih := pk_load h h0 k (by omega)
    have := h k (by omega)
    unfold pk stepP
    split
    · exact this
    · rename_i hc
      simp only [not_or] at hc
      constructor <;> simp only <;> omega

theorem pk_new {most : Int} {ws : List Int} {k : Nat} {o : List Nat} {load : Int} (h : pk most ws k = (o, load)) (hc : o = [] ∨ most < load + iG ws k) : pk most ws (k + 1) = (o ++ [1], iG ws k) := by
  unfold pk stepP; rw [h, if_pos hc]
theorem pk_more {most : Int} {ws : List Int} {k : Nat} {f : List Nat} {c : Nat} {load : Int} (h : pk most ws k = (f ++ [c], load)) (hc : load + iG ws k ≤ most) : pk most ws (k + 1) = (f ++ [c + 1], load + iG ws k) := by
  unfold pk stepP; rw [h, if_neg (by simp; omega)]
  simp only [bump_snoc]

theorem GS_bd {ws : List Int} (h : ∀ i, i < ws.length → 0 ≤ iG ws i ∧ iG ws i ≤ 800000) (a : Nat) : ∀ n, a + n ≤ ws.length → 0 ≤ GS ws a n ∧ GS ws a n ≤ 800000 * n
  | 0, _ => by rw [GS_zero]; omega
  | n + 1, hn => by
    have := GS_bd h a n (by omega)
    have := h (a + n) (by omega)
    rw [GS_succ (by omega)]; omega

theorem fParcels_nil (l : List (Int × Int)) : fParcels l [] = [] := by
  unfold fParcels
  split <;> rfl

/-- what is known where something is packed -/
structure PackedAll (l : List (Int × Int)) (ws : List Int) (o : List Nat) (most : Int) : Prop where
  most_is : pA l (l.length - 1) = most
  len_l : 1 ≤ l.length ∧ l.length ≤ 5
  most_bd : 1 ≤ most ∧ most ≤ 800000
  len_w : ws.length ≤ 8
  wts : ∀ i, i < ws.length → 0 ≤ iG ws i ∧ iG ws i ≤ 800000
  cnt : o.sum = ws.length
  pos : ∀ i, i < o.length → 1 ≤ nG o i
  fit : ∀ i, i < o.length → GS ws (offN o i) (nG o i) ≤ most
  full : ∀ i, i + 1 < o.length → most < GS ws (offN o i) (nG o i) + iG ws (offN o (i + 1))
  one : GS ws 0 ws.length ≤ most ↔ o.length = 1
  len_o : 0 < o.length

theorem packed_known {l : List (Int × Int)} {ws : List Int} (h : ¬ fParcels l ws = []) : ∃ most, PackedAll l ws (fParcels l ws) most := by
  obtain ⟨h1, h2, h3, _, load, h5⟩ := fParcels_some h
  have hv := vBands_all h1
  have hb := bdOk_pr (hv.1 (l.length - 1) (by omega))
  have hw : ∀ i, i < ws.length → 0 ≤ iG ws i ∧ iG ws i ≤ 800000 := fun i hi => by have := wi_true.1 (h3 i hi); omega
  have hl : 0 < (fParcels l ws).length := List.length_pos_iff.2 h
  exact ⟨_, rfl, hv.2, ⟨hb.1, hb.2.1⟩, h2, hw, h5.cnt, h5.pos, h5.fit, h5.full, one_parcel h5 (fun i hi => (hw i hi).1) hl, hl⟩

theorem PackedAll.lens {l : List (Int × Int)} {ws : List Int} {o : List Nat} {most : Int} (h : PackedAll l ws o most) : ∀ i, i ≤ o.length → i ≤ offN o i
  | 0, _ => Nat.zero_le _
  | i + 1, hi => by
    have := h.lens i (by omega)
    have := h.pos i (by omega)
    rw [offN_succ (by omega)]; omega
theorem PackedAll.len8 {l : List (Int × Int)} {ws : List Int} {o : List Nat} {most : Int} (h : PackedAll l ws o most) : o.length ≤ 8 := by
  have h1 := h.lens o.length (Nat.le_refl _)
  rw [offN_all, h.cnt] at h1
  have := h.len_w
  omega

end Go.Proofs.Yteeehgicegmbjaa
