/- Joined texts: Plain laws: coupons, guards that hold, receipts, the lines of a session; no program. Walks: numbers as text in the reference. Walks: valid spans, guards and rules. Conditions: none. -/
import Derived.Test.YtijofgaekmahkaaGreatDoorM04
import Derived.Test.YtijofgaekmahkaaGreatDoorRows
import Derived.WalkKit
import Derived.WalkSpells
import Derived.WalkSmall
import Derived.Lib.Hide
import Derived.Deep.RegionWith
import Derived.Laws.IdiomStrings
namespace Go.Proofs.YtijofgaekmahkaaGreatDoor
open Go.RowKit
def cpOk (l : List Int) (k : Nat) : Bool := wi (iG l k) 1 9 && (decide (k = 0) || decide (iG l (k - 1) < iG l k))
def cpnQ (l : List Int) : Bool := (List.range l.length).all (cpOk l) && decide (l.length ≤ 3)
theorem cpnQ_pr {l : List Int} (h : cpnQ l = true) : (∀ k, k < l.length → 1 ≤ iG l k ∧ iG l k ≤ 9 ∧ (k = 0 ∨ iG l (k - 1) < iG l k)) ∧ l.length ≤ 3 := by
 unfold cpnQ at h
 rw [Bool.and_eq_true, List.all_eq_true, decide_eq_true_eq] at h
 refine ⟨fun k hk => ?_, h.2⟩
 have := h.1 k (List.mem_range.2 hk)
 simp only [cpOk, Bool.and_eq_true, Bool.or_eq_true, decide_eq_true_eq, wi_true] at this
 omega
theorem cpnQ_mk {l : List Int} (h : ∀ k, k < l.length → 1 ≤ iG l k ∧ iG l k ≤ 9 ∧ (k = 0 ∨ iG l (k - 1) < iG l k)) (hl : l.length ≤ 3) : cpnQ l = true := by
 unfold cpnQ
 rw [Bool.and_eq_true, List.all_eq_true, decide_eq_true_eq]
 refine ⟨fun k hk => ?_, hl⟩
 have := h k (List.mem_range.1 hk)
 simp only [cpOk, Bool.and_eq_true, Bool.or_eq_true, decide_eq_true_eq, wi_true]
 omega
def hasK (l : List Int) (n : Int) : Nat → Bool
 | 0 => false
 | k + 1 => hasK l n k || decide (iG l k = n)
def hasQ (l : List Int) (n : Int) : Bool := hasK l n l.length
theorem hasK_iff (l : List Int) (n : Int) : ∀ k, hasK l n k = true ↔ ∃ j, j < k ∧ iG l j = n
 | 0 => by simp [hasK]
 | k + 1 => by
   unfold hasK
   rw [Bool.or_eq_true, hasK_iff l n k, decide_eq_true_eq]
   constructor
   · rintro (⟨j, h1, h2⟩ | h)
     · exact ⟨j, by omega, h2⟩
     · exact ⟨k, by omega, h⟩
   · rintro ⟨j, h1, h2⟩
     by_cases e : j = k
     · subst e; exact .inr h2
     · exact .inl ⟨j, by omega, h2⟩
theorem hasQ_yes {l : List Int} {n : Int} {k : Nat} (hk : k < l.length) (h : iG l k = n) : hasQ l n = true := (hasK_iff l n _).2 ⟨k, hk, h⟩
theorem hasQ_no {l : List Int} {n : Int} (h : ∀ j, j < l.length → iG l j ≠ n) : hasQ l n = false := by
 cases hq : hasQ l n
 · rfl
 · obtain ⟨j, h1, h2⟩ := (hasK_iff l n _).1 hq
   exact absurd h2 (h j h1)
def cpK (l : List Int) (n : Int) : Nat → List Int
 | 0 => []
 | k + 1 => cpK l n k ++ (if ((k + 1 : Nat) : Int) = n ∨ hasQ l ((k + 1 : Nat) : Int) = true then [((k + 1 : Nat) : Int)] else [])
def cpL (l : List Int) (n : Int) : List Int := cpK l n 9
theorem cpK_yes {l : List Int} {n : Int} {k : Nat} (h : ((k + 1 : Nat) : Int) = n ∨ hasQ l ((k + 1 : Nat) : Int) = true) : cpK l n (k + 1) = cpK l n k ++ [((k + 1 : Nat) : Int)] := by
 show cpK l n k ++ (if ((k + 1 : Nat) : Int) = n ∨ hasQ l ((k + 1 : Nat) : Int) = true then [((k + 1 : Nat) : Int)] else []) = _
 rw [if_pos h]
theorem cpK_no {l : List Int} {n : Int} {k : Nat} (h : ¬ (((k + 1 : Nat) : Int) = n ∨ hasQ l ((k + 1 : Nat) : Int) = true)) : cpK l n (k + 1) = cpK l n k := by
 show cpK l n k ++ (if ((k + 1 : Nat) : Int) = n ∨ hasQ l ((k + 1 : Nat) : Int) = true then [((k + 1 : Nat) : Int)] else []) = _
 rw [if_neg h, List.append_nil]
theorem cpK_len (l : List Int) (n : Int) : ∀ k, (cpK l n k).length ≤ k
 | 0 => by simp [cpK]
 | k + 1 => by
   have := cpK_len l n k
   by_cases h : ((k + 1 : Nat) : Int) = n ∨ hasQ l ((k + 1 : Nat) : Int) = true
   · rw [cpK_yes h, List.length_append, List.length_singleton]; omega
   · rw [cpK_no h]; omega
theorem cpK_mem (l : List Int) (n : Int) : ∀ k x, x ∈ cpK l n k ↔ 1 ≤ x ∧ x ≤ k ∧ (x = n ∨ hasQ l x = true)
 | 0, x => by simp [cpK]; omega
 | k + 1, x => by
   have ih := cpK_mem l n k x
   by_cases h : ((k + 1 : Nat) : Int) = n ∨ hasQ l ((k + 1 : Nat) : Int) = true
   · rw [cpK_yes h, List.mem_append, ih, List.mem_singleton]
     constructor
     · rintro (⟨h1, h2, h3⟩ | rfl)
       · exact ⟨h1, by omega, h3⟩
       · exact ⟨by omega, Int.le_refl _, h⟩
     · rintro ⟨h1, h2, h3⟩
       by_cases e : x = ((k + 1 : Nat) : Int)
       · exact .inr e
       · exact .inl ⟨h1, by omega, h3⟩
   · rw [cpK_no h, ih]
     constructor
     · rintro ⟨h1, h2, h3⟩; exact ⟨h1, by omega, h3⟩
     · rintro ⟨h1, h2, h3⟩
       by_cases e : x = ((k + 1 : Nat) : Int)
       · subst e; exact absurd h3 h
       · exact ⟨h1, by omega, h3⟩
theorem cpK_sorted (l : List Int) (n : Int) : ∀ k, (cpK l n k).Pairwise (· < ·)
 | 0 => .nil
 | k + 1 => by
   by_cases h : ((k + 1 : Nat) : Int) = n ∨ hasQ l ((k + 1 : Nat) : Int) = true
   · rw [cpK_yes h, List.pairwise_append]
     refine ⟨cpK_sorted l n k, List.pairwise_singleton _ _, fun x hx y hy => ?_⟩
     have := (cpK_mem l n k x).1 hx
     rw [List.mem_singleton] at hy
     omega
   · rw [cpK_no h]; exact cpK_sorted l n k
theorem iG_at {l : List Int} {k : Nat} (h : k < l.length) : iG l k = l[k] := by simp [iG, List.getD, h]
theorem cpn_sorted {l : List Int} (h : cpnQ l = true) : l.Pairwise (· < ·) := by
 have hp := (cpnQ_pr h).1
 rw [List.pairwise_iff_getElem]
 have key : ∀ j, j < l.length → ∀ i, i < j → iG l i < iG l j := by
   intro j
   induction j with
   | zero => intro _ i hi; omega
   | succ j ih =>
     intro hj i hi
     have h1 := hp (j + 1) hj
     rw [Nat.add_sub_cancel] at h1
     by_cases e : i = j
     · subst e; omega
     · have := ih (by omega) i (by omega); omega
 intro i j hi hj hij
 have := key j hj i hij
 rw [iG_at hi, iG_at hj] at this
 exact this
theorem hasQ_mem {l : List Int} {x : Int} : hasQ l x = true ↔ x ∈ l := by
 unfold hasQ
 rw [hasK_iff]
 constructor
 · rintro ⟨j, hj, rfl⟩; rw [iG_at hj]; exact List.getElem_mem hj
 · intro h
   obtain ⟨j, hj, e⟩ := List.getElem_of_mem h
   exact ⟨j, hj, by rw [iG_at hj]; exact e⟩
theorem cpL_count {l : List Int} (h : cpnQ l = true) {n : Int} (hn : 1 ≤ n ∧ n ≤ 9) (hno : hasQ l n = false) : (cpL l n).length = l.length + 1 := by
 have hp := (cpnQ_pr h).1
 have hnd : (n :: l).Nodup := by
   rw [List.nodup_cons]
   refine ⟨fun hm => (by rw [hasQ_mem.2 hm] at hno; cases hno), (cpn_sorted h).imp fun {x y} hxy e => by omega⟩
 have hnd2 : (cpL l n).Nodup := (cpK_sorted l n 9).imp fun {x y} hxy e => by omega
 have : (n :: l).Perm (cpL l n) := by
   rw [List.perm_ext_iff_of_nodup hnd hnd2]
   intro x
   unfold cpL
   rw [cpK_mem, List.mem_cons]
   constructor
   · rintro (rfl | hx)
     · exact ⟨hn.1, hn.2, .inl rfl⟩
     · obtain ⟨j, hj, e⟩ := List.getElem_of_mem hx
       have := hp j hj
       rw [iG_at hj, e] at this
       exact ⟨this.1, by omega, .inr (hasQ_mem.2 hx)⟩
   · rintro ⟨_, _, (rfl | hx)⟩
     · exact .inl rfl
     · exact .inr (hasQ_mem.1 hx)
 have := this.length_eq
 rw [List.length_cons] at this
 exact this.symm
theorem cpL_ok {l : List Int} {n : Int} (hl : (cpL l n).length ≤ 3) : cpnQ (cpL l n) = true := by
 refine cpnQ_mk (fun k hk => ?_) hl
 have hm := (cpK_mem l n 9 _).1 (iG_mem' hk)
 refine ⟨hm.1, hm.2.1, ?_⟩
 by_cases e : k = 0
 · exact .inl e
 · right
   have hs := cpK_sorted l n 9
   rw [List.pairwise_iff_getElem] at hs
   have h1 : k - 1 < (cpL l n).length := by omega
   have := hs (k - 1) k h1 hk (by omega)
   rw [iG_at h1, iG_at hk]
   exact this
where
 iG_mem' {l : List Int} {k : Nat} (h : k < l.length) : iG l k ∈ l := by rw [iG_at h]; exact List.getElem_mem h
theorem cpL_has {l : List Int} {n : Int} : hasQ (cpL l n) n = wi n 1 9 := by
 cases hw : wi n 1 9
 · cases hq : hasQ (cpL l n) n
   · rfl
   · have := (cpK_mem l n 9 n).1 (hasQ_mem.1 hq)
     rw [wi_false] at hw
     omega
 · rw [wi_true] at hw
   exact hasQ_mem.2 ((cpK_mem l n 9 n).2 ⟨hw.1, hw.2, .inl rfl⟩)
def cpY (l : List Int) (n : Int) : Bool := wi n 1 9 && !hasQ l n && !decide (l.length = 3)
def cntG (s : List Art) (c : List (Int × Int)) (g : Int) : Nat → Int
 | 0 => 0
 | k + 1 => cntG s c g k + (if (aT s (pA c k).toNat).g = g then pB c k else 0)
def grpK (s : List Art) (c : List (Int × Int)) (k : Nat) : List Int := [cntG s c 0 k, cntG s c 1 k, cntG s c 2 k]
def grpL (s : List Art) (c : List (Int × Int)) : List Int := grpK s c c.length
theorem cntG_bd {s : List Art} {c : List (Int × Int)} (h : vCart s c = true) (g : Int) : ∀ k, k ≤ c.length → 0 ≤ cntG s c g k ∧ cntG s c g k ≤ 20 * k
 | 0, _ => by simp [cntG]
 | k + 1, hk => by
   have ih := cntG_bd h g k (by omega)
   have ha := art_in h (k := k) (by omega)
   unfold cntG
   split <;> omega
def hldK (r : Rl) (cnt : List Int) : Nat → Bool
 | 0 => true
 | k + 1 => hldK r cnt k && wi (iG cnt k) (pA r.counts k) (pB r.counts k)
def hldQ (r : Rl) (tot : Int) (cnt cp : List Int) : Bool := wi tot r.lo r.hi && hldK r cnt r.counts.length && (decide (r.coupon = 0) || hasQ cp r.coupon)
theorem hldK_no {r : Rl} {cnt : List Int} {k : Nat} (h : wi (iG cnt k) (pA r.counts k) (pB r.counts k) = false) : ∀ n, k < n → hldK r cnt n = false
 | 0, hn => absurd hn (Nat.not_lt_zero _)
 | n + 1, hn => by
   unfold hldK
   by_cases e : k = n
   · subst e; rw [h, Bool.and_false]
   · rw [hldK_no h n (by omega), Bool.false_and]
structure Nt where
 ln : Int
 ru : Int
 am : Int
def subL (left off : List Int) : List Int := (List.range left.length).map fun k => iG left k - iG off k
def ntK (r : Rl) (off : List Int) : Nat → List Nt
 | 0 => []
 | k + 1 => ntK r off k ++ (if 0 < iG off k then [⟨k, r.num, iG off k⟩] else [])
def ntsL (r : Rl) (off : List Int) : List Nt := ntK r off off.length
theorem ntK_yes {r : Rl} {off : List Int} {k : Nat} (h : 0 < iG off k) : ntK r off (k + 1) = ntK r off k ++ [⟨k, r.num, iG off k⟩] := by
 show ntK r off k ++ (if 0 < iG off k then [⟨k, r.num, iG off k⟩] else []) = _
 rw [if_pos h]
theorem ntK_no {r : Rl} {off : List Int} {k : Nat} (h : ¬ 0 < iG off k) : ntK r off (k + 1) = ntK r off k := by
 show ntK r off k ++ (if 0 < iG off k then [⟨k, r.num, iG off k⟩] else []) = _
 rw [if_neg h, List.append_nil]
theorem ntK_len (r : Rl) (off : List Int) : ∀ k, (ntK r off k).length ≤ k
 | 0 => by simp [ntK]
 | k + 1 => by
   have := ntK_len r off k
   by_cases h : 0 < iG off k
   · rw [ntK_yes h, List.length_append, List.length_singleton]; omega
   · rw [ntK_no h]; omega
def NtOk (c : List (Int × Int)) (x : Nt) : Prop := 0 ≤ x.ln ∧ x.ln < c.length ∧ 1 ≤ x.ru ∧ x.ru ≤ 99 ∧ 0 ≤ x.am ∧ x.am ≤ 100000
def rcS (s : List Art) (c : List (Int × Int)) (cp : List Int) (st : List Int × List Nt) (r : Rl) : List Int × List Nt :=
 if hldQ r (totK s c c.length) (grpL s c) cp then (subL st.1 (effL s r c st.1), st.2 ++ ntsL r (effL s r c st.1)) else st
def rcK (s : List Art) (c : List (Int × Int)) (cp : List Int) (rs : List Rl) : Nat → List Int × List Nt
 | 0 => (amK s c c.length, [])
 | k + 1 => rcS s c cp (rcK s c cp rs k) (rT rs k)
def rcL (s : List Art) (c : List (Int × Int)) (cp : List Int) (rs : List Rl) : List Int × List Nt := rcK s c cp rs rs.length
theorem subL_len (left off : List Int) : (subL left off).length = left.length := by simp [subL]
theorem subL_get {left off : List Int} {k : Nat} (hk : k < left.length) : iG (subL left off) k = iG left k - iG off k := iG_range _ hk
theorem rcS_yes {s : List Art} {c : List (Int × Int)} {cp : List Int} {st : List Int × List Nt} {r : Rl} (h : hldQ r (totK s c c.length) (grpL s c) cp = true) : rcS s c cp st r = (subL st.1 (effL s r c st.1), st.2 ++ ntsL r (effL s r c st.1)) := by unfold rcS; rw [if_pos h]
theorem rcS_no {s : List Art} {c : List (Int × Int)} {cp : List Int} {st : List Int × List Nt} {r : Rl} (h : hldQ r (totK s c c.length) (grpL s c) cp = false) : rcS s c cp st r = st := by unfold rcS; rw [if_neg (by rw [h]; simp)]
structure RcOk (s : List Art) (c : List (Int × Int)) (k : Nat) (st : List Int × List Nt) : Prop where
 left : LeftOk s c st.1
 len : st.2.length ≤ k * 8
 nts : ∀ x ∈ st.2, NtOk c x
theorem ntK_ok {s : List Art} {r : Rl} {c : List (Int × Int)} {off : List Int} (hc : vCart s c = true) (hr : okRu r = true) (ho : ∀ j, j < c.length → 0 ≤ iG off j ∧ iG off j ≤ 100000) : ∀ k, k ≤ c.length → ∀ x ∈ ntK r off k, NtOk c x
 | 0, _, x, hx => by cases hx
 | k + 1, hk, x, hx => by
   by_cases h : 0 < iG off k
   · rw [ntK_yes h, List.mem_append, List.mem_singleton] at hx
     rcases hx with hx | rfl
     · exact ntK_ok hc hr ho k (by omega) x hx
     · have h1 := okRu_parts hr
       have h2 := ho k (by omega)
       exact ⟨by simp, by simp only; omega, h1.1, h1.2.1, h2.1, h2.2⟩
   · rw [ntK_no h] at hx
     exact ntK_ok hc hr ho k (by omega) x hx
theorem RcOk.step {s : List Art} {c : List (Int × Int)} {cp : List Int} {k : Nat} {st : List Int × List Nt} {r : Rl} (h : RcOk s c k st) (hc : vCart s c = true) (hr : okRu r = true) : RcOk s c (k + 1) (rcS s c cp st r) := by
 have hl := h.left
 have h8 := (vLines_all (vCart_pr hc).2).2
 cases hq : hldQ r (totK s c c.length) (grpL s c) cp
 · rw [rcS_no hq]
   exact ⟨h.left, by have := h.len; omega, h.nts⟩
 · rw [rcS_yes hq]
   have he := effL_bd hr hc (fun k hk => (hl.2 k hk).1)
   have hb : ∀ j, j < c.length → 0 ≤ iG (effL s r c st.1) j ∧ iG (effL s r c st.1) j ≤ 100000 := fun j hj => by
     have h1 := he.2 j hj
     have h2 := hl.2 j hj
     have h3 := amt_bd hc hj
     omega
   refine ⟨⟨by rw [subL_len]; exact hl.1, fun j hj => ?_⟩, ?_, fun x hx => ?_⟩
   · rw [subL_get (by rw [hl.1]; exact hj)]
     have h1 := he.2 j hj
     have h2 := hl.2 j hj
     omega
   · have h1 := h.len
     have h2 := ntK_len r (effL s r c st.1) (effL s r c st.1).length
     rw [List.length_append]
     unfold ntsL
     omega
   · rw [List.mem_append] at hx
     rcases hx with hx | hx
     · exact h.nts x hx
     · exact ntK_ok hc hr hb _ (by rw [he.1]; exact Nat.le_refl _) x hx
theorem rcK_ok {s : List Art} {c : List (Int × Int)} {cp : List Int} {rs : List Rl} (hc : vCart s c = true) (hr : ∀ r ∈ rs, okRu r = true) : ∀ k, k ≤ rs.length → RcOk s c k (rcK s c cp rs k)
 | 0, _ => ⟨left_start s c hc, by simp [rcK], fun x hx => by cases hx⟩
 | k + 1, hk => (rcK_ok hc hr k (by omega)).step hc (hr _ (rT_mem (by omega)))
def payV (s : List Art) (c : List (Int × Int)) (cp : List Int) (rs : List Rl) : Int := if clrQ rs then sumT (rcL s c cp (ordL rs)).1 c.length else -1
theorem payV_bd {s : List Art} {c : List (Int × Int)} {cp : List Int} {rs : List Rl} (hc : vCart s c = true) (hr : okRs rs = true) (h : clrQ rs = true) : payV s c cp rs = sumT (rcL s c cp (ordL rs)).1 c.length ∧ 0 ≤ payV s c cp rs ∧ payV s c cp rs ≤ 800000 := by
 have h1 := (rcK_ok (cp := cp) hc (ordL_ok hr).1 (ordL rs).length (Nat.le_refl _)).left
 have h8 := (vLines_all (vCart_pr hc).2).2
 unfold payV
 rw [if_pos h]
 unfold rcL
 have h2 := sumT_nn (l := (rcK s c cp (ordL rs) (ordL rs).length).1) c.length (fun k hk => (h1.2 k hk).1)
 have h3 := sumT_ub (l := (rcK s c cp (ordL rs) (ordL rs).length).1) (b := 100000) c.length (fun k hk => by have := h1.2 k hk; have := amt_bd hc hk; omega)
 refine ⟨rfl, h2, by omega⟩
def ntW (c : List (Int × Int)) (x : Nt) : List UInt8 := dec (pA c x.ln.toNat) ++ [32] ++ dec x.ru ++ [32] ++ dec x.am
def prW (x : Int × Int) : List UInt8 := dec x.1 ++ [32] ++ dec x.2
def jn (l : List (List UInt8)) : List UInt8 := Go.Lib.join l [59]
theorem jn_nil : jn [] = [] := rfl
theorem jn_one (x : List UInt8) : jn [x] = x := by unfold jn; rw [Go.Lib.join_cons]; simp [Go.Lib.joinTail]
theorem jn_cons (x : List UInt8) (l : List (List UInt8)) : jn (x :: l) = x ++ l.flatMap (fun w => 59 :: w) := by
 unfold jn; rw [Go.Lib.join_cons]; rfl
theorem jn_snoc (l : List (List UInt8)) (h : l ≠ []) (x : List UInt8) : jn (l ++ [x]) = jn l ++ [59] ++ x := by
 cases l with
 | nil => exact absurd rfl h
 | cons a t => rw [List.cons_append, jn_cons, jn_cons]; simp
def tOk : List UInt8 := [111, 107]
def tNo : List UInt8 := [110, 111]
def tWhat : List UInt8 := [119, 104, 97, 116]
def kAdd : List UInt8 := [97, 100, 100]
def kTake : List UInt8 := [116, 97, 107, 101]
def kRule : List UInt8 := [114, 117, 108, 101]
def kCoupon : List UInt8 := [99, 111, 117, 112, 111, 110]
def kTotal : List UInt8 := [116, 111, 116, 97, 108]
def kPay : List UInt8 := [112, 97, 121]
def kNotes : List UInt8 := [110, 111, 116, 101, 115]
def kConf : List UInt8 := [99, 111, 110, 102, 108, 105, 99, 116, 115]
def shopS : List Art := [⟨100, 0, 70, 0⟩, ⟨250, 0, 190, 0⟩, ⟨1000, 1, 190, 0⟩, ⟨333, 2, 70, 0⟩]
structure Se where
 c : List (Int × Int)
 cp : List Int
 rs : List Rl
structure SeOk (S : Se) : Prop where
 c : vCart shopS S.c = true
 cp : cpnQ S.cp = true
 rs : okRs S.rs = true
noncomputable def parseT (T : List UInt8) : Option Rl := open Classical in if h : ∃ r, okRu r = true ∧ textR r = T then some h.choose else none
inductive Cmd where
 | add (a n : Int)
 | take (a n : Int)
 | rule (T : List UInt8)
 | coupon (n : Int)
 | total
 | pay
 | notes
 | conf
 | what
def lnW (T : List UInt8) (k : Nat) : List UInt8 := (spl 32 T).getD k []
def lnN (T : List UInt8) : Nat := (spl 32 T).length
def cmdT (T : List UInt8) : Cmd :=
 if lnW T 0 = kAdd ∧ lnN T = 3 then .add (pI (lnW T 1)) (pI (lnW T 2))
 else if lnW T 0 = kTake ∧ lnN T = 3 then .take (pI (lnW T 1)) (pI (lnW T 2))
 else if lnW T 0 = kRule ∧ 5 < T.length then .rule (T.drop 5)
 else if lnW T 0 = kCoupon ∧ lnN T = 2 then .coupon (pI (lnW T 1))
 else if T = kTotal then .total
 else if T = kPay then .pay
 else if T = kNotes then .notes
 else if T = kConf then .conf
 else .what
noncomputable def stepC (S : Se) : Cmd → Se × List UInt8
 | .add a n => if addOk shopS S.c a n then ({ S with c := addL S.c a n }, tOk) else (S, tNo)
 | .take a n => if takeOk shopS S.c a n then ({ S with c := takeL S.c a n }, tOk) else (S, tNo)
 | .rule T => match parseT T with
   | none => (S, tNo)
   | some r => if okRs (S.rs ++ [r]) then ({ S with rs := S.rs ++ [r] }, tOk) else (S, tNo)
 | .coupon n => if cpY S.cp n then ({ S with cp := cpL S.cp n }, tOk) else (S, tNo)
 | .total => (S, dec (totK shopS S.c S.c.length))
 | .pay => (S, if clrQ S.rs then dec (payV shopS S.c S.cp S.rs) else tNo)
 | .notes => (S, if clrQ S.rs then jn ((rcL shopS S.c S.cp (ordL S.rs)).2.map (ntW S.c)) else tNo)
 | .conf => (S, jn ((cnfL S.rs).map prW))
 | .what => (S, tWhat)
theorem stepC_add (S : Se) (a n : Int) : stepC S (.add a n) = if addOk shopS S.c a n then ({ S with c := addL S.c a n }, tOk) else (S, tNo) := rfl
theorem stepC_take (S : Se) (a n : Int) : stepC S (.take a n) = if takeOk shopS S.c a n then ({ S with c := takeL S.c a n }, tOk) else (S, tNo) := rfl
theorem stepC_none {S : Se} {T : List UInt8} (h : parseT T = none) : stepC S (.rule T) = (S, tNo) := by simp only [stepC, h]
theorem stepC_some {S : Se} {T : List UInt8} {r : Rl} (h : parseT T = some r) : stepC S (.rule T) = if okRs (S.rs ++ [r]) then ({ S with rs := S.rs ++ [r] }, tOk) else (S, tNo) := by simp only [stepC, h]
theorem stepC_coupon (S : Se) (n : Int) : stepC S (.coupon n) = if cpY S.cp n then ({ S with cp := cpL S.cp n }, tOk) else (S, tNo) := rfl
noncomputable def stepS (S : Se) (T : List UInt8) : Se × List UInt8 := stepC S (cmdT T)
noncomputable def runK (ls : List (List UInt8)) : Nat → Se × List UInt8
 | 0 => (⟨[], [], []⟩, [])
 | k + 1 => ((stepS (runK ls k).1 (ls.getD k [])).1, (runK ls k).2 ++ ((stepS (runK ls k).1 (ls.getD k [])).2 ++ [10]))
noncomputable def runS (ls : List (List UInt8)) : List UInt8 := (runK ls (min ls.length 20)).2
end Go.Proofs.YtijofgaekmahkaaGreatDoor

namespace Go.Proofs.YtijofgaekmahkaaGreatDoor
open Go.RowKit
theorem conv_one (W : World) (g cap : Nat) (x : UInt8) (h : W.cell? ⟨g, 0, none⟩ = some (.int .u8 (x.toNat : Int))) :
   (convert 22 9 (.slice (some ⟨g, 0, none⟩) 1 cap)).run Tryz.prog W = .ok (.string ⟨[x].toArray⟩) W :=
 run_convert_bytes_back W 22 9 5 ⟨g, 0, none⟩ cap [x] Tryz.underlying22 Tryz.underlying5 Tryz.underlying9 (fun j hj => by
   match j, hj with
   | 0, _ => simpa [Addr.add] using h)
def digit (n : Nat) : UInt8 := UInt8.ofNat (48 + n % 10)
theorem digit_nat (n : Nat) : ((digit n).toNat : Int) = 48 + ((n % 10 : Nat) : Int) := by
 unfold digit
 rw [UInt8.toNat_ofNat']
 omega
theorem dec_small {n : Nat} (h : n < 10) : dec (n : Int) = [digit n] := by
 unfold dec digit
 rw [Int.toNat_natCast, Go.Lib.decDigits, dif_pos h, Nat.mod_eq_of_lt h]
theorem dec_large {n : Nat} (h : ¬ n < 10) : dec (n : Int) = dec ((n / 10 : Nat) : Int) ++ [digit n] := by
 unfold dec digit
 rw [Int.toNat_natCast, Int.toNat_natCast, Go.Lib.decDigits, dif_neg h]
theorem dec_length : ∀ (k n : Nat), n < 10 ^ (k + 1) → (dec (n : Int)).length ≤ k + 1 := by
 intro k
 induction k with
 | zero => intro n h; rw [dec_small (by simpa using h)]; simp
 | succ k ih =>
   intro n h
   by_cases h10 : n < 10
   · rw [dec_small h10]; simp
   · rw [dec_large h10, List.length_append]
     have := ih (n / 10) (by rw [Nat.pow_succ] at h; omega)
     simp only [List.length_cons, List.length_nil]
     omega
theorem add_run (W : World) (x y : List UInt8) (h : x.length + y.length ≤ 100000000000) :
   (Op.stringOp .add ⟨x.toArray⟩ ⟨y.toArray⟩).run Tryz.prog W = .ok (.string ⟨(x ++ y).toArray⟩) W := by
 rw [run_string_add_sum _ _ _ (by simp [ByteArray.size]; omega), ByteArray.mk_append_mk]
set_option maxRecDepth 100000 in
set_option maxHeartbeats 2000000 in
theorem decimal_any : ∀ (k n : Nat) (w : World), n < 10 ^ (k + 1) → n ≤ 9223372036854775807 →
   Calls Tryz.prog 49 #[.int .i64 n] w fun e w' => e = .returned (.string ⟨(dec n).toArray⟩) ∧ Below w.heap.size w w' := by
 intro k
 induction k with
 | zero =>
   intro n w hn _
   have hn10 : n < 10 := by simpa using hn
   have hs := Lib.hid (dec_small hn10)
   have hd := digit_nat n
   rw [Nat.mod_eq_of_lt hn10] at hd
   have hw1 : IntKind.i64.wrap (48 + (n : Int)) = 48 + (n : Int) := IntWalk.i64_in _ (by omega)
   have hw2 : IntKind.u8.wrap (48 + (n : Int)) = 48 + (n : Int) := IntWalk.u8_in _ (by omega)
   have hc := conv_one (w.alloc (.cells #[.int .u8 (48 + (n : Int))] 5)) w.heap.size 1 (digit n) (by rw [hd]; exact cell_of_row _ _ 0 _ _ _ (heap_alloc_new w _))
   go_enter Tryz.func49, Tryz.ntmps49
   go_wp2
   go_ret
   rw [hs.out]
   exact ⟨rfl, (Below.refl _ w).alloc (Nat.le_refl _) _⟩
 | succ k ih =>
   intro n w hn hmax
   by_cases hn10 : n < 10
   · exact (ih n w (by omega) hmax).mono fun _ _ h => h
   have hs := dec_large hn10
   have hL := dec_length 18 (n / 10) (by omega)
   have hadd : ∀ W : World, (Op.stringOp .add ⟨(dec ((n / 10 : Nat) : Int)).toArray⟩ ⟨#[digit n]⟩).run Tryz.prog W = .ok (.string ⟨(dec n).toArray⟩) W := fun W => by
     have := add_run W (dec ((n / 10 : Nat) : Int)) [digit n] (by simp only [List.length_cons, List.length_nil]; omega)
     rw [hs]; exact this
   clear hs hL
   have hd := digit_nat n
   have hm : n % 10 < 10 := Nat.mod_lt _ (by omega)
   have hq : n / 10 < 10 ^ (k + 1) := by rw [Nat.pow_succ] at hn; omega
   have hqm : n / 10 ≤ 9223372036854775807 := by omega
   have e0 : (n : Int).tdiv 10 = ((n / 10 : Nat) : Int) := by rw [Int.tdiv_eq_ediv_of_nonneg (Int.natCast_nonneg _)]; exact (Int.natCast_ediv _ _).symm
   have e1 : (n : Int).tmod 10 = ((n % 10 : Nat) : Int) := by rw [Int.tmod_eq_emod_of_nonneg (Int.natCast_nonneg _)]; exact (Int.natCast_emod _ _).symm
   obtain ⟨q, hqe⟩ : ∃ q, q = n / 10 := ⟨_, rfl⟩
   obtain ⟨m, hme⟩ : ∃ m, m = n % 10 := ⟨_, rfl⟩
   rw [← hqe] at hadd hq hqm e0
   rw [← hme] at hd hm e1
   have hn11 : ¬ (n : Int) < 10 := by omega
   clear hqe hme hn
   have hw0 : IntKind.i64.wrap (q : Int) = (q : Int) := IntWalk.i64_in _ (by omega)
   have hw1 : IntKind.i64.wrap (48 + (m : Int)) = 48 + (m : Int) := IntWalk.i64_in _ (by omega)
   have hw2 : IntKind.u8.wrap (48 + (m : Int)) = 48 + (m : Int) := IntWalk.u8_in _ (by omega)
   have hc := conv_one (w.alloc (.cells #[.int .u8 (48 + (m : Int))] 5)).drew w.heap.size 1 (digit n) (by rw [hd]; exact cell_of_row _ _ 0 _ _ _ (heap_alloc_new w _))
   go_enter Tryz.func49, Tryz.ntmps49
   go_wp2
   go_region_with (first | (go_at_call 49; (with_reducible refine (ih q w.drew hq hqm).mono ?_); rintro e w1 ⟨rfl, b⟩; have hc1 := conv_one (w1.alloc (.cells #[.int .u8 (48 + (m : Int))] 5)) w1.heap.size 1 (digit n) (by rw [hd]; exact cell_of_row _ _ 0 _ _ _ (heap_alloc_new w1 _))) | (go_at_call 49; (with_reducible refine (ih q (w.alloc (.cells #[.int .u8 (48 + (m : Int))] 5)).drew hq hqm).mono ?_); rintro e w1 ⟨rfl, b⟩; have hc1 := conv_one w1 w.heap.size 1 (digit n) (by rw [hd]; exact (b.cell (p := ⟨w.heap.size, 0, none⟩) (by show _ < (w.alloc _).heap.size; rw [World.size_alloc]; exact Nat.lt_succ_self _)).trans (cell_of_row _ _ 0 _ _ _ (heap_alloc_new w _)))))
   all_goals
     go_wp2
     go_ret
     refine ⟨rfl, ?_⟩
     first
       | exact ((Below.refl _ w).drew.trans b).alloc b.size _
       | exact ((Below.refl _ w).alloc (Nat.le_refl _) _).drew.trans (b.mono (by show w.heap.size ≤ (w.alloc _).heap.size; rw [World.size_alloc]; exact Nat.le_succ _))
theorem dec_short {n : Int} (h0 : 0 ≤ n) (h1 : n ≤ 9999999999) : (dec n).length ≤ 10 := by
 obtain ⟨k, rfl⟩ := Int.eq_ofNat_of_zero_le h0
 exact dec_length 9 k (by omega)
theorem decimal_run (n : Int) (w : World) (h0 : 0 ≤ n) (h1 : n ≤ 9999999999) :
   Calls Tryz.prog 49 #[.int .i64 n] w fun e w' => e = .returned (.string ⟨(dec n).toArray⟩) ∧ Below w.heap.size w w' := by
 obtain ⟨k, rfl⟩ := Int.eq_ofNat_of_zero_le h0
 exact decimal_any 9 k w (by omega) (by omega)
end Go.Proofs.YtijofgaekmahkaaGreatDoor

namespace Go.Proofs.YtijofgaekmahkaaGreatDoor
open Go.RowKit
def gdV (r : Rl) (v : Value) : Value := .agg #[.int .i64 r.lo, .int .i64 r.hi, v, .int .i64 r.coupon]
def ruV (r : Rl) (v : Value) : Value := .agg #[.int .i64 r.num, .int .i64 r.lvl, .int .i64 r.rank, .int .i64 r.group, .int .i64 r.kind, .int .i64 r.value, .int .i64 r.cap, .int .i64 r.lo, .int .i64 r.hi, v, .int .i64 r.coupon]
theorem okCn_bad {c : List (Int × Int)} {k : Nat} (hk : k < c.length) (h : okSp (pA c k) (pB c k) = false) : okCn c = false := by
 unfold okCn
 rw [Bool.and_eq_false_iff]
 left
 rw [List.all_eq_false]
 exact ⟨k, List.mem_range.2 hk, by simp [h]⟩
theorem okCn_len {c : List (Int × Int)} (h : ¬ (c.length : Int) = 3) : okCn c = false := by
 unfold okCn
 rw [Bool.and_eq_false_iff]
 right
 rw [decide_eq_false_iff_not]; omega
theorem okCn_end {c : List (Int × Int)} (h : ∀ j, j < c.length → okSp (pA c j) (pB c j) = true) : okCn c = decide ((c.length : Int) = 3) := by
 unfold okCn
 have : (List.range c.length).all (fun k => okSp (pA c k) (pB c k)) = true := by
   rw [List.all_eq_true]; exact fun j hj => h j (List.mem_range.1 hj)
 rw [this, Bool.true_and]
 exact decide_eq_decide.2 (by omega)
theorem okCn_pr {c : List (Int × Int)} (h : okCn c = true) : (∀ j, j < c.length → okSp (pA c j) (pB c j) = true) ∧ c.length = 3 := by
 unfold okCn at h
 rw [Bool.and_eq_true, List.all_eq_true, decide_eq_true_eq] at h
 exact ⟨fun j hj => h.1 j (List.mem_range.2 hj), h.2⟩
set_option maxHeartbeats 400000 in
theorem money_any (n : Int) (w : World) :
   Calls Tryz.prog 107 #[.int .i64 n] w fun e w' => e = .returned (.bool (wi n 0 1000000)) ∧ w' = w := by
 go_enter Tryz.func107, Tryz.ntmps107
 go_wp2_with (go_at_call 35; refine (within_any _ _ _ _).mono ?_; rintro e w2 ⟨rfl, hw2⟩; subst hw2)
 go_ret
 exact ⟨rfl, rfl⟩
set_option maxHeartbeats 1000000 in
theorem specSpan_any (a b : Int) (w : World) :
   Calls Tryz.prog 95 #[.agg #[.int .i64 a, .int .i64 b]] w fun e w' => e = .returned (.bool (okSp a b)) ∧ Below w.heap.size w w' := by
 cases h1 : wi a 0 1000000
 · go_enter Tryz.func95, Tryz.ntmps95
   go_wp2_with (go_at_call 54; refine (inRange_any _ _ _ _).mono ?_; rintro e w1 ⟨rfl, rfl⟩)
   go_ret
   exact ⟨by simp [okSp, h1], (Below.refl _ w).alloc (Nat.le_refl _) _⟩
 · go_enter Tryz.func95, Tryz.ntmps95
   go_wp2_with (go_at_call 54; refine (inRange_any _ _ _ _).mono ?_; rintro e w1 ⟨rfl, rfl⟩)
   go_ret
   exact ⟨by simp [okSp, h1], (Below.refl _ w).alloc (Nat.le_refl _) _⟩
set_option maxHeartbeats 1000000 in
theorem implSpan_any (a b : Int) (w : World) :
   Calls Tryz.prog 142 #[.agg #[.int .i64 a, .int .i64 b]] w fun e w' => e = .returned (.bool (okSp a b)) ∧ Below w.heap.size w w' := by
 cases h1 : wi a 0 1000000
 · go_enter Tryz.func142, Tryz.ntmps142
   go_wp2_with (first | (go_at_call 107; refine (money_any _ _).mono ?_; rintro e w1 ⟨rfl, rfl⟩) | (go_at_call 35; refine (within_any _ _ _ _).mono ?_; rintro e w1 ⟨rfl, rfl⟩))
   go_ret
   exact ⟨by simp [okSp, h1], (Below.refl _ w).alloc (Nat.le_refl _) _⟩
 · go_enter Tryz.func142, Tryz.ntmps142
   go_wp2_with (first | (go_at_call 107; refine (money_any _ _).mono ?_; rintro e w1 ⟨rfl, rfl⟩) | (go_at_call 35; refine (within_any _ _ _ _).mono ?_; rintro e w1 ⟨rfl, rfl⟩))
   go_ret
   exact ⟨by simp [okSp, h1], (Below.refl _ w).alloc (Nat.le_refl _) _⟩
set_option maxHeartbeats 1000000 in
theorem full_any (a b : Int) (w : World) :
   Calls Tryz.prog 56 #[.agg #[.int .i64 a, .int .i64 b]] w fun e w' => e = .returned (.bool (allSp a b)) ∧ Below w.heap.size w w' := by
 by_cases h1 : a = 0
 · go_enter Tryz.func56, Tryz.ntmps56
   go_wp2
   go_ret
   exact ⟨by by_cases h2 : b = 1000000 <;> simp [allSp, h1, h2], (Below.refl _ w).alloc (Nat.le_refl _) _⟩
 · go_enter Tryz.func56, Tryz.ntmps56
   go_wp2
   go_ret
   exact ⟨by by_cases h2 : b = 1000000 <;> simp [allSp, h1, h2], (Below.refl _ w).alloc (Nat.le_refl _) _⟩
theorem box4 (w : World) (a b c d : Value) (t : TypeId) : (w.alloc (.cells #[a, b, c, d] t)).cell? ⟨w.heap.size, 0, none⟩ = some a ∧ (w.alloc (.cells #[a, b, c, d] t)).cell? ⟨w.heap.size, 1, none⟩ = some b ∧
   (w.alloc (.cells #[a, b, c, d] t)).cell? ⟨w.heap.size, 2, none⟩ = some c ∧ (w.alloc (.cells #[a, b, c, d] t)).cell? ⟨w.heap.size, 3, none⟩ = some d :=
 ⟨cell_of_row _ _ 0 _ _ _ (heap_alloc_new w _), cell_of_row _ _ 1 _ _ _ (heap_alloc_new w _), cell_of_row _ _ 2 _ _ _ (heap_alloc_new w _), cell_of_row _ _ 3 _ _ _ (heap_alloc_new w _)⟩
set_option maxHeartbeats 2000000 in
theorem specGuard_any (r : Rl) (v : Value) (w : World) (hv : Rd w 2 v r.counts.length (pr r.counts)) :
   Calls Tryz.prog 55 #[gdV r v] w fun e w' => e = .returned (.bool (okGd r)) ∧ Below w.heap.size w w' := by
 unfold gdV okGd
 have hm := hv.len
 unfold maxLen at hm
 obtain ⟨ao, cap, rfl, hl, hc, hr⟩ := hv.pairs
 have HR := Lib.hid hr
 clear hr hv hl hc
 generalize r.counts = c at *
 by_cases hn : (c.length : Int) = 3
 rotate_left
 · have fin := Lib.hid (okCn_len hn)
   go_enter Tryz.func55, Tryz.ntmps55
   go_wp2
   go_ret
   exact ⟨by rw [fin.out]; simp, (Below.refl _ w).alloc (Nat.le_refl _) _⟩
 cases h1 : okSp r.lo r.hi
 · go_enter Tryz.func55, Tryz.ntmps55
   go_wp2_with (go_at_call 95; refine (specSpan_any _ _ _).mono ?_; rintro e w1 ⟨rfl, b1⟩)
   go_ret
   exact ⟨by simp, ((Below.refl _ w).alloc (Nat.le_refl _) _).trans (b1.mono (by rw [World.size_alloc]; exact Nat.le_succ _))⟩
 cases h2 : wi r.coupon 0 9
 · go_enter Tryz.func55, Tryz.ntmps55
   go_wp2_with (first | (go_at_call 54; refine (inRange_any _ _ _ _).mono ?_; rintro e w2 ⟨rfl, rfl⟩) | (go_at_call 95; refine (specSpan_any _ _ _).mono ?_; rintro e w1 ⟨rfl, b1⟩; have c3 := (b1.cell (p := ⟨w.heap.size, 3, none⟩) (by rw [World.size_alloc]; exact Nat.lt_succ_self _)).trans (cell_of_row _ _ 3 _ _ _ (heap_alloc_new w _))))
   go_ret
   exact ⟨by simp, ((Below.refl _ w).alloc (Nat.le_refl _) _).trans (b1.mono (by rw [World.size_alloc]; exact Nat.le_succ _))⟩
 have e2 := cell_of_row _ _ 2 _ _ _ (heap_alloc_new w (.cells #[.int .i64 r.lo, .int .i64 r.hi, .slice ao c.length cap, .int .i64 r.coupon] 41))
 have E2 := Lib.hid e2
 clear e2
 have e3 : (w.alloc (.cells #[.int .i64 r.lo, .int .i64 r.hi, .slice ao c.length cap, .int .i64 r.coupon] 41)).heap.size = w.heap.size + 1 := World.size_alloc _ _
 go_enter Tryz.func55, Tryz.ntmps55
 go_wp2_with (first | (go_at_call 54; refine (inRange_any _ _ _ _).mono ?_; rintro e w2 ⟨rfl, rfl⟩) | (go_at_call 95; refine (specSpan_any _ _ _).mono ?_; rintro e w1 ⟨rfl, b1⟩; have c3 := (b1.cell (p := ⟨w.heap.size, 3, none⟩) (by rw [World.size_alloc]; exact Nat.lt_succ_self _)).trans (cell_of_row _ _ 3 _ _ _ (heap_alloc_new w _))))
 go_loopw [3] (fun i wr => ∃ k : Nat, k ≤ c.length ∧ i = .int .i64 k ∧ Below (w.alloc (.cells #[.int .i64 r.lo, .int .i64 r.hi, .slice ao c.length cap, .int .i64 r.coupon] 41)).heap.size (w.alloc (.cells #[.int .i64 r.lo, .int .i64 r.hi, .slice ao c.length cap, .int .i64 r.coupon] 41)) wr ∧ Hid (∀ j, j < k → okSp (pA c j) (pB c j) = true)) (fun i _ => c.length - (intOf i).toNat)
 case atStart => exact ⟨0, Nat.zero_le _, rfl, b1, fun j hj => absurd hj (Nat.not_lt_zero _)⟩
 case round =>
   clear b1 c3
   obtain ⟨k, hk, rfl, hbl, hall⟩ := hrel
   have g2 := (hbl.cell (p := ⟨w.heap.size, 2, none⟩) (by rw [e3]; exact Nat.lt_succ_self _)).trans E2.out
   by_cases hlt : k < c.length
   · obtain ⟨b, off, rfl, hb, hcell⟩ := HR.out (by omega)
     have hcell := hcell k hlt
     have g0 := ((hbl.cell (p := ⟨b, off + k*2, none⟩) (by rw [e3]; show b < _; omega)).trans (World.cell?_alloc_lt w _ _ hb)).trans hcell.1
     have g1 := ((hbl.cell (p := ⟨b, off + k*2+1, none⟩) (by rw [e3]; show b < _; omega)).trans (World.cell?_alloc_lt w _ _ hb)).trans hcell.2
     have hbw : b < wr.heap.size := Nat.lt_of_lt_of_le hb (Nat.le_trans (by rw [e3]; exact Nat.le_succ _) hbl.size)
     clear hcell
     have hk0 : (0 : Int) ≤ (k : Int) := by omega
     have hk1 : (k : Int) < (c.length : Int) := by omega
     cases hA : okSp (pA c k) (pB c k)
     · have fin := Lib.hid (okCn_bad hlt hA)
       go_wp2_with (go_at_call 95; refine (specSpan_any _ _ _).mono ?_; rintro e w3 ⟨rfl, b3⟩)
       go_ret
       exact ⟨by rw [fin.out]; rfl, ((Below.refl _ w).alloc (Nat.le_refl _) _).trans ((hbl.trans (b3.mono hbl.size)).mono (by rw [e3]; exact Nat.le_succ _))⟩
     · go_wp2_with (go_at_call 95; refine (specSpan_any _ _ _).mono ?_; rintro e w3 ⟨rfl, b3⟩)
       go_roundw
       case rel => exact ⟨k+1, by omega, by go_num, hbl.trans (b3.mono hbl.size), all_snoc hall.out hA⟩
       case measure => simp [intOf]; omega
   · obtain rfl : k = c.length := by omega
     have fin := Lib.hid (okCn_end hall.out)
     go_wp2
     go_ret
     exact ⟨by rw [fin.out, hn]; rfl, ((Below.refl _ w).alloc (Nat.le_refl _) _).trans (hbl.mono (by rw [e3]; exact Nat.le_succ _))⟩
set_option maxHeartbeats 2000000 in
theorem implGuard_any (r : Rl) (v : Value) (w : World) (hv : Rd w 2 v r.counts.length (pr r.counts)) :
   Calls Tryz.prog 108 #[gdV r v] w fun e w' => e = .returned (.bool (okGd r)) ∧ Below w.heap.size w w' := by
 unfold gdV okGd
 have hm := hv.len
 unfold maxLen at hm
 obtain ⟨ao, cap, rfl, hl, hc, hr⟩ := hv.pairs
 have HR := Lib.hid hr
 clear hr hv hl hc
 generalize r.counts = c at *
 obtain ⟨e0, e1, e2, e4⟩ := box4 w (.int .i64 r.lo) (.int .i64 r.hi) (.slice ao c.length cap) (.int .i64 r.coupon) 41
 have E0 := Lib.hid e0
 have E1 := Lib.hid e1
 have E2 := Lib.hid e2
 have E3 := Lib.hid e4
 clear e0 e1 e2 e4
 have e3 : (w.alloc (.cells #[.int .i64 r.lo, .int .i64 r.hi, .slice ao c.length cap, .int .i64 r.coupon] 41)).heap.size = w.heap.size + 1 := World.size_alloc _ _
 go_enter Tryz.func108, Tryz.ntmps108
 go_wp2
 go_loopw [8] (fun i wr => ∃ k : Nat, k ≤ c.length ∧ i = .int .i64 k ∧ Below (w.alloc (.cells #[.int .i64 r.lo, .int .i64 r.hi, .slice ao c.length cap, .int .i64 r.coupon] 41)).heap.size (w.alloc (.cells #[.int .i64 r.lo, .int .i64 r.hi, .slice ao c.length cap, .int .i64 r.coupon] 41)) wr ∧ Hid (∀ j, j < k → okSp (pA c j) (pB c j) = true)) (fun i _ => c.length - (intOf i).toNat)
 case atStart => exact ⟨0, Nat.zero_le _, rfl, Below.refl _ _, fun j hj => absurd hj (Nat.not_lt_zero _)⟩
 case round =>
   obtain ⟨k, hk, rfl, hbl, hall⟩ := hrel
   have f0 := (hbl.cell (p := ⟨w.heap.size, 0, none⟩) (by rw [e3]; exact Nat.lt_succ_self _)).trans E0.out
   have f1 := (hbl.cell (p := ⟨w.heap.size, 1, none⟩) (by rw [e3]; exact Nat.lt_succ_self _)).trans E1.out
   have f2 := (hbl.cell (p := ⟨w.heap.size, 2, none⟩) (by rw [e3]; exact Nat.lt_succ_self _)).trans E2.out
   have f3 := (hbl.cell (p := ⟨w.heap.size, 3, none⟩) (by rw [e3]; exact Nat.lt_succ_self _)).trans E3.out
   have fz : w.heap.size < wr.heap.size := Nat.lt_of_lt_of_le (by rw [e3]; exact Nat.lt_succ_self _) hbl.size
   by_cases hlt : k < c.length
   · clear f0 f1 f2 f3
     obtain ⟨b, off, rfl, hb, hcell⟩ := HR.out (by omega)
     have hcell := hcell k hlt
     have g0 := ((hbl.cell (p := ⟨b, off + k*2, none⟩) (by rw [e3]; show b < _; omega)).trans (World.cell?_alloc_lt w _ _ hb)).trans hcell.1
     have g1 := ((hbl.cell (p := ⟨b, off + k*2+1, none⟩) (by rw [e3]; show b < _; omega)).trans (World.cell?_alloc_lt w _ _ hb)).trans hcell.2
     have hbw : b < wr.heap.size := Nat.lt_of_lt_of_le hb (Nat.le_trans (by rw [e3]; exact Nat.le_succ _) hbl.size)
     clear hcell
     have hk0 : (0 : Int) ≤ (k : Int) := by omega
     have hk1 : (k : Int) < (c.length : Int) := by omega
     cases hA : okSp (pA c k) (pB c k)
     · have fin := Lib.hid (okCn_bad hlt hA)
       go_wp2_with (go_at_call 142; refine (implSpan_any _ _ _).mono ?_; rintro e w3 ⟨rfl, b3⟩)
       go_ret
       exact ⟨by rw [fin.out]; simp, ((Below.refl _ w).alloc (Nat.le_refl _) _).trans (((hbl.alloc hbl.size _).trans (b3.mono (Nat.le_trans hbl.size (by rw [World.size_alloc]; exact Nat.le_succ _)))).mono (by rw [e3]; exact Nat.le_succ _))⟩
     · go_wp2_with (go_at_call 142; refine (implSpan_any _ _ _).mono ?_; rintro e w3 ⟨rfl, b3⟩)
       go_roundw
       case rel => exact ⟨k+1, by omega, by go_num, (hbl.alloc hbl.size _).trans (b3.mono (Nat.le_trans hbl.size (by rw [World.size_alloc]; exact Nat.le_succ _))), all_snoc hall.out hA⟩
       case measure => simp [intOf]; omega
   · obtain rfl : k = c.length := by omega
     have fin := Lib.hid (okCn_end hall.out)
     have hbw : Below w.heap.size w wr := ((Below.refl _ w).alloc (Nat.le_refl _) _).trans (hbl.mono (by rw [e3]; exact Nat.le_succ _))
     cases h1 : okSp r.lo r.hi
     · go_wp2_with (go_at_call 142; refine (implSpan_any _ _ _).mono ?_; rintro e w3 ⟨rfl, b3⟩)
       go_ret
       exact ⟨by simp [h1], hbw.trans (b3.mono hbw.size)⟩
     · by_cases hn : (c.length : Int) = 3
       · cases h2 : wi r.coupon 0 9
         all_goals
           go_wp2_with (first | (go_at_call 35; refine (within_any _ _ _ _).mono ?_; rintro e w2 ⟨rfl, rfl⟩) | (go_at_call 142; refine (implSpan_any _ _ _).mono ?_; rintro e w3 ⟨rfl, b3⟩; have f4 := (b3.cell (p := ⟨w.heap.size, 2, none⟩) fz).trans f2; have f5 := (b3.cell (p := ⟨w.heap.size, 3, none⟩) fz).trans f3))
           go_ret
           exact ⟨by rw [fin.out, hn]; simp [h1, h2], hbw.trans (b3.mono hbw.size)⟩
       · go_wp2_with (first | (go_at_call 142; refine (implSpan_any _ _ _).mono ?_; rintro e w3 ⟨rfl, b3⟩; have f4 := (b3.cell (p := ⟨w.heap.size, 2, none⟩) fz).trans f2))
         go_ret
         exact ⟨by rw [fin.out]; simp [hn], hbw.trans (b3.mono hbw.size)⟩
end Go.Proofs.YtijofgaekmahkaaGreatDoor
