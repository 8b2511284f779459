/- Joined texts: Plain laws: texts of notes and of pairs grow one by one, and how long they are; no program. A region that leaves its order open: its first operations are quiet in a class of worlds, its last ones come in one forced order: the quiet ones in the order of the text, then the last ones one by one, serve every order. Walks: what the package's variables hold; numbers and spans as text in the program. Conditions: none. -/
import Derived.Test.YtijofgaekmahkaaGreatDoorM20
import Derived.StillTail
import Derived.Test.YtijofgaekmahkaaGreatDoorShelf
import Derived.Lib.SmallJoins
import Derived.Laws.StructEq
namespace Go.Proofs.YtijofgaekmahkaaGreatDoor
open Go.RowKit
theorem jn_succ (l : List (List UInt8)) {k : Nat} (hk : k < l.length) : jn (l.take (k + 1)) = if k = 0 then l[k] else jn (l.take k) ++ [59] ++ l[k] := by
 rw [List.take_succ_eq_append_getElem hk]
 by_cases h : k = 0
 · subst h
   rw [if_pos rfl, List.take_zero, List.nil_append, jn_one]
 · rw [if_neg h, jn_snoc _ (fun e => by have := congrArg List.length e; rw [List.length_take, List.length_nil] at this; omega)]
theorem jn_len {m : Nat} : ∀ (l : List (List UInt8)), (∀ x ∈ l, x.length ≤ m) → (jn l).length ≤ l.length * (m + 1)
 | [], _ => by simp [jn_nil]
 | a :: t, h => by
   have ha := h a (by simp)
   have ht : ∀ t : List (List UInt8), (∀ x ∈ t, x.length ≤ m) → (t.flatMap fun w => 59 :: w).length ≤ t.length * (m + 1) := by
     intro t
     induction t with
     | nil => intro _; simp
     | cons b t ih =>
       intro h
       have h1 := h b (by simp)
       have h2 := ih (fun x hx => h x (by simp [hx]))
       rw [List.flatMap_cons, List.length_append, List.length_cons, List.length_cons, Nat.add_mul]
       omega
   have h2 := ht t (fun x hx => h x (by simp [hx]))
   rw [jn_cons, List.length_append, List.length_cons, Nat.add_mul]
   omega
theorem ntW_len {s : List Art} {c : List (Int × Int)} (hc : vCart s c = true) {x : Nt} (hx : NtOk c x) : (ntW c x).length ≤ 32 := by
 obtain ⟨h1, h2, h3, h4, h5, h6⟩ := hx
 have ha := art_in hc (k := x.ln.toNat) (by omega)
 have hs := (vShop_all (vCart_pr hc).1).2
 have d1 := dec_short (n := pA c x.ln.toNat) (by omega) (by omega)
 have d2 := dec_short (n := x.ru) (by omega) (by omega)
 have d3 := dec_short (n := x.am) (by omega) (by omega)
 simp only [ntW, List.length_append, List.length_singleton]
 omega
theorem cnf_num {l : List Rl} (h : okRs l = true) {x : Int × Int} (hx : x ∈ cnfL l) : 1 ≤ x.1 ∧ x.1 ≤ 99 ∧ 1 ≤ x.2 ∧ x.2 ≤ 99 := by
 obtain ⟨_, h2⟩ := (cnfL_mem h x).1 hx
 obtain ⟨i, k, hi, hk, e1, e2, _⟩ := pairQ_pr h2
 have o1 := okRu_parts ((okRs_pr h).1 i hi)
 have o2 := okRu_parts ((okRs_pr h).1 k hk)
 omega
theorem prW_len {x : Int × Int} (h : 1 ≤ x.1 ∧ x.1 ≤ 99 ∧ 1 ≤ x.2 ∧ x.2 ≤ 99) : (prW x).length ≤ 21 := by
 have d1 := dec_short (n := x.1) (by omega) (by omega)
 have d2 := dec_short (n := x.2) (by omega) (by omega)
 simp only [prW, List.length_append, List.length_singleton]
 omega
theorem cnfL_short {l : List Rl} (h : okRs l = true) : (cnfL l).length ≤ 36 := by
 have h1 := (fnd_perm h).length_eq
 have h2 := fnd_len l l.length
 have h3 := (okRs_pr h).2.2
 have h4 : l.length * l.length ≤ 6 * 6 := Nat.mul_le_mul h3 h3
 omega
theorem rcL_notes {s : List Art} {c : List (Int × Int)} (cp : List Int) {rs : List Rl} (hc : vCart s c = true) (hr : okRs rs = true) : (rcL s c cp (ordL rs)).2.length ≤ 48 ∧ ∀ x ∈ (rcL s c cp (ordL rs)).2, NtOk c x := by
 have h1 := rcK_ok (cp := cp) hc (ordL_ok hr).1 (ordL rs).length (Nat.le_refl _)
 have h2 := (ordL_ok hr).2
 have h3 := h1.len
 exact ⟨by unfold rcL; omega, h1.nts⟩
theorem conf_len {l : List Rl} (h : okRs l = true) : (jn ((cnfL l).map prW)).length ≤ 1000 := by
 have h1 := jn_len (m := 21) ((cnfL l).map prW) (fun x hx => by obtain ⟨y, hy, rfl⟩ := List.mem_map.1 hx; exact prW_len (cnf_num h hy))
 rw [List.length_map] at h1
 have := cnfL_short h
 omega
theorem notes_len {s : List Art} {c : List (Int × Int)} (cp : List Int) {rs : List Rl} (hc : vCart s c = true) (hr : okRs rs = true) : (jn ((rcL s c cp (ordL rs)).2.map (ntW c))).length ≤ 2000 := by
 have h0 := rcL_notes cp hc hr
 have h1 := jn_len (m := 32) ((rcL s c cp (ordL rs)).2.map (ntW c)) (fun x hx => by obtain ⟨y, hy, rfl⟩ := List.mem_map.1 hx; exact ntW_len hc (h0.2 y hy))
 rw [List.length_map] at h1
 omega
theorem totS_bd {s : List Art} {c : List (Int × Int)} (h : vCart s c = true) : 0 ≤ totK s c c.length ∧ totK s c c.length ≤ 1000000 := by
 have h8 := (vLines_all (vCart_pr h).2).2
 have h1 := totK_bd h c.length (Nat.le_refl _)
 omega
theorem stepC_len {S : Se} (h : SeOk S) (C : Cmd) : (stepC S C).2.length ≤ 2000 := by
 cases C with
 | add a n => rw [stepC_add]; split <;> simp [tOk, tNo]
 | take a n => rw [stepC_take]; split <;> simp [tOk, tNo]
 | rule T =>
   cases hp : parseT T with
   | none => rw [stepC_none hp]; simp [tNo]
   | some r => rw [stepC_some hp]; split <;> simp [tOk, tNo]
 | coupon n => rw [stepC_coupon]; split <;> simp [tOk, tNo]
 | total =>
   have hb := totS_bd h.c
   have := dec_short (n := totK shopS S.c S.c.length) (by omega) (by omega)
   show (dec (totK shopS S.c S.c.length)).length ≤ 2000
   omega
 | pay =>
   show (if clrQ S.rs then dec (payV shopS S.c S.cp S.rs) else tNo).length ≤ 2000
   split
   · rename_i hq
     have hb := payV_bd (cp := S.cp) h.c h.rs hq
     have := dec_short (n := payV shopS S.c S.cp S.rs) (by omega) (by omega)
     omega
   · simp [tNo]
 | notes =>
   show (if clrQ S.rs then jn ((rcL shopS S.c S.cp (ordL S.rs)).2.map (ntW S.c)) else tNo).length ≤ 2000
   split
   · exact notes_len S.cp h.c h.rs
   · simp [tNo]
 | conf =>
   have e : (stepC S .conf).2 = jn ((cnfL S.rs).map prW) := by simp only [stepC]
   rw [e]
   exact Nat.le_trans (conf_len h.rs) (by decide)
 | what => show tWhat.length ≤ 2000; simp [tWhat]
theorem runK_len (ls : List (List UInt8)) : ∀ k, (runK ls k).2.length ≤ 2001 * k
 | 0 => by simp [runK]
 | k + 1 => by
   have h1 := runK_len ls k
   have h2 := stepC_len (runK_ok ls k) (cmdT (ls.getD k []))
   show ((runK ls k).2 ++ ((stepS (runK ls k).1 (ls.getD k [])).2 ++ [10])).length ≤ _
   unfold stepS
   rw [List.length_append, List.length_append, List.length_singleton]
   omega
theorem runS_len (ls : List (List UInt8)) : (runS ls).length ≤ 50000 := by
 have := runK_len ls (min ls.length 20)
 unfold runS
 omega
end Go.Proofs.YtijofgaekmahkaaGreatDoor

namespace Go.Proofs.YtijofgaekmahkaaGreatDoor
open Go
section
variable {P : Program} {ops : Array Oper} {md : Region.Mode} {C : World → Prop}
def Region.sinkFrom (md : Region.Mode) (ops : Array Oper) (m n : Nat) : Bool :=
 (List.range n).all fun i => decide (i < m) || (List.range (n + 1)).any fun j => decide (i < j) && Region.waitsFor md ops j i
theorem tail_waits_from {m n : Nat} {listed : Array Bool} (hs : Region.sinkFrom md ops m n = true) (hc : Region.chainB md ops n = true) (hn : n < ops.size) (inv : HeadInv md ops n listed) :
   ∀ (d i : Nat), n - i = d → m ≤ i → i < n → listed.getD i true = false → ∀ t, n ≤ t → t ∉ Region.ready md ops listed := by
 intro d
 induction d using Nat.strongRecOn with
 | _ d ih =>
   intro i hd hmi hi hun t ht hr
   obtain ⟨_, ot, hot, hall⟩ := mem_ready.1 hr
   have htlt : t < ops.size := (Array.getElem?_eq_some_iff.1 hot).1
   have use : ∀ k, Region.waitsFor md ops t k = true → listed.getD k false = true := fun k hk => by
     obtain ⟨o', ho', e, he, hb, hon⟩ := Region.waitsFor_spec hk
     obtain rfl : o' = ot := Option.some.inj (ho'.symm.trans hot)
     rw [← hon]
     exact hall e he hb
   rcases Nat.lt_or_ge n t with hlt | hge
   · have h1 := List.all_eq_true.1 hc t (List.mem_range.2 htlt)
     simp only [Bool.or_eq_true, decide_eq_true_eq] at h1
     rcases h1 with h1 | h1
     · omega
     · have := use _ h1
       rw [getD_both (inv.tail (t - 1) (by omega) (by omega))] at this
       cases this
   · obtain rfl : t = n := by omega
     have h1 := List.all_eq_true.1 hs i (List.mem_range.2 hi)
     simp only [Bool.or_eq_true, decide_eq_true_eq] at h1
     rcases h1 with h1 | h1
     · omega
     · obtain ⟨j, hj, hj2⟩ := List.any_eq_true.1 h1
       simp only [Bool.and_eq_true, decide_eq_true_eq] at hj2
       have hjle : j ≤ t := by have := List.mem_range.1 hj; omega
       rcases Nat.lt_or_ge j t with hjt | hjt
       · cases hl : listed.getD j false with
         | true =>
           obtain ⟨oj, hoj, e, he, hb, hon⟩ := Region.waitsFor_spec hj2.2
           have h2 := inv.closed j oj hoj hl e he hb
           rw [hon, getD_both hun] at h2
           cases h2
         | false =>
           have hjs : j < listed.size := by rw [inv.size]; omega
           exact ih (t - j) (by omega) j rfl (by omega) hjt (getD_in hjs hl) t (Nat.le_refl _) hr
       · obtain rfl : j = t := by omega
         have := use _ hj2.2
         rw [getD_both hun] at this
         cases this
def wpHeadQ (P : Program) (md : Region.Mode) (ops : Array Oper) (C : World → Prop) (n : Nat) (L : Array Bool → Act → Prop) : Nat → Array Bool → Act → Prop
 | 0, listed, a => L listed a
 | f + 1, listed, a => Region.ready md ops listed ≠ [] ∧ ∀ i ∈ Region.ready md ops listed, i < n ∧ qOp P ops C i (wpHeadQ P md ops C n L f (listed.setIfInBounds i true)) a
theorem wpAny_of_headQ {n g : Nat} {L : Array Bool → Act → Prop} {Q : Exit → Act → World → Prop} (hL : ∀ listed a w, C w → L listed a → wpAny P md ops Q g listed a w) :
   ∀ (f : Nat) (listed : Array Bool) (a : Act) (w : World), C w → wpHeadQ P md ops C n L f listed a → wpAny P md ops Q (f + g) listed a w := by
 intro f
 induction f with
 | zero => intro listed a w hw h; rw [Nat.zero_add]; exact hL _ _ _ hw h
 | succ f ih =>
   intro listed a w hw h
   rw [Nat.add_right_comm]
   refine ⟨fun h0 => absurd h0 h.1, fun i hi => ?_⟩
   exact wpOp_of_qOp hw (fun a' w' hw' h' => ih _ a' w' hw' h') (h.2 i hi).2
theorem wpHeadQ_first {m n i : Nat} {oi : Oper} {v : Value} {L : Array Bool → Act → Prop} (hi : ops[i]? = some oi) (hsel : ∀ (j : Nat) (o : Oper) cs b, ops[j]? = some o → o.op ≠ .select cs b)
   (hs : Region.sinkFrom md ops m n = true) (hc : Region.chainB md ops n = true) (hn : n < ops.size) (hmi : m ≤ i) (hin : i < n) (hdone : ∀ listed a, L listed a → ∀ j ∈ Region.ready md ops listed, n ≤ j) :
   ∀ (f : Nat) (listed : Array Bool) (a : Act), HeadInv md ops n listed →
     (∀ j oj, ops[j]? = some oj → j ≠ i → listed.getD j true = false → (∀ e ∈ oj.after, Region.binds md e = true → e.on ≠ i) → oi.apart ops oj = true) →
     i ∈ Region.ready md ops listed → YieldsIn P ops C oi v a → wpHeadQ P md ops C n L f (listed.setIfInBounds i true) (a.put oi.dst v) → wpHeadQ P md ops C n L (f + 1) listed a := by
 intro f
 induction f with
 | zero =>
   intro listed a inv _ hr hy H
   refine ⟨List.ne_nil_of_mem hr, fun j hj => ?_⟩
   have hjn : j < n := Nat.lt_of_not_le fun h => tail_waits_from hs hc hn inv _ i rfl hmi hin (mem_ready.1 hr).1 j h hj
   refine ⟨hjn, ?_⟩
   by_cases hji : j = i
   · subst hji
     exact hy.qOp hi H
   · exact absurd (hdone _ _ H j (ready_mono hj hji)) (by omega)
 | succ f ih =>
   intro listed a inv hfree hr hy H
   refine ⟨List.ne_nil_of_mem hr, fun j hj => ?_⟩
   have hjn : j < n := Nat.lt_of_not_le fun h => tail_waits_from hs hc hn inv _ i rfl hmi hin (mem_ready.1 hr).1 j h hj
   refine ⟨hjn, ?_⟩
   by_cases hji : j = i
   · subst hji
     exact hy.qOp hi H
   · obtain ⟨hjun, oj, hoj, hall⟩ := mem_ready.1 hj
     have hun := (mem_ready.1 hr).1
     have hnot : ∀ e ∈ oj.after, Region.binds md e = true → e.on ≠ i := by
       intro e he hb heq
       have h1 := hall e he hb
       rw [heq, getD_both hun] at h1
       cases h1
     have h2 := qOp_put hoj (hfree j oj hoj hji hjun hnot) (fun cs b => hsel i oi cs b hi) (fun cs b => hsel j oj cs b hoj) hy (H.2 j (ready_mono hj hji)).2
     refine qOp_mono (fun a' h3 => ih (listed.setIfInBounds j true) a' (inv.set hj hjn) (fun k ok hk hki hun' hno => hfree k ok hk hki ?_ hno) (ready_mono hr (Ne.symm hji)) h3.1 ?_) h2
     · by_cases hjk : j = k
       · exact hjk ▸ hjun
       · rwa [getD_set_ne true hjk] at hun'
     · rw [Array.setIfInBounds_comm _ _ hji]
       exact h3.2
theorem wpHeadQ_lex {m n g : Nat} {Lq : Act → Prop} (hsel : Region.noSelect ops = true) (hs : Region.sinkFrom md ops m n = true) (hc : Region.chainB md ops n = true) (hn : n < ops.size) :
   ∀ (l : List Oper) (k : Nat) (listed : Array Bool) (a : Act), m ≤ k → (∀ j, j < l.length → l[j]? = ops[k + j]?) → k + l.length = n → HeadInv md ops n listed →
   Region.lexHead md ops g l.length k listed = true → wpQuiet P ops C Lq l a →
   wpHeadQ P md ops C n (fun listed' a' => Region.seqB md ops g n listed' = true ∧ Lq a') l.length listed a := by
 intro l
 induction l with
 | nil =>
   intro k listed a _ _ hk _ hB h
   obtain rfl : k = n := by simpa using hk
   exact ⟨by simpa [Region.lexHead] using hB, h⟩
 | cons o l ih =>
   intro k listed a hmk hl hk inv hB h
   have h0 : ops[k]? = some o := by simpa using (hl 0 (by simp)).symm
   simp only [List.length_cons, Region.lexHead, Bool.and_eq_true] at hB hk
   have hr : k ∈ Region.ready md ops listed := by simpa using hB.1.1
   have hq : qOp P ops C k (wpQuiet P ops C Lq l) a := by unfold qOp; simp only [h0]; exact h
   obtain ⟨v, hy, hK⟩ := yieldsIn_of_qOp h0 hq
   refine wpHeadQ_first h0 (Region.noSelect_spec hsel) hs hc hn hmk (by omega) (fun listed' a' hL => seqB_ready hL.1) l.length listed a inv (Region.free_spec h0 hB.1.2) hr hy ?_
   exact ih (k + 1) _ _ (by omega) (fun j hj => by have := hl (j + 1) (by simp; omega); simpa [Nat.add_assoc, Nat.add_comm 1 j] using this) (by omega) (inv.set hr (by omega)) hB.2 hK
def Region.headB (md : Region.Mode) (ops : Array Oper) (n : Nat) (listed : Array Bool) : Bool :=
 listed.size == ops.size && ((List.range ops.size).all fun j => !listed.getD j false || match ops[j]? with
   | some oj => oj.after.all fun e => !Region.binds md e || listed.getD e.on false
   | none => true) && (List.range ops.size).all fun t => decide (t < n) || !listed.getD t true
theorem headInv_of {n : Nat} {listed : Array Bool} (h : Region.headB md ops n listed = true) : HeadInv md ops n listed := by
 simp only [Region.headB, Bool.and_eq_true, beq_iff_eq] at h
 obtain ⟨⟨h1, h2⟩, h3⟩ := h
 refine ⟨h1, fun j oj hj hl e he hb => ?_, fun t ht htl => ?_⟩
 · have h4 := List.all_eq_true.1 h2 j (List.mem_range.2 (Array.getElem?_eq_some_iff.1 hj).1)
   rw [hl, hj] at h4
   simp only [Bool.not_true, Bool.false_or] at h4
   have h5 := Array.all_eq_true'.1 h4 e he
   rw [hb] at h5
   simpa using h5
 · have h4 := List.all_eq_true.1 h3 t (List.mem_range.2 htl)
   simp only [Bool.or_eq_true, decide_eq_true_eq, Bool.not_eq_true'] at h4
   rcases h4 with h4 | h4
   · omega
   · exact h4
def Region.quietTailB (md : Region.Mode) (ops : Array Oper) (m n : Nat) (listed : Array Bool) : Bool :=
 Region.noSelect ops && decide (m ≤ n) && decide (n < ops.size) && Region.sinkFrom md ops m n && Region.chainB md ops n && Region.headB md ops n listed && Region.lexHead md ops (ops.size - n) (n - m) m listed
theorem wpAny_quiet_tail {Q : Exit → Act → World → Prop} {a : Act} {w : World} {l : List Oper} {listed : Array Bool} {fuel : Nat} (m n : Nat) (hB : Region.quietTailB md l.toArray m n listed = true) (hf : fuel = l.length - m)
   (hC : C w) (h : wpQuiet P l.toArray C (fun a' => ∀ w', C w' → wpList P l.toArray Q (l.drop n) a' w') ((l.drop m).take (n - m)) a) : wpAny P md l.toArray Q fuel listed a w := by
 simp only [Region.quietTailB, Bool.and_eq_true, decide_eq_true_eq] at hB
 obtain ⟨⟨⟨⟨⟨⟨hsel, hmn⟩, hn⟩, hs⟩, hc⟩, hh⟩, hlex⟩ := hB
 have hn' : n < l.length := by simpa using hn
 have htl : ((l.drop m).take (n - m)).length = n - m := by simp; omega
 have hdl : (l.drop n).length = l.toArray.size - n := by simp
 have H := wpHeadQ_lex (md := md) (g := l.toArray.size - n) hsel hs hc hn ((l.drop m).take (n - m)) m listed a (Nat.le_refl _) (fun j hj => by
   have hj' : j < n - m := by rw [htl] at hj; exact hj
   simp [hj', List.getElem?_drop]) (by rw [htl]; omega) (headInv_of hh) (by rw [htl]; exact hlex) h
 have h2 := wpAny_of_headQ (Q := Q) (g := l.toArray.size - n) (fun listed a' w' hw' hL => by
   have h3 := wpAny_of_seq (md := md) (Q' := Q) (l.drop n) n listed a' w' (fun j => by simp [List.getElem?_drop]) (by rw [hdl]; exact hL.1) (hL.2 w' hw')
   rwa [hdl] at h3) _ _ _ _ hC H
 rw [htl, show n - m + (l.toArray.size - n) = fuel by rw [hf]; simp; omega] at h2
 exact h2
theorem wp_region_quiet_tail {id : Nat} {Q : Exit → Act → World → Prop} {a : Act} {w : World} {l : List Oper} (n : Nat) (hm : P.follows .mixedOrders = true) (hB : Region.quietTailB .any l.toArray 0 n (Array.replicate l.toArray.size false) = true)
   (hC : C { w with drawn := w.drawn + 1 }) (h : wpQuiet P l.toArray C (fun a' => ∀ w', C w' → wpList P l.toArray Q (l.drop n) a' w') (l.take n) a) : (Code.region id l.toArray true).wp P Q a w :=
 wp_region_any hm (wpAny_quiet_tail 0 n hB (by simp) hC (by simpa using h))
end
open Go.RowKit in
theorem wp_region_later_tail {P : Program} {id : Nat} {Q : Exit → Act → World → Prop} {a : Act} {w : World} {l : List Oper} (n : Nat) (hm : P.follows .mixedOrders = true) (hB : Region.quietTailB .any l.toArray 0 n (Array.replicate l.toArray.size false) = true)
   (h : wpQuiet P l.toArray (fun w' => ∃ x : Later w, w' = x.wld) (fun a' => ∀ w', (∃ x : Later w, w' = x.wld) → wpList P l.toArray Q (l.drop n) a' w') (l.take n) a) : (Code.region id l.toArray true).wp P Q a w :=
 wp_region_quiet_tail (C := fun w' => ∃ x : Later w, w' = x.wld) n hm hB ⟨⟨{ w with drawn := w.drawn + 1 }, ⟨rfl, rfl, rfl, Nat.le_refl _, fun _ _ => rfl⟩⟩, rfl⟩ h
open Go.RowKit in
theorem wp_region_later_tail1 {P : Program} {id : Nat} {Q : Exit → Act → World → Prop} {a : Act} {w : World} {o : Oper} {l : List Oper} {v : Value} (n : Nat) (hm : P.follows .mixedOrders = true) (hB0 : Region.free .any (o :: l).toArray (Array.replicate (o :: l).toArray.size false) 0 = true) (hr0 : (Region.ready .any (o :: l).toArray (Array.replicate (o :: l).toArray.size false)).contains 0 = true)
   (hQ : ∀ c a w, Q (.panic c) (a.put o.dst v) w → Q (.panic c) a w) (hy : Yields P (o :: l).toArray o v a)
   (hB : Region.quietTailB .any (o :: l).toArray 1 n ((Array.replicate (o :: l).toArray.size false).setIfInBounds 0 true) = true)
   (h : wpQuiet P (o :: l).toArray (fun w' => ∃ x : Later w, w' = x.wld) (fun a' => ∀ w', (∃ x : Later w, w' = x.wld) → wpList P (o :: l).toArray Q ((o :: l).drop n) a' w') (l.take (n - 1)) (a.put o.dst v)) : (Code.region id (o :: l).toArray true).wp P Q a w := by
 refine wp_region_any hm ?_
 have hsel : Region.noSelect (o :: l).toArray = true := by
   simp only [Region.quietTailB, Bool.and_eq_true] at hB
   exact hB.1.1.1.1.1.1
 exact wpAny_take (i := 0) (oi := o) (v := v) (fuel := l.length) (by simp) hsel hB0 hr0 hQ hy
   (wpAny_quiet_tail (C := fun w' => ∃ x : Later w, w' = x.wld) 1 n hB (by simp) ⟨⟨{ w with drawn := w.drawn + 1 }, ⟨rfl, rfl, rfl, Nat.le_refl _, fun _ _ => rfl⟩⟩, rfl⟩ (by simpa using h))
end Go.Proofs.YtijofgaekmahkaaGreatDoor

namespace Go.Proofs.YtijofgaekmahkaaGreatDoor
open Go.RowKit
def fmtR (r : Rl) : List UInt8 := if okRu r then textR r else []
set_option maxHeartbeats 1000000 in
theorem specFormat_any (r : Rl) (v : Value) (w : World) (hv : Rd w 2 v r.counts.length (pr r.counts)) :
   Calls Tryz.prog 18 #[ruV r v] w fun e w' => e = .returned (.string ⟨(fmtR r).toArray⟩) ∧ Below w.heap.size w w' := by
 have HV := Lib.hid hv
 obtain ⟨ao, cap, rfl, _, _, _⟩ := hv.pairs
 clear hv
 have B0 := RuAt.box w r (.slice ao r.counts.length cap) 43
 cases hok : okRu r
 · have fin : Hid (fmtR r = []) := by show fmtR r = []; unfold fmtR; rw [hok]; rfl
   unfold ruV
   go_enter Tryz.func18, Tryz.ntmps18
   go_wp2_with (go_at_call 25; refine (specRule_in r _ _ (HV.out.below ((Below.refl _ w).alloc (Nat.le_refl _) _) (Nat.le_refl _))).mono ?_; rintro e w1 ⟨rfl, b1⟩)
   go_ret
   exact ⟨by rw [fin.out]; rfl, ((Below.refl _ w).alloc (Nat.le_refl _) _).trans (b1.mono (by rw [World.size_alloc]; exact Nat.le_succ _))⟩
 · have fin : Hid (fmtR r = textR r) := by show fmtR r = _; unfold fmtR; rw [hok]; rfl
   unfold ruV
   go_enter Tryz.func18, Tryz.ntmps18
   go_wp2_with (first | (go_at_call 25; refine (specRule_in r _ _ (HV.out.below ((Below.refl _ w).alloc (Nat.le_refl _) _) (Nat.le_refl _))).mono ?_; rintro e w1 ⟨rfl, b1⟩; have B1 := B0.below b1 (Nat.le_refl _); have c0 := B1.c0; have c1 := B1.c1; have c2 := B1.c2; have c3 := B1.c3; have c4 := B1.c4; have c5 := B1.c5; have c6 := B1.c6; have c7 := B1.c7; have c8 := B1.c8; have c9 := B1.c9; have c10 := B1.c10; have hv1 := Lib.hid (HV.out.below (((Below.refl _ w).alloc (Nat.le_refl _) _).trans (b1.mono (by rw [World.size_alloc]; exact Nat.le_succ _))) (Nat.le_refl _))) | (go_at_call 26; refine (formatRule_any r _ _ hv1.out hok).mono ?_; rintro e w2 ⟨rfl, b2⟩))
   go_ret
   exact ⟨by rw [fin.out]; rfl, ((Below.refl _ w).alloc (Nat.le_refl _) _).trans ((b1.trans (b2.mono b1.size)).mono (by rw [World.size_alloc]; exact Nat.le_succ _))⟩
theorem gTab : Tryz.prog.globalNamed "internal/strconv.uint64pow10" = some 5 := by kernel_rfl
def Env0 (W : World) : Prop := Lib.TabIs Tryz.prog W "internal/strconv.uint64pow10" .u64 Lib.pow10Tab ∧ 7 < W.heap.size ∧
 (∃ bm, W.cell? ⟨1, 0, none⟩ = some (.map (some bm)) ∧ ∀ W', Below W.heap.size W W' → ∀ k : Int, k = 1 ∨ k = 2 ∨ k = 3 → (Instr.lookup 107 (.map (some bm)) (.int .i64 k) false).run Tryz.prog W' = .ok (.string ⟨(kindW k).toArray⟩) W') ∧
 W.cell? ⟨0, 0, none⟩ = some (.int .i64 0) ∧ W.cell? ⟨0, 1, none⟩ = some (.int .i64 1000000)
def Env (W : World) : Prop := ∃ W0, Env0 W0 ∧ Below W0.heap.size W0 W
theorem Env.below {W W' : World} (h : Env W) (hb : Below W.heap.size W W') : Env W' := by
 obtain ⟨W0, h0, b0⟩ := h
 exact ⟨W0, h0, b0.trans (hb.mono b0.size)⟩
theorem Env.tab {W : World} (h : Env W) : Lib.TabIs Tryz.prog W "internal/strconv.uint64pow10" .u64 Lib.pow10Tab := by
 obtain ⟨W0, h0, b0⟩ := h
 exact Joins.tab_stays gTab h0.1 b0 (Nat.le_refl _)
theorem Env.size {W : World} (h : Env W) : 7 < W.heap.size := by
 obtain ⟨W0, h0, b0⟩ := h
 exact Nat.lt_of_lt_of_le h0.2.1 b0.size
theorem Env.all {W : World} (h : Env W) : W.cell? ⟨0, 0, none⟩ = some (.int .i64 0) ∧ W.cell? ⟨0, 1, none⟩ = some (.int .i64 1000000) := by
 obtain ⟨W0, h0, b0⟩ := h
 have := h0.2.1
 exact ⟨(b0.cell (p := ⟨0, 0, none⟩) (by show 0 < _; omega)).trans h0.2.2.2.1, (b0.cell (p := ⟨0, 1, none⟩) (by show 0 < _; omega)).trans h0.2.2.2.2⟩
theorem Env.kinds {W : World} (h : Env W) : ∃ bm, W.cell? ⟨1, 0, none⟩ = some (.map (some bm)) ∧ ∀ W', Below W.heap.size W W' → ∀ k : Int, k = 1 ∨ k = 2 ∨ k = 3 → (Instr.lookup 107 (.map (some bm)) (.int .i64 k) false).run Tryz.prog W' = .ok (.string ⟨(kindW k).toArray⟩) W' := by
 obtain ⟨W0, h0, b0⟩ := h
 have := h0.2.1
 obtain ⟨bm, hc, hl⟩ := h0.2.2.1
 exact ⟨bm, (b0.cell (p := ⟨1, 0, none⟩) (by show 1 < _; omega)).trans hc, fun W' hb => hl W' (b0.trans (hb.mono b0.size))⟩
theorem below_grow (w : World) (k : Nat) (os : Array Obj) : Below w.heap.size w (Sort.grow (w.drewN k) os) :=
 ⟨rfl, rfl, rfl, by show w.heap.size ≤ (w.heap ++ os).size; rw [Array.size_append]; exact Nat.le_add_right _ _, fun j hj => by show (w.heap ++ os)[j]? = _; rw [Array.getElem?_append_left hj]⟩
theorem itoa_run (n : Int) (w : World) (hE : Env w) (h0 : 0 ≤ n) (h1 : n ≤ 1000000) :
   Calls Tryz.prog 37 #[.int .i64 n] w fun e w' => e = .returned (.string ⟨(dec n).toArray⟩) ∧ Below w.heap.size w w' := by
 refine (Tryz.strconv_Itoa n (by omega) (by omega) w hE.tab).mono ?_
 rintro e w' ⟨rfl, k, os, rfl⟩
 obtain ⟨m, rfl⟩ := Int.eq_ofNat_of_zero_le h0
 rw [Lib.itoa_nonneg]
 exact ⟨rfl, below_grow w k os⟩
set_option maxHeartbeats 1000000 in
theorem implSpanText_any (a b : Int) (w : World) (hE : Env w) (ha0 : 0 ≤ a) (ha1 : a ≤ 1000000) (hb0 : 0 ≤ b) (hb1 : b ≤ 1000000) :
   Calls Tryz.prog 106 #[.agg #[.int .i64 a, .int .i64 b]] w fun e w' => e = .returned (.string ⟨(spW a b).toArray⟩) ∧ Below w.heap.size w w' := by
 have la := dec_short ha0 (by omega)
 have lb := dec_short hb0 (by omega)
 have A1 := add_to (x := dec a) (y := [45]) rfl (by simp; omega)
 have A2 := add_to (x := dec a ++ [45]) (y := dec b) (z := spW a b) (by simp [spW]) (by simp [spW]; omega)
 have hE1 := hE.below ((Below.refl _ w).alloc (Nat.le_refl _) (.cells #[.int .i64 a, .int .i64 b] 38))
 have H : ∀ x : Later (w.alloc (.cells #[.int .i64 a, .int .i64 b] 38)), ∀ y : Int, 0 ≤ y → y ≤ 1000000 → Calls Tryz.prog 37 #[.int .i64 y] x.wld fun e w' => e = .returned (.string ⟨(dec y).toArray⟩) ∧ ∃ z : Later (w.alloc (.cells #[.int .i64 a, .int .i64 b] 38)), w' = z.wld :=
   fun x y h0 h1 => Calls.later_of (itoa_run y _ (hE1.below x.below) h0 h1)
 have Ha := Lib.hid (fun x => H x a ha0 ha1)
 have Hb := Lib.hid (fun x => H x b hb0 hb1)
 clear H la lb ha0 ha1 hb0 hb1 hE hE1
 go_enter Tryz.func106, Tryz.ntmps106
 go_wp2
 refine wp_region_later (by kernel_rfl) (by kernel_rfl) ?_
 repeat (go_big_quiet_step ((go_at_call 37; first | (with_reducible exact Ha.out _) | (with_reducible exact Hb.out _))))
 refine wpQuiet_nil ?_
 rintro _ ⟨x, rfl⟩
 go_wp2
 go_ret
 exact ⟨rfl, ((Below.refl _ w).alloc (Nat.le_refl _) _).trans (x.below.mono (by rw [World.size_alloc]; exact Nat.le_succ _))⟩
end Go.Proofs.YtijofgaekmahkaaGreatDoor
