/- A region that draws its order: some moves first, then operations that only read or call callees that leave all that was there, then a tail in one forced order that may write. No program in sight. -/
import Derived.StillTail
import Derived.Test.YtbjhehmglahmpaaLibQuiet
namespace Go.Proofs.Ytbjhehmglahmpaa
open Go.RowKit

theorem heap_kept2 {w w' : World} {k : Nat} {o : Obj} {row : Option Nat} (h : w.heap[k]? = some o) (hg : w.grownBy w' row) (hne : some k ≠ row) : w'.heap[k]? = some o :=
  (hg.block k (lt_of h) hne).trans h
section
variable {P : Program} {ops : Array Oper} {md : Region.Mode} {C : World → Prop}
/-- Each operation from k to n is waited for by a later one, n at most. -/
def sinkFrom (md : Region.Mode) (ops : Array Oper) (k n : Nat) : Bool :=
  (List.range n).all fun i => decide (i < k) || (List.range (n + 1)).any fun j => decide (i < j) && Region.waitsFor md ops j i
theorem late {k n : Nat} {listed : Array Bool} (hs : sinkFrom md ops k n = true) (hc : Region.chainB md ops n = true) (inv : HeadInv md ops n listed) :
    ∀ (d i : Nat), n - i = d → k ≤ i → i < n → listed.getD i true = false → ∀ t, n ≤ t → t ∉ Region.ready md ops listed := by
  intro d
  induction d using Nat.strongRecOn with
  | _ d ih =>
    intro i hd hki hi hun t ht hr
    obtain ⟨_, ot, hot, hall⟩ := mem_ready.1 hr
    rcases Nat.lt_or_ge n t with h | h
    · have h1 := List.all_eq_true.1 hc t (List.mem_range.2 (Array.getElem?_eq_some_iff.1 hot).1)
      rw [Bool.or_eq_true, decide_eq_true_eq] at h1
      rcases h1 with h1 | h1
      · omega
      · obtain ⟨o2, ho2, e, he, hb, hon⟩ := Region.waitsFor_spec h1
        rw [hot] at ho2
        cases ho2
        have h2 := hall e he hb
        rw [hon, getD_both (inv.tail (t - 1) (by omega) (by have := (Array.getElem?_eq_some_iff.1 hot).1; omega))] at h2
        exact Bool.noConfusion h2
    · obtain rfl : t = n := by omega
      have h1 := List.all_eq_true.1 hs i (List.mem_range.2 hi)
      rw [Bool.or_eq_true, decide_eq_true_eq] at h1
      obtain ⟨j, hj, hj2⟩ := List.any_eq_true.1 (h1.resolve_left (by omega))
      rw [Bool.and_eq_true, decide_eq_true_eq] at hj2
      obtain ⟨oj, hoj, e, he, hb, hon⟩ := Region.waitsFor_spec hj2.2
      have hjt : j ≤ t := by have := List.mem_range.1 hj; omega
      rcases Nat.lt_or_ge j t with h3 | h3
      · cases hl : listed.getD j false with
        | true =>
          have h2 := inv.closed j oj hoj hl e he hb
          rw [hon, getD_both hun] at h2
          exact Bool.noConfusion h2
        | false =>
          have : j < ops.size := (Array.getElem?_eq_some_iff.1 hoj).1
          exact ih (t - j) (by omega) j rfl (by omega) h3 (getD_in (by rw [inv.size]; exact this) hl) t (Nat.le_refl _) hr
      · obtain rfl : j = t := by omega
        rw [hot] at hoj
        cases hoj
        have h2 := hall e he hb
        rw [hon, getD_both hun] at h2
        exact Bool.noConfusion h2

/-- What comes up before the tail, in whatever order: quiet in the class. -/
def headQ (P : Program) (md : Region.Mode) (ops : Array Oper) (C : World → Prop) (n : Nat) (L : Array Bool → Act → Prop) : Nat → Array Bool → Act → Prop
  | 0, listed, a => L listed a
  | f + 1, listed, a => Region.ready md ops listed ≠ [] ∧ ∀ i ∈ Region.ready md ops listed, i < n ∧ qOp P ops C i (headQ P md ops C n L f (listed.setIfInBounds i true)) a
theorem any_of_headQ {n g : Nat} {L : Array Bool → Act → Prop} {Q : Exit → Act → World → Prop} (hL : ∀ listed a w, C w → L listed a → wpAny P md ops Q g listed a w) :
    ∀ (f : Nat) (listed : Array Bool) (a : Act) (w : World), C w → headQ P md ops C n L f listed a → wpAny P md ops Q (f + g) listed a w
  | 0, listed, a, w, hw, h => (by rw [Nat.zero_add]; exact hL _ _ _ hw h)
  | f + 1, listed, a, w, hw, h => by
    rw [show f + 1 + g = (f + g) + 1 by omega]
    exact ⟨fun h0 => absurd h0 h.1, fun i hi => wpOp_of_qOp hw (fun a2 w2 hw2 h2 => any_of_headQ hL f _ a2 w2 hw2 h2) (h.2 i hi).2⟩
theorem headQ_first {k n i : Nat} {oi : Oper} {v : Value} {L : Array Bool → Act → Prop} (hi : ops[i]? = some oi) (hsel : ∀ (j : Nat) (o : Oper) cs b, ops[j]? = some o → o.op ≠ .select cs b)
    (hs : sinkFrom md ops k n = true) (hc : Region.chainB md ops n = true) (hki : k ≤ i) (hin : i < n) (hdone : ∀ listed a, L listed a → ∀ j ∈ Region.ready md ops listed, n ≤ j) :
    ∀ (f : Nat) (listed : Array Bool) (a : Act), HeadInv md ops n listed →
      (∀ j oj, ops[j]? = some oj → j ≠ i → listed.getD j true = false → (∀ e ∈ oj.after, Region.binds md e = true → e.on ≠ i) → oi.apart ops oj = true) →
      i ∈ Region.ready md ops listed → YieldsIn P ops C oi v a → headQ P md ops C n L f (listed.setIfInBounds i true) (a.put oi.dst v) → headQ P md ops C n L (f + 1) listed a := by
  intro f
  induction f with
  | zero =>
    intro listed a inv _ hr hy H
    have hun := (mem_ready.1 hr).1
    refine ⟨List.ne_nil_of_mem hr, fun j hj => ?_⟩
    have hjn : j < n := Nat.lt_of_not_ge fun h => late hs hc inv _ i rfl hki hin hun j h hj
    refine ⟨hjn, ?_⟩
    by_cases hji : j = i
    · subst hji; exact hy.qOp hi H
    · have := hdone _ _ H j (ready_mono hj hji)
      omega
  | succ f ih =>
    intro listed a inv hfree hr hy H
    have hun := (mem_ready.1 hr).1
    refine ⟨List.ne_nil_of_mem hr, fun j hj => ?_⟩
    have hjn : j < n := Nat.lt_of_not_ge fun h => late hs hc inv _ i rfl hki hin hun j h hj
    refine ⟨hjn, ?_⟩
    by_cases hji : j = i
    · subst hji; exact hy.qOp hi H
    · have h1 := (H.2 j (ready_mono hj hji)).2
      obtain ⟨hjun, oj, hoj, hall⟩ := mem_ready.1 hj
      have hnot : ∀ e ∈ oj.after, Region.binds md e = true → e.on ≠ i := fun e he hb heq => by
        have h3 := hall e he hb
        rw [heq, getD_both hun] at h3
        exact Bool.noConfusion h3
      have h2 := qOp_put hoj (hfree j oj hoj hji hjun hnot) (fun cs b => hsel i oi cs b hi) (fun cs b => hsel j oj cs b hoj) hy h1
      refine qOp_mono (fun a2 h3 => ih (listed.setIfInBounds j true) a2 (inv.set hj hjn) (fun m om hm hmi hmun hmno => ?_) (ready_mono hr (Ne.symm hji)) h3.1 ?_) h2
      · refine hfree m om hm hmi ?_ hmno
        by_cases hjm : j = m
        · subst hjm; exact hjun
        · rwa [getD_set_ne true hjm] at hmun
      · rw [Array.setIfInBounds_comm _ _ hji]
        exact h3.2
theorem headQ_lex {k n g : Nat} {Lq : Act → Prop} (hsel : Region.noSelect ops = true) (hs : sinkFrom md ops k n = true) (hc : Region.chainB md ops n = true) :
    ∀ (l : List Oper) (i : Nat) (listed : Array Bool) (a : Act), k ≤ i → (∀ j, j < l.length → l[j]? = ops[i + j]?) → i + l.length = n → HeadInv md ops n listed →
    Region.lexHead md ops g l.length i listed = true → wpQuiet P ops C Lq l a →
    headQ P md ops C n (fun listed2 a2 => Region.seqB md ops g n listed2 = true ∧ Lq a2) l.length listed a
  | [], i, listed, a, _, _, hk, _, hB, h => by
    obtain rfl : i = n := by simpa using hk
    exact ⟨by simpa [Region.lexHead] using hB, h⟩
  | o :: l, i, listed, a, hki, hl, hk, inv, hB, h => by
    have h0 : ops[i]? = some o := by simpa using (hl 0 (by simp)).symm
    simp only [List.length_cons, Region.lexHead, Bool.and_eq_true] at hB
    obtain ⟨⟨hr, hf⟩, hB2⟩ := hB
    have hin : i < n := by simp only [List.length_cons] at hk; omega
    have hst : qOp P ops C i (wpQuiet P ops C Lq l) a := by unfold qOp; simp only [h0]; exact h
    obtain ⟨v, hy, hK⟩ := yieldsIn_of_qOp h0 hst
    have hr2 : i ∈ Region.ready md ops listed := by simpa using hr
    exact headQ_first h0 (Region.noSelect_spec hsel) hs hc hki hin (fun _ _ hL => seqB_ready hL.1) l.length listed a inv (Region.free_spec h0 hf) hr2 hy
      (headQ_lex hsel hs hc l (i + 1) _ _ (by omega) (fun j hj => by have := hl (j + 1) (by simp; omega); simpa [Nat.add_assoc, Nat.add_comm 1 j] using this) (by simp only [List.length_cons] at hk; omega) (inv.set hr2 hin) hB2 hK)
/-- The check over a region's operations: number 0 may be taken first; then those up to n; then the forced tail. -/
def moveTailB (md : Region.Mode) (ops : Array Oper) (n : Nat) : Bool :=
  Region.noSelect ops && decide (1 ≤ n ∧ n < ops.size) && sinkFrom md ops 1 n && Region.chainB md ops n && Region.free md ops (Array.replicate ops.size false) 0 && (Region.ready md ops (Array.replicate ops.size false)).contains 0 &&
  Region.lexHead md ops (ops.size - n) (n - 1) 1 ((Array.replicate ops.size false).setIfInBounds 0 true)
theorem wp_region_move_tail {id : Nat} {Q : Exit → Act → World → Prop} {a : Act} {w : World} {o : Oper} {l : List Oper} {v : Value} (n : Nat) (hm : P.follows .mixedOrders = true) (hB : moveTailB .any (o :: l).toArray n = true)
    (hy : Yields P (o :: l).toArray o v a) (hQ : ∀ c a w, Q (.panic c) (a.put o.dst v) w → Q (.panic c) a w)
    (h : wpQuiet P (o :: l).toArray (fun w2 => ∃ x, w2 = gr w x) (fun a2 => ∀ w2, Ext w w2 → wpList P (o :: l).toArray Q ((o :: l).drop n) a2 w2) ((o :: l).take n) a) : (Code.region id (o :: l).toArray true).wp P Q a w := by
  simp only [moveTailB, Bool.and_eq_true, decide_eq_true_eq] at hB
  obtain ⟨⟨⟨⟨⟨⟨hsel, hn1, hn⟩, hs⟩, hc⟩, hfr⟩, hrd⟩, hlex⟩ := hB
  have hn' : n < l.length + 1 := by simpa using hn
  have h : wpQuiet P (o :: l).toArray (fun w2 => ∃ x, w2 = gr w x) (fun a2 => ∀ w2, Ext w w2 → wpList P (o :: l).toArray Q ((o :: l).drop n) a2 w2) (((o :: l).take n).drop 1) (a.put o.dst v) := by
    obtain ⟨m, rfl⟩ : ∃ m, n = m + 1 := ⟨n - 1, by omega⟩
    rw [List.take_succ_cons] at h ⊢
    show wpQuiet P (o :: l).toArray _ _ (List.take m l) _
    unfold wpQuiet at h
    rcases hy with ⟨hw, hv⟩ | ⟨hw, rfl⟩
    · rw [if_pos hw] at h
      obtain ⟨v2, h1, h2⟩ := h
      have h3 := h1 w ⟨⟨w.drawn, #[]⟩, by show w = { w with heap := w.heap ++ #[], drawn := w.drawn }; rw [Array.append_empty]⟩
      unfold Oper.quietAt at h3
      rw [hv w] at h3
      rw [h3.2]; exact h2
    · rw [if_neg (by rw [hw]; exact Bool.noConfusion)] at h
      exact h
  have htl : (((o :: l).take n).drop 1).length = n - 1 := by simp; omega
  have hdl : ((o :: l).drop n).length = (o :: l).toArray.size - n := by simp
  have hr0 : 0 ∈ Region.ready .any (o :: l).toArray (Array.replicate (o :: l).toArray.size false) := by simpa using hrd
  have inv0 : HeadInv .any (o :: l).toArray n (Array.replicate (o :: l).toArray.size false) :=
    ⟨by simp, fun j oj _ hl => (by rw [getD_replicate_false] at hl; exact Bool.noConfusion hl), fun t _ ht => getD_in (by simpa using ht) (getD_replicate_false _ _)⟩
  refine wp_region_any hm ?_
  have hsz : (o :: l).toArray.size = ((n - 1) + ((o :: l).toArray.size - n)) + 1 := by simp; omega
  have H := headQ_lex (md := .any) (C := fun w2 => ∃ x, w2 = gr w x) (g := (o :: l).toArray.size - n) (k := 1) hsel hs hc (((o :: l).take n).drop 1) 1 _ (a.put o.dst v) (Nat.le_refl _) (fun j hj => by
    rw [htl] at hj
    rw [List.getElem?_drop, List.getElem?_take, if_pos (by omega)]
    simp) (by rw [htl]; omega) (inv0.set hr0 hn1) (by rw [htl]; exact hlex) h
  have H2 := any_of_headQ (Q := Q) (g := (o :: l).toArray.size - n) (fun listed a2 w2 hw2 hL => by
    obtain ⟨x, rfl⟩ := hw2
    have := wpAny_of_seq (md := .any) (Q' := Q) ((o :: l).drop n) n listed a2 (gr w x) (fun j => by simp [List.getElem?_drop]) (by rw [hdl]; exact hL.1) (hL.2 _ (ext_gr w x))
    rwa [hdl] at this) _ _ _ { w with drawn := w.drawn + 1 } ⟨_, gr_drew w⟩ H
  rw [htl] at H2
  have H3 := wpAny_take (P := P) (md := .any) (i := 0) (oi := o) (v := v) (by simp) hsel hfr hrd hQ hy H2
  rw [← hsz] at H3
  exact H3
end
end Go.Proofs.Ytbjhehmglahmpaa
