/- Plain lemmas of my own over the model's worlds: an extension order of worlds, slices that read as lists. No program in sight. -/
import Derived.WalkKit
import Derived.Lib.Hide
import Derived.BigQuiet
namespace Go.Proofs.YtalconpcpegmlaaDoor
open Go.RowKit

theorem ret_bool {a b : Bool} (h : a = b) : Ending.returned (.bool a) = .returned (.bool b) := by rw [h]
theorem ret_int {k : IntKind} {a b : Int} (h : a = b) : Ending.returned (.int k a) = .returned (.int k b) := by rw [h]

theorem bcell {W w1 : World} (hb : Below W.heap.size W w1) : (∀ b o, b < W.heap.size → w1.cell? ⟨b, o, none⟩ = W.cell? ⟨b, o, none⟩) ∧ (∀ b o, b < W.heap.size → w1.frozen? ⟨b, o, none⟩ = W.frozen? ⟨b, o, none⟩) :=
  ⟨fun b o h => hb.cell (p := ⟨b, o, none⟩) h, fun b o h => hb.frozen (p := ⟨b, o, none⟩) h⟩

/-- The world w' holds all that w holds. -/
def Ext (w w' : World) : Prop := Below w.heap.size w w'
theorem Ext.refl (w : World) : Ext w w := Below.refl _ _
theorem Ext.out {w w' : World} (h : Ext w w') : Below w.heap.size w w' := h
theorem Ext.size {w w' : World} (h : Ext w w') : w.heap.size ≤ w'.heap.size := Below.size h
theorem Ext.trans {a b c : World} (h : Ext a b) (k : Ext b c) : Ext a c := Below.trans h (Below.mono k (Below.size h))
theorem Ext.alloc {a w : World} (h : Ext a w) (o : Obj) : Ext a (w.alloc o) := Below.alloc h (Below.size h) o
theorem Ext.drew {a w : World} (h : Ext a w) : Ext a w.drew := Below.drew h
theorem Ext.drewN {a w : World} (h : Ext a w) (n : Nat) : Ext a (w.drewN n) := h.trans ⟨rfl, rfl, rfl, Nat.le_refl _, fun _ _ => rfl⟩
theorem Ext.setCell {a w : World} (h : Ext a w) {p : Addr} (hp : a.heap.size ≤ p.block) (u : Value) : Ext a (w.setCell p u) := Below.setCell h hp u
theorem Ext.cells {w w' : World} (h : Ext w w') : (∀ b o, b < w.heap.size → w'.cell? ⟨b, o, none⟩ = w.cell? ⟨b, o, none⟩) ∧ (∀ b o, b < w.heap.size → w'.frozen? ⟨b, o, none⟩ = w.frozen? ⟨b, o, none⟩) := bcell h
theorem Ext.grown {a w w' : World} {row : Option Nat} (h : Ext a w) (hg : w.grownBy w' row) (hr : ∀ k, row = some k → a.heap.size ≤ k) : Ext a w' :=
  Below.grown h hg (Below.size h) hr
/-- Behind a contract at a world that is an extension. -/
theorem Ext.alloc_lt (w : World) (o : Obj) : w.heap.size < (w.alloc o).heap.size := by simp

/-- The slice at p reads as the list xs; an element has k cells. -/
def Sl {α : Type} (k : Nat) (enc : α → List Value) (w : World) (p : Option Addr) (xs : List α) : Prop :=
  ∀ j (h : j < xs.length), ∃ b off, p = some ⟨b, off, none⟩ ∧ b < w.heap.size ∧ ∀ i u, (enc xs[j])[i]? = some u → w.cell? ⟨b, off + j * k + i, none⟩ = some u
section
variable {α : Type} {k : Nat} {enc : α → List Value}
theorem Sl.ext {w w' : World} {p : Option Addr} {xs : List α} (h : Sl k enc w p xs) (hb : Ext w w') : Sl k enc w' p xs := fun j hj =>
  let ⟨b, off, e, hlt, hc⟩ := h j hj
  ⟨b, off, e, Nat.lt_of_lt_of_le hlt hb.size, fun i u hu => (hb.out.cell (p := ⟨b, off + j * k + i, none⟩) hlt).trans (hc i u hu)⟩
theorem Sl.nil {w : World} {p : Option Addr} : Sl k enc w p [] := fun _ hj => absurd hj (Nat.not_lt_zero _)

theorem flat_len (he : ∀ x, (enc x).length = k) (xs : List α) : (xs.flatMap enc).length = xs.length * k := by
  induction xs with
  | nil => simp
  | cons x l ih => simp [he, ih, Nat.add_mul, Nat.add_comm]
theorem flat_at (he : ∀ x, (enc x).length = k) : ∀ (xs : List α) (j : Nat) (h : j < xs.length) (i : Nat), i < k → (xs.flatMap enc)[j * k + i]? = (enc xs[j])[i]?
  | x :: l, 0, _, i, hi => by
    simp only [List.flatMap_cons, Nat.zero_mul, Nat.zero_add, List.getElem_cons_zero]
    rw [List.getElem?_append_left (by rw [he]; exact hi)]
  | x :: l, j + 1, h, i, hi => by
    simp only [List.flatMap_cons, List.getElem_cons_succ]
    rw [List.getElem?_append_right (by rw [he, Nat.add_mul]; omega), he]
    rw [show (j + 1) * k + i - k = j * k + i by rw [Nat.add_mul]; omega]
    exact flat_at he l j (by simpa using h) i hi

/-- What the call owns reads as the list. -/
theorem Sl.of_owns (he : ∀ x, (enc x).length = k) {w : World} {base : Nat} {e : TypeId} {v : Value} {xs : List α} (h : w.ownsRow base e k v xs.length (xs.flatMap enc)) :
    ∃ p c, v = .slice p xs.length c ∧ Sl k enc w p xs := by
  have hcs := fun g hg => h.cells (g := g) hg
  obtain ⟨_, h⟩ := h
  rcases h with ⟨rfl, h0⟩ | ⟨g, cap, cur, rfl, hb, hg, hn, hm, hs, ht⟩
  · have : xs = [] := List.eq_nil_of_length_eq_zero h0
    subst this
    exact ⟨none, 0, rfl, Sl.nil⟩
  · refine ⟨some ⟨g, 0, none⟩, cap, rfl, fun j hj => ⟨g, 0, rfl, (Array.getElem?_eq_some_iff.1 hg).1, fun i u hu => ?_⟩⟩
    have hi : i < k := by
      have := (List.getElem?_eq_some_iff.1 hu).1
      rwa [he] at this
    have := hcs g rfl (j * k + i) u (by rw [flat_at he xs j hj i hi]; exact hu)
    simp only [Nat.zero_add]
    unfold Addr.add at this
    split at this <;> simp_all
end
/-- Two-cell elements of ints. -/
def enc2 (s : Int × Int) : List Value := [.int .i64 s.1, .int .i64 s.2]
theorem Sl.at2 {w : World} {p : Option Addr} {l : List (Int × Int)} (h : Sl 2 enc2 w p l) (k : Nat) (hk : k < l.length) :
    ∃ b off f t, p = some ⟨b, off, none⟩ ∧ b < w.heap.size ∧ w.cell? ⟨b, off + k * 2, none⟩ = some (.int .i64 f) ∧ w.cell? ⟨b, off + k * 2 + 1, none⟩ = some (.int .i64 t) ∧
      Hid (l.drop k = (f, t) :: l.drop (k + 1)) ∧ Hid (l[k] = (f, t)) := by
  obtain ⟨b, off, e, hb, hc⟩ := h k hk
  exact ⟨b, off, l[k].1, l[k].2, e, hb, hc 0 _ rfl, hc 1 _ rfl, List.drop_eq_getElem_cons hk, rfl⟩
theorem drop_end {α : Type} {l : List α} {k : Nat} (h : ¬ k < l.length) : l.drop k = [] := List.drop_eq_nil_of_le (by omega)

/-! ### A slice that the call owns -/
def Owns {α : Type} (B : Nat) (e : TypeId) (k : Nat) (enc : α → List Value) (w : World) (v : Value) (xs : List α) : Prop := w.ownsRow B e k v xs.length (xs.flatMap enc)
theorem Ext.grownBy {w w' : World} (h : Ext w w') : w.grownBy w' none := ⟨h.out.os, h.out.tape, h.out.output, h.out.size, fun k hk _ => h.out.block k hk⟩
section
variable {α : Type} {B : Nat} {e : TypeId} {k : Nat} {enc : α → List Value} {w w' : World} {v : Value} {xs : List α}
theorem Owns.nil : Owns B e k enc w (.slice none 0 0) [] := World.ownsRow_nil _ _ _ _
theorem Owns.ext (h : Owns B e k enc w v xs) (hx : Ext w w') : Owns B e k enc w' v xs := World.ownsRow.kept h hx.grownBy (by cases hv : v.ownBlock <;> simp)
theorem Owns.alloc (h : Owns B e k enc w v xs) (o : Obj) : Owns B e k enc (w.alloc o) v xs := h.ext ((Ext.refl w).alloc o)
theorem Owns.mono (h : Owns B e k enc w v xs) {B' : Nat} (hB : B' ≤ B) : Owns B' e k enc w v xs := by
  obtain ⟨h1, h2⟩ := h
  refine ⟨h1, ?_⟩
  rcases h2 with h2 | ⟨g, cap, cur, a1, a2, a3⟩
  · exact .inl h2
  · exact .inr ⟨g, cap, cur, a1, Nat.le_trans hB a2, a3⟩
theorem Owns.read (he : ∀ x, (enc x).length = k) (h : Owns B e k enc w v xs) : ∃ p c, v = .slice p xs.length c ∧ Sl k enc w p xs := Sl.of_owns he h
theorem Owns.row (h : Owns B e k enc w v xs) : ∀ j, v.ownBlock = some j → B ≤ j := fun j hj => (World.ownsRow.lt h j hj).1
/-- The last element of what is owned. -/
theorem Owns.snoc (he : ∀ x, (enc x).length = k) {pre : List α} {q : α} (h : Owns B e k enc w v (pre ++ [q])) :
    ∃ g c, v = .slice (some ⟨g, 0, none⟩) (pre.length + 1) c ∧ B ≤ g ∧ g < w.heap.size ∧ (∀ i u, (enc q)[i]? = some u → w.cell? ⟨g, pre.length * k + i, none⟩ = some u) ∧ (∀ j, w.frozen? ⟨g, j, none⟩ = false) ∧ ((pre ++ [q]).flatMap enc).length = (pre.length + 1) * k := by
  have hl := h.1
  obtain ⟨p, c, hv, hs⟩ := h.read he
  have h' := h
  unfold Owns at h'
  rcases h.2 with ⟨rfl, h0⟩ | ⟨g, cap, cur, rfl, hb, hg, hn, hm, hcs, ht⟩
  · simp at h0
  · have hlen : (pre ++ [q]).length = pre.length + 1 := by simp
    refine ⟨g, cap, by rw [hlen], hb, (Array.getElem?_eq_some_iff.1 hg).1, fun i u hu => ?_, fun j => World.ownsRow.frozenAt h' j, by rw [hl, hlen]⟩
    obtain ⟨b, off, hp, _, hc⟩ := hs pre.length (by simp)
    simp only [Value.slice.injEq] at hv
    rw [← hv.1] at hp
    simp only [Option.some.injEq, Addr.mk.injEq] at hp
    have := hc i u (by simpa using hu)
    rw [← hp.1, ← hp.2.1] at this
    simpa using this
/-- One cell of what is owned is written. -/
theorem Owns.store {g c n j : Nat} {u : Value} {ys : List α} (h : Owns B e k enc w (.slice (some ⟨g, 0, none⟩) n c) xs) (hn : xs.length = n) (hy : ys.length = n) (hl : ys.flatMap enc = (xs.flatMap enc).set j u) :
    Owns B e k enc (w.setCell ⟨g, j, none⟩ u) (.slice (some ⟨g, 0, none⟩) n c) ys := by
  unfold Owns at *
  rw [hy, hl]
  rw [hn] at h
  exact (World.ownsRow.stored h j u).1
end
theorem flat2_set (pre : List (Int × Int)) (q : Int × Int) (t : Int) : (pre ++ [(q.1, t)]).flatMap enc2 = ((pre ++ [q]).flatMap enc2).set (pre.length * 2 + 1) (.int .i64 t) := by
  have := flat_len (k := 2) (enc := enc2) (fun _ => rfl) pre
  rw [List.flatMap_append, List.flatMap_append, List.set_append, if_neg (by omega)]
  congr 1
  rw [show pre.length * 2 + 1 - (pre.flatMap enc2).length = 1 by omega]
  rfl
theorem new_cells {w : World} {cs : Array Value} {T : TypeId} {b : Nat} (hb : b = w.heap.size) : ∀ i u, cs[i]? = some u → (w.alloc (.cells cs T)).cell? ((⟨b, 0, none⟩ : Addr).add i) = some u := by
  intro i u hu
  subst hb
  have hadd : (⟨w.heap.size, 0, none⟩ : Addr).add i = ⟨w.heap.size, i, none⟩ := by unfold Addr.add; split <;> simp_all
  rw [hadd, cell_of_row (w.alloc (.cells cs T)) w.heap.size i cs T (0, 0) (heap_alloc_new w _)]
  exact hu
/-- append(out, x) on what the call owns. -/
theorem wpList_append_one {P : Program} {ops : Array Oper} {rest : List Oper} {o : Oper} {a : Act} {Q : Exit → Act → World → Prop} {w w0 : World} {α : Type} {k : Nat} {enc : α → List Value}
    (hgd : o.guard = none) (s x : Operand) (t e : TypeId) (bytes : Nat) (z : Value) (he : ∀ x, (enc x).length = k) (h1 : ∀ x, ∀ u ∈ enc x, u.oneCell' = true) (hk : 0 < k)
    (ho : o.op = .call { callee := .builtin .append, args := #[s, x], argTypes := #[t, t] }) (ht : P.underlying t = some (.slice e))
    (hinfo : (P.info? e).map (fun i => (i.zero, i.size, i.bytes)) = some (some z, k, bytes)) (hzs : z.cells.size = k)
    {v : Value} (xs : List α) (y : α) (hown : Owns w0.heap.size e k enc w v xs) (hext : Ext w0 w) (b : Nat) (c : Nat)
    (hs : a.eval s = v) (hx : a.eval x = .slice (some ⟨b, 0, none⟩) 1 c) (hb : b = w.heap.size) (hlen : (xs.length + 1) * bytes ≤ 140737488355328) (hlen2 : xs.length < 9223372036854775807)
    (h : ∀ v' w', Owns w0.heap.size e k enc w' v' (xs ++ [y]) → Ext w0 w' → (w.alloc (.cells (enc y).toArray e)).grownBy w' v.ownBlock → wpList P ops Q rest (a.put o.dst v') w') : wpList P ops Q (o :: rest) a (w.alloc (.cells (enc y).toArray e)) := by
  obtain ⟨i0, hi, hz0, hz1, hz2⟩ := info_parts hinfo
  have hown2 := hown.alloc (.cells (enc y).toArray e)
  refine wpList_append_own _ hgd s x t ho w0.heap.size e i0 z k bytes ht hi hz0 hz1 hz2 hzs hk v xs.length _ hs hown2 ⟨b, 0, none⟩ 1 c (enc y) hx (by rw [he]; omega) (fun i u hu => new_cells hb i u (by simpa using hu)) (h1 y) (by unfold maxLen; omega) hlen (hext.alloc _).size ?_
  intro v' w' hown' hgrow _
  refine h v' w' ?_ ((hext.alloc _).grown hgrow fun j hj => (World.ownsRow.lt hown j hj).1) hgrow
  unfold Owns
  simpa [List.flatMap_append] using hown'
theorem Sl.addr {α : Type} {k : Nat} {enc : α → List Value} {w : World} {p : Option Addr} {xs : List α} (h : Sl k enc w p xs) (hne : xs ≠ []) :
    ∃ b off, p = some ⟨b, off, none⟩ ∧ b < w.heap.size ∧ ∀ j (h : j < xs.length) i u, (enc xs[j])[i]? = some u → w.cell? ⟨b, off + j * k + i, none⟩ = some u := by
  obtain ⟨b, off, e, hb, _⟩ := h 0 (List.length_pos_iff.2 hne)
  refine ⟨b, off, e, hb, fun j hj i u hu => ?_⟩
  obtain ⟨b', off', e', _, hc⟩ := h j hj
  rw [e] at e'
  simp only [Option.some.injEq, Addr.mk.injEq] at e'
  rw [e'.1, e'.2.1]
  exact hc i u hu
theorem Sl.flat {α : Type} {k : Nat} {enc : α → List Value} (he : ∀ x, (enc x).length = k) {w : World} {b off : Nat} {xs : List α}
    (h : ∀ j (h : j < xs.length) i u, (enc xs[j])[i]? = some u → w.cell? ⟨b, off + j * k + i, none⟩ = some u) : ∀ j u, (xs.flatMap enc)[j]? = some u → w.cell? ((⟨b, off, none⟩ : Addr).add j) = some u := by
  intro j u hu
  have hl := (List.getElem?_eq_some_iff.1 hu).1
  rw [flat_len he] at hl
  have hk : 0 < k := by
    rcases Nat.eq_zero_or_pos k with h0 | h0
    · rw [h0] at hl; simp at hl
    · exact h0
  have hq : j / k < xs.length := by rw [Nat.div_lt_iff_lt_mul hk]; exact hl
  have hdm : j / k * k + j % k = j := by rw [Nat.mul_comm]; exact Nat.div_add_mod j k
  have := flat_at he xs (j / k) hq (j % k) (Nat.mod_lt _ hk)
  rw [hdm] at this
  have h2 := h (j / k) hq (j % k) u (by rw [← this]; exact hu)
  rw [Nat.add_assoc, hdm] at h2
  have hadd : (⟨b, off, none⟩ : Addr).add j = ⟨b, off + j, none⟩ := by unfold Addr.add; split <;> simp_all
  rw [hadd]; exact h2
theorem Sl.news {α : Type} {k : Nat} {enc : α → List Value} (he : ∀ x, (enc x).length = k) {w : World} {a : Addr} {xs : List α} (h : Sl k enc w (some a) xs) : ∀ j u, (xs.flatMap enc)[j]? = some u → w.cell? (a.add j) = some u := by
  intro j u hu
  by_cases hne : xs = []
  · subst hne; simp at hu
  · obtain ⟨b, off, e, _, hc⟩ := h.addr hne
    simp only [Option.some.injEq] at e
    subst e
    exact Sl.flat he hc j u hu
theorem Sl.of_none {α : Type} {k : Nat} {enc : α → List Value} {w : World} {xs : List α} (h : Sl k enc w none xs) : xs = [] := by
  cases xs with
  | nil => rfl
  | cons x xs => obtain ⟨b, off, e, _⟩ := h 0 (by simp); cases e
/-- append(out, ys...) on what the call owns, from a slice that is not nil. -/
theorem wpList_append_many {P : Program} {ops : Array Oper} {rest : List Oper} {o : Oper} {a : Act} {Q : Exit → Act → World → Prop} {w w0 : World} {α : Type} {k : Nat} {enc : α → List Value}
    (hgd : o.guard = none) (s x : Operand) (t e : TypeId) (bytes : Nat) (z : Value) (he : ∀ x, (enc x).length = k) (h1 : ∀ x, ∀ u ∈ enc x, u.oneCell' = true) (hk : 0 < k)
    (ho : o.op = .call { callee := .builtin .append, args := #[s, x], argTypes := #[t, t] }) (ht : P.underlying t = some (.slice e))
    (hinfo : (P.info? e).map (fun i => (i.zero, i.size, i.bytes)) = some (some z, k, bytes)) (hzs : z.cells.size = k)
    {v : Value} (xs ys : List α) (hown : Owns w0.heap.size e k enc w v xs) (hext : Ext w0 w) (ad : Addr) (c : Nat)
    (hs : a.eval s = v) (hx : a.eval x = .slice (some ad) ys.length c) (hys : Sl k enc w (some ad) ys) (hlen : (xs.length + ys.length) * bytes ≤ 140737488355328) (hlen2 : xs.length + ys.length ≤ 9223372036854775807)
    (h : ∀ v' w', Owns w0.heap.size e k enc w' v' (xs ++ ys) → Ext w0 w' → w.grownBy w' v.ownBlock → wpList P ops Q rest (a.put o.dst v') w') : wpList P ops Q (o :: rest) a w := by
  obtain ⟨i0, hi, hz0, hz1, hz2⟩ := info_parts hinfo
  refine wpList_append_own _ hgd s x t ho w0.heap.size e i0 z k bytes ht hi hz0 hz1 hz2 hzs hk v xs.length _ hs hown ad ys.length c (ys.flatMap enc) hx (flat_len he ys) (hys.news he) (fun u hu => ?_) (by unfold maxLen; omega) hlen hext.size ?_
  · obtain ⟨y, _, hy⟩ := List.mem_flatMap.1 hu
    exact h1 y u hy
  intro v' w' hown' hgrow _
  refine h v' w' ?_ (hext.grown hgrow fun j hj => (World.ownsRow.lt hown j hj).1) hgrow
  unfold Owns
  rw [List.length_append, List.flatMap_append]
  exact hown'
/-- A new empty slice that is not nil. -/
theorem Owns.empty {α : Type} {B : Nat} {e : TypeId} {k : Nat} {enc : α → List Value} {w : World} (hB : B ≤ w.heap.size) : Owns B e k enc (w.alloc (.cells #[] e)) (.slice (some ⟨w.heap.size, 0, none⟩) 0 0) ([] : List α) :=
  World.ownsRow_made w #[] 0 hB (Nat.zero_le _) (by simp)
theorem Owns.not_row {α : Type} {B : Nat} {e e' : TypeId} {k n : Nat} {enc : α → List Value} {w : World} {v : Value} {xs : List α} {c : Array Value} {fr : Nat × Nat} (h : Owns B e k enc w v xs)
    (hb : w.heap[n]? = some (.cells c e' fr)) (hne : e' ≠ e) : some n ≠ v.ownBlock := by
  rcases h.2 with ⟨rfl, _⟩ | ⟨g, cap, cur, rfl, _, hg, _⟩
  · simp [Value.ownBlock]
  · simp only [Value.ownBlock, ne_eq, Option.some.injEq]
    intro hgn; subst hgn
    rw [hb] at hg; cases hg; exact hne rfl
theorem Owns.is_cells {α : Type} {B : Nat} {e : TypeId} {k : Nat} {enc : α → List Value} {w : World} {v : Value} {xs : List α} (h : Owns B e k enc w v xs) : ∀ (j : Nat) (o : Obj), v.ownBlock = some j → w.heap[j]? = some o → ∃ c e' fr, o = .cells c e' fr := by
  intro j o hj ho
  rcases h.2 with ⟨rfl, _⟩ | ⟨g, cap, cur, rfl, _, hg, _⟩
  · simp [Value.ownBlock] at hj
  · simp only [Value.ownBlock, Option.some.injEq] at hj
    subst hj
    rw [hg] at ho; cases ho; exact ⟨_, _, _, rfl⟩
theorem Owns.cons_shape {α : Type} {B : Nat} {e : TypeId} {k : Nat} {enc : α → List Value} {w : World} {v : Value} {xs : List α} {x : α} (h : Owns B e k enc w v (xs ++ [x])) : ∃ g c, v = .slice (some ⟨g, 0, none⟩) (xs.length + 1) c := by
  rcases h.2 with ⟨_, h0⟩ | ⟨g, cap, cur, rfl, _⟩
  · simp at h0
  · exact ⟨g, cap, by simp⟩
/-- A cell of another block, of another element type, is written. -/
theorem Owns.other {α : Type} {B : Nat} {e e' : TypeId} {k n j : Nat} {enc : α → List Value} {w : World} {v u : Value} {xs : List α} {c : Array Value} {fr : Nat × Nat} (h : Owns B e k enc w v xs)
    (hb : w.heap[n]? = some (.cells c e' fr)) (hne : e' ≠ e) : Owns B e k enc (w.setCell ⟨n, j, none⟩ u) v xs := by
  refine World.ownsRow.kept h (row := some n) ⟨rfl, rfl, rfl, by simp, fun i _ hi => heap_setCell_other w ⟨n, j, none⟩ i u (fun e => hi (by rw [e]))⟩ ?_
  rcases h.2 with ⟨rfl, _⟩ | ⟨g, cap, cur, rfl, _, hg, _⟩
  · exact .inl rfl
  · refine .inr ?_
    simp only [Value.ownBlock, ne_eq, Option.some.injEq]
    intro hgn; subst hgn
    rw [hb] at hg; cases hg; exact hne rfl
theorem heap_ext {w w' : World} {k : Nat} {o : Obj} (h : w.heap[k]? = some o) (hx : Ext w w') : w'.heap[k]? = some o := (hx.out.block k (Array.getElem?_eq_some_iff.1 h).1).trans h
theorem heap_other {w : World} {k n j : Nat} {o : Obj} {u : Value} (h : w.heap[k]? = some o) (hn : k ≠ n) : (w.setCell ⟨n, j, none⟩ u).heap[k]? = some o := (heap_setCell_other w ⟨n, j, none⟩ k u hn).trans h
theorem heap_same {w : World} {k j : Nat} {c : Array Value} {e : TypeId} {fr : Nat × Nat} {u : Value} (h : w.heap[k]? = some (.cells c e fr)) : (w.setCell ⟨k, j, none⟩ u).heap[k]? = some (.cells (c.setIfInBounds j u) e fr) := by
  simp [World.setCell, Array.getElem?_modify, h]
theorem cell_of {w : World} {k j : Nat} {c : Array Value} {e : TypeId} {fr : Nat × Nat} (h : w.heap[k]? = some (.cells c e fr)) : w.cell? ⟨k, j, none⟩ = c[j]? := by simp [World.cell?, h]
theorem frozen_of {w : World} {k j : Nat} {c : Array Value} {e : TypeId} (h : w.heap[k]? = some (.cells c e (0, 0))) : w.frozen? ⟨k, j, none⟩ = false := by simp [World.frozen?, h]
theorem lt_of {w : World} {k : Nat} {o : Obj} (h : w.heap[k]? = some o) : k < w.heap.size := (Array.getElem?_eq_some_iff.1 h).1
theorem heap_alloc (w : World) (o : Obj) (k : Nat) : (w.alloc o).heap[k]? = if k = w.heap.size then some o else w.heap[k]? := Array.getElem?_push
theorem heap_new (w : World) (o : Obj) : (w.alloc o).heap[w.heap.size]? = some o := heap_alloc_new w o
end Go.Proofs.YtalconpcpegmlaaDoor
