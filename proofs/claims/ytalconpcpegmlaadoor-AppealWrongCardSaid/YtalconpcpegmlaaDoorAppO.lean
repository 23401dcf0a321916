import Derived.Test.YtalconpcpegmlaaDoorAppM
import Derived.Test.YtalconpcpegmlaaDoorAppU
import Derived.Deep.MidRow
/- A docket in memory: its cases, their held days; what stays as it was. -/
namespace Go.Proofs.YtalconpcpegmlaaDoor
set_option linter.unusedVariables false
open Go.RowKit

/-- A case, and where its held days lie. -/
abbrev Cv := Cs × Option Addr × Nat
def encC (x : Cv) : List Value := [.bool x.1.el, .int .u8 x.1.st, .int .i64 x.1.op, .int .i64 x.1.dy, .int .i64 x.1.ch, .int .i64 x.1.lv, .int .i64 x.1.due, .bool x.1.hd, .int .i64 x.1.sn, .slice x.2.1 x.1.held.length x.2.2]
theorem encC_len (x : Cv) : (encC x).length = 10 := rfl
theorem encC_one (x : Cv) : ∀ u ∈ encC x, u.oneCell' = true := by simp [encC, Value.oneCell']
theorem infoC : (Tryd.prog.info? 39).map (fun i => (i.zero, i.size, i.bytes)) = some (some (.agg #[.bool false, .int .u8 0, .int .i64 0, .int .i64 0, .int .i64 0, .int .i64 0, .int .i64 0, .bool false, .int .i64 0, .slice none 0 0]), 10, 88) := by kernel_rfl
/-- All blocks of other types than those named are as they were. -/
structure Apart (ts : List TypeId) (w w' : World) : Prop where
  size : w.heap.size ≤ w'.heap.size
  at' : ∀ (k : Nat) (c : Array Value) (e : TypeId) (fr : Nat × Nat), e ∉ ts → w.heap[k]? = some (.cells c e fr) → w'.heap[k]? = some (.cells c e fr)
section
variable {ts : List TypeId} {a w w' : World}
theorem Apart.refl (w : World) : Apart ts w w := ⟨Nat.le_refl _, fun _ _ _ _ _ h => h⟩
theorem Apart.trans (h : Apart ts a w) (k : Apart ts w w') : Apart ts a w' := ⟨Nat.le_trans h.size k.size, fun n c e fr he h0 => k.at' n c e fr he (h.at' n c e fr he h0)⟩
theorem Ext.apart (h : Ext w w') : Apart ts w w' := ⟨h.size, fun _ _ _ _ _ h0 => heap_ext h0 h⟩
theorem Apart.setCell {b j : Nat} {c : Array Value} {e : TypeId} {fr : Nat × Nat} (h : w.heap[b]? = some (.cells c e fr)) (he : e ∈ ts) (u : Value) : Apart ts w (w.setCell ⟨b, j, none⟩ u) :=
  ⟨by simp, fun k c' e' fr' he' h0 => heap_other h0 (fun hk => by subst hk; rw [h] at h0; cases h0; exact he' he)⟩
theorem Apart.setCells {b : Nat} {e : TypeId} (he : e ∈ ts) : ∀ (vs : List Value) (j : Nat) (w : World) (c : Array Value) (fr : Nat × Nat), w.heap[b]? = some (.cells c e fr) → Apart ts w (w.setCells b j vs)
  | [], _, w, _, _, _ => Apart.refl w
  | v :: vs, j, w, c, fr, h => (Apart.setCell h he v).trans (Apart.setCells he vs (j + 1) _ _ fr (heap_same h))
theorem Apart.setRow {b : Nat} {c : Array Value} {e : TypeId} {fr : Nat × Nat} (h : w.heap[b]? = some (.cells c e fr)) (he : e ∈ ts) (cs : Array Value) : Apart ts w (w.setRow b cs) :=
  ⟨by simp [World.setRow], fun k c' e' fr' he' h0 => (setRow_other w b k cs (fun hk => by subst hk; rw [h] at h0; cases h0; exact he' he)).trans h0⟩
theorem Apart.grown {row : Option Nat} (hg : w.grownBy w' row) (hr : ∀ g, row = some g → ∃ c e fr, w.heap[g]? = some (.cells c e fr) ∧ e ∈ ts) : Apart ts w w' :=
  ⟨hg.size, fun k c e fr he h0 => (hg.block k (lt_of h0) (fun hk => by
    obtain ⟨c', e', fr', h1, h2⟩ := hr k hk.symm
    rw [h1] at h0; cases h0; exact he h2)).trans h0⟩
theorem Apart.mono {ts' : List TypeId} (h : Apart ts w w') (hs : ∀ e ∈ ts, e ∈ ts') : Apart ts' w w' := ⟨h.size, fun k c e fr he h0 => h.at' k c e fr (fun hh => he (hs e hh)) h0⟩
theorem Owns.aside {α : Type} {B : Nat} {e : TypeId} {k : Nat} {enc : α → List Value} {v : Value} {xs : List α} (h : Owns B e k enc w v xs) (ha : Apart ts w w') (he : e ∉ ts) : Owns B e k enc w' v xs := by
  obtain ⟨h1, h2⟩ := h
  refine ⟨h1, ?_⟩
  rcases h2 with h2 | ⟨g, cap, cur, a1, a2, a3, a4⟩
  · exact .inl h2
  · exact .inr ⟨g, cap, cur, a1, a2, ha.at' _ _ _ _ he a3, a4⟩
theorem Owns.typed {α : Type} {B : Nat} {e : TypeId} {k : Nat} {enc : α → List Value} {v : Value} {xs : List α} (h : Owns B e k enc w v xs) : ∀ g, v.ownBlock = some g → ∃ c fr, w.heap[g]? = some (.cells c e fr) := by
  intro g hg
  rcases h.2 with ⟨rfl, _⟩ | ⟨g', cap, cur, rfl, _, hg', _⟩
  · cases hg
  · simp only [Value.ownBlock, Option.some.injEq] at hg
    subst hg
    exact ⟨cur, _, hg'⟩
end
theorem Sl.litAny {α : Type} {k : Nat} {enc : α → List Value} (he : ∀ x, (enc x).length = k) {w : World} {T : TypeId} {b : Nat} (xs : List α) (hb : b = w.heap.size) : Sl k enc (w.alloc (.cells (xs.flatMap enc).toArray T)) (some ⟨b, 0, none⟩) xs := by
  subst hb
  intro j hj
  refine ⟨w.heap.size, 0, rfl, by simp, fun i u hu => ?_⟩
  have hi : i < k := by have := (List.getElem?_eq_some_iff.1 hu).1; rwa [he] at this
  rw [cell_of (heap_new w _), Nat.zero_add, List.getElem?_toArray, flat_at he xs j hj i hi]
  exact hu
/-- The held days of cases, each the call's own. -/
def Helds (N : Nat) (w : World) (xs : List Cv) : Prop := ∀ x ∈ xs, Owns N 57 2 enc2 w (.slice x.2.1 x.1.held.length x.2.2) x.1.held
section
variable {N : Nat} {w w' : World} {xs : List Cv}
theorem Helds.ext (h : Helds N w xs) (hx : Ext w w') : Helds N w' xs := fun x hx' => (h x hx').ext hx
theorem Helds.aside {ts : List TypeId} (h : Helds N w xs) (ha : Apart ts w w') (he : 57 ∉ ts) : Helds N w' xs := fun x hx' => (h x hx').aside ha he
theorem Helds.snoc (h : Helds N w xs) {x : Cv} (hx : Owns N 57 2 enc2 w (.slice x.2.1 x.1.held.length x.2.2) x.1.held) : Helds N w (xs ++ [x]) := fun y hy => by
  rcases List.mem_append.1 hy with hy | hy
  · exact h y hy
  · rw [List.mem_singleton] at hy; subst hy; exact hx
theorem Helds.set (h : Helds N w xs) {k : Nat} {x : Cv} (hx : Owns N 57 2 enc2 w (.slice x.2.1 x.1.held.length x.2.2) x.1.held) : Helds N w (xs.set k x) := fun y hy => by
  rcases List.mem_or_eq_of_mem_set hy with hy | rfl
  · exact h y hy
  · exact hx
theorem Helds.sl (h : Helds N w xs) {x : Cv} (hx : x ∈ xs) : Sl 2 enc2 w x.2.1 x.1.held := (h x hx).slOf enc2_len
end
/-- A docket at a block: its cases, the last day. -/
structure Dock (N b : Nat) (w : World) (p : Option Addr) (cap : Nat) (xs : List Cv) (last : Int) : Prop where
  le : N ≤ b
  row : w.heap[b]? = some (.cells #[.slice p xs.length cap, .int .i64 last] 68 (0, 0))
  own : Owns N 39 10 encC w (.slice p xs.length cap) xs
  held : Helds N w xs
theorem Dock.ext {N b : Nat} {w w' : World} {p : Option Addr} {cap : Nat} {xs : List Cv} {last : Int} (h : Dock N b w p cap xs last) (hx : Ext w w') : Dock N b w' p cap xs last :=
  ⟨h.le, heap_ext h.row hx, h.own.ext hx, h.held.ext hx⟩
/-- What filing leaves. -/
def RdF (N : Nat) (w0 w w' : World) (b : Nat) (d : List Cs × Int) (er : Int) (e : Ending) : Prop :=
  ∃ p cap xs, e = .returned (.int .i64 er) ∧ xs.map (·.1) = d.1 ∧ Dock N b w' p cap xs d.2 ∧ Ext w0 w' ∧ Apart [39, 68] w w'
theorem RdF.same {N : Nat} {w0 w w' : World} {b : Nat} {p : Option Addr} {cap : Nat} {xs : List Cv} {last er : Int} {e : Ending} (h : Dock N b w p cap xs last) (h0 : Ext w0 w) (he : e = .returned (.int .i64 er)) (hx : Ext w w') : RdF N w0 w w' b (xs.map (·.1), last) er e :=
  ⟨p, cap, xs, he, rfl, h.ext hx, h0.trans hx, hx.apart⟩
/-! ### A whole element is written -/
def setL {α : Type} : List α → Nat → List α → List α
  | L, _, [] => L
  | L, o, v :: vs => setL (L.set o v) (o + 1) vs
theorem setL_app {α : Type} : ∀ (vs : List α) (A L C : List α), L.length = vs.length → setL (A ++ L ++ C) A.length vs = A ++ vs ++ C
  | [], A, L, C, h => by rw [List.eq_nil_of_length_eq_zero h]; rfl
  | v :: vs, A, L, C, h => by
    match L, h with
    | x :: L, h =>
      simp only [List.length_cons] at h
      have e1 : (A ++ x :: L ++ C).set A.length v = (A ++ [v]) ++ L ++ C := by
        rw [List.append_assoc, List.set_append_right _ _ (Nat.le_refl _), Nat.sub_self]; simp
      show setL ((A ++ x :: L ++ C).set A.length v) (A.length + 1) vs = _
      rw [e1]
      have := setL_app vs (A ++ [v]) L C (by omega)
      rw [List.length_append, List.length_singleton] at this
      rw [this]; simp
theorem setL_flat {α β : Type} {k : Nat} {enc : α → List β} (he : ∀ x, (enc x).length = k) {xs : List α} {j : Nat} (hj : j < xs.length) (y : α) : setL (xs.flatMap enc) (j * k) (enc y) = (xs.set j y).flatMap enc := by
  have hlen : ∀ l : List α, (l.flatMap enc).length = l.length * k := fun l => by
    induction l with
    | nil => simp
    | cons x l ih => simp [he, ih, Nat.add_mul, Nat.add_comm]
  have e : xs = xs.take j ++ xs[j] :: xs.drop (j + 1) := by rw [List.getElem_cons_drop, List.take_append_drop]
  have e2 : xs.set j y = xs.take j ++ y :: xs.drop (j + 1) := by
    conv => lhs; rw [e]
    have hl : (xs.take j).length = j := by rw [List.length_take, Nat.min_eq_left (by omega)]
    rw [List.set_append_right _ _ (by omega), hl, Nat.sub_self]; rfl
  rw [e2]
  conv => lhs; rw [e]
  rw [List.flatMap_append, List.flatMap_cons, List.flatMap_append, List.flatMap_cons, ← List.append_assoc, ← List.append_assoc]
  have hA : ((xs.take j).flatMap enc).length = j * k := by rw [hlen, List.length_take, Nat.min_eq_left (by omega)]
  rw [← hA]
  exact setL_app (enc y) _ (enc xs[j]) _ (by rw [he, he])
theorem rows_setCells {base : Nat} {e : TypeId} {size n cap g : Nat} : ∀ (vs : List Value) (o : Nat) (w : World) (L : List Value), w.ownsRow base e size (.slice (some ⟨g, 0, none⟩) n cap) n L →
    (w.setCells g o vs).ownsRow base e size (.slice (some ⟨g, 0, none⟩) n cap) n (setL L o vs)
  | [], _, _, _, h => h
  | v :: vs, o, w, L, h => rows_setCells vs (o + 1) _ _ (World.ownsRow.stored h o v).1
theorem Owns.setCells {α : Type} {B : Nat} {e : TypeId} {k : Nat} {enc : α → List Value} (he : ∀ x, (enc x).length = k) {w : World} {g n cap : Nat} {xs : List α} (h : Owns B e k enc w (.slice (some ⟨g, 0, none⟩) n cap) xs) (hn : xs.length = n) {j : Nat} (hj : j < n) (y : α) :
    Owns B e k enc (w.setCells g (j * k) (enc y)) (.slice (some ⟨g, 0, none⟩) n cap) (xs.set j y) := by
  unfold Owns at *
  rw [List.length_set, hn, ← setL_flat he (by omega) y]
  rw [hn] at h
  exact rows_setCells _ _ _ _ h
theorem ext_setCells {a : World} {g : Nat} (hg : a.heap.size ≤ g) : ∀ (vs : List Value) (o : Nat) (w : World), Ext a w → Ext a (w.setCells g o vs)
  | [], _, _, h => h
  | v :: vs, o, _, h => ext_setCells hg vs (o + 1) _ (h.setCell hg v)
/-- Where the elements of an owned slice lie. -/
theorem Owns.place {α : Type} {B : Nat} {e : TypeId} {k : Nat} {enc : α → List Value} (he : ∀ x, (enc x).length = k) {w : World} {p : Option Addr} {cap : Nat} {xs : List α} (h : Owns B e k enc w (.slice p xs.length cap) xs) {j : Nat} (hj : j < xs.length) :
    ∃ g c, p = some ⟨g, 0, none⟩ ∧ B ≤ g ∧ w.heap[g]? = some (.cells c e (0, 0)) ∧ ∀ j (hj : j < xs.length) i u, (enc xs[j])[i]? = some u → w.cell? ⟨g, j * k + i, none⟩ = some u := by
  have hs := h.slOf he
  rcases h.2 with ⟨h0, h1⟩ | ⟨g, cap', cur, h0, hB, hg, _⟩
  · omega
  · simp only [Value.slice.injEq] at h0
    refine ⟨g, cur, h0.1, hB, hg, fun j hj i u hu => ?_⟩
    obtain ⟨b, off, hp, _, hc⟩ := hs j hj
    rw [h0.1] at hp
    simp only [Option.some.injEq, Addr.mk.injEq] at hp
    have := hc i u hu
    rw [← hp.1, ← hp.2.1, Nat.zero_add] at this
    exact this
theorem cells6 {w : World} {b : Nat} {T : TypeId} {fr : Nat × Nat} {x0 x1 x2 x3 x4 x5 : Value} (h : w.heap[b]? = some (.cells #[x0, x1, x2, x3, x4, x5] T fr)) :
    w.cell? ⟨b, 0, none⟩ = some x0 ∧ w.cell? ⟨b, 1, none⟩ = some x1 ∧ w.cell? ⟨b, 2, none⟩ = some x2 ∧ w.cell? ⟨b, 3, none⟩ = some x3 ∧ w.cell? ⟨b, 4, none⟩ = some x4 ∧ w.cell? ⟨b, 5, none⟩ = some x5 :=
  ⟨(cell_of h).trans rfl, (cell_of h).trans rfl, (cell_of h).trans rfl, (cell_of h).trans rfl, (cell_of h).trans rfl, (cell_of h).trans rfl⟩
end Go.Proofs.YtalconpcpegmlaaDoor
