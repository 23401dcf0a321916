/- A range over a function, the iterator's own state carried along. No program in sight. -/
import Derived.RangeFuncNested
import Derived.RangeFuncBound
import Derived.RangeFuncCalls
import Derived.RangeFuncLeaves
import Derived.OwnWalkIn
import Derived.Test.YtalconpcpegmlaaDoorLib
namespace Go.Proofs.YtalconpcpegmlaaDoor
open Go.RowKit

/-- It abides the turn of a block that is no cells and lies from B on. -/
def Tk (B : Nat) (p : World → Prop) : Prop := ∀ (W : World) (l : Nat) (o o' : Obj), B ≤ l → W.heap[l]? = some o → o.isCells = false → p W → p (W.putObj l o')
theorem Tk.and {B : Nat} {p q : World → Prop} (hp : Tk B p) (hq : Tk B q) : Tk B (fun W => p W ∧ q W) := fun W l o o' h1 h2 h3 h => ⟨hp W l o o' h1 h2 h3 h.1, hq W l o o' h1 h2 h3 h.2⟩
theorem Tk.const {B : Nat} (p : Prop) : Tk B (fun _ => p) := fun _ _ _ _ _ _ _ h => h
theorem Tk.ex {α : Type} {B : Nat} {p : α → World → Prop} (hp : ∀ x, Tk B (p x)) : Tk B (fun W => ∃ x, p x W) := fun W l o o' h1 h2 h3 ⟨x, h⟩ => ⟨x, hp x W l o o' h1 h2 h3 h⟩
theorem Tk.block {B b : Nat} {c : Array Value} {e : TypeId} {fr : Nat × Nat} : Tk B (fun W => W.heap[b]? = some (.cells c e fr)) := fun W l o o' _ h2 h3 h => by
  have hne : b ≠ l := by
    intro hbl; subst hbl
    have h' : W.heap[b]? = some (.cells c e fr) := h
    rw [h'] at h2; cases h2; simp [Obj.isCells] at h3
  exact (World.putObj_heap_other hne).trans h
theorem Tk.ext {B : Nat} {w : World} (hB : w.heap.size ≤ B) : Tk B (fun W => Ext w W) := fun W l _ o' h1 _ _ h =>
  h.grown (grownBy_putObj' W l o') (fun k e => by cases e; omega)
theorem Tk.owns {α : Type} {B b k : Nat} {e : TypeId} {enc : α → List Value} {v : Value} {xs : List α} : Tk B (fun W => Owns b e k enc W v xs) := fun _ _ _ o' _ h2 h3 h => ownsRow_putObj h o' h2 h3
theorem KeepsFrom.of_ext {B : Nat} {W W' : World} (h : Ext W W') : KeepsFrom B W W' := ⟨h.size, fun k _ _ hk _ => (h.out.block k (Array.getElem?_eq_some_iff.1 hk).1).trans hk⟩

/-- The loop's own two records, as an iterator and a body see them. -/
structure IsRec (Rec : World → Prop) : Prop where
  ext : ∀ W W', Rec W → Ext W W' → Rec W'
  set : ∀ W a v, Rec W → Rec (W.setCell a v)
theorem heap_setCell_notCells {W : World} {k : Nat} {o : Obj} (h : W.heap[k]? = some o) (ho : o.isCells = false) (a : Addr) (v : Value) : (W.setCell a v).heap[k]? = some o := (KeepsOthers.setCell W a v).same k o h ho
theorem isRec_of {l D : Nat} {o o2 : Obj} (h1 : o.isCells = false) (h2 : o2.isCells = false) : IsRec (fun W => W.heap[l]? = some o ∧ W.heap[D]? = some o2) :=
  ⟨fun _ _ h hx => ⟨(hx.out.block l (Array.getElem?_eq_some_iff.1 h.1).1).trans h.1, (hx.out.block D (Array.getElem?_eq_some_iff.1 h.2).1).trans h.2⟩,
   fun _ a v h => ⟨heap_setCell_notCells h.1 h1 a v, heap_setCell_notCells h.2 h2 a v⟩⟩

def bodyOut {σ α : Type} (B : Nat) (R : σ → α → σ → Prop) (Af : σ → World → Prop) (Ax : Code → World → Prop) (s : σ) (x : α) (W : World) : Exit → Act → World → Prop
  | .normal, _, W' => KeepsFrom B W W' ∧ ∃ s', R s x s' ∧ Af s' W'
  | .ret, _, W' => KeepsFrom B W W' ∧ Ax .ret W'
  | .exit id, _, W' => KeepsFrom B W W' ∧ Ax (.exit id) W'
  | .goto t, _, W' => KeepsFrom B W W' ∧ Ax (.goto t) W'
  | .panic _, _, _ => False
  | .outgrown, _, _ => False

theorem wpIn_rangeFunc_run {σ α : Type} {F : Fence} {n : Nat} {P : Program} {g : Operand} {ps : Array Tmp} {assign body : Code} {Q : Exit → Act → World → Prop} {a : Act} {w : World}
    (hro : F.round = none) (h1 : 1 ≤ n) {gf : Nat} {lb : Array Value} (hg : a.eval g = .func (.func gf) #[] lb) (hFg : F.fn gf) (eg : ∀ args w, (callFunc gf args).run P w = .ok (.enter gf args) w)
    (encs : α → Array Value) (hps : ∀ x, (encs x).size = ps.size)
    (R : σ → α → σ → Prop) (At : σ → α → World → Prop) (Af : σ → World → Prop) (Ax : Code → World → Prop) (Fin : World → Prop)
    (tAt : ∀ s x, Tk w.heap.size (At s x)) (tAf : ∀ s, Tk w.heap.size (Af s)) (tAx : ∀ c, Tk w.heap.size (Ax c)) (tFin : Tk w.heap.size Fin) (a₁ : α → Act)
    (hassign : ∀ (l : Nat) (x : α) (W : World) (K : Act → World → Prop), K (a₁ x) W →
      assign.wpIn (F.inRound l) (n - 1 - 1) P (Exit.then K (fun _ _ _ => False)) { tmps := (ps.zip (encs x)).foldl (fun t (p, v) => t.setIfInBounds p v) a.tmps, defers := [] } W)
    (hbody : ∀ (l : Nat) (s : σ) (x : α) (W : World), At s x W → body.wpIn (F.inRound l) (n - 1 - 1) P (bodyOut w.heap.size R Af Ax s x W) (a₁ x) W)
    (hiter : ∀ (l : Nat) (W1 : World) (Rec : World → Prop) (RecX : Code → World → Prop), IsRec Rec → (∀ c, IsRec (RecX c)) → Ext w W1 → Rec W1 →
      (∀ s x W, At s x W → Rec W → YieldAt F (n - 1 - 1) P l (encs x) W fun e W' => (e = .returned (.bool true) ∧ (∃ s', R s x s' ∧ Af s' W') ∧ Rec W') ∨ (e = .returned (.bool false) ∧ ∃ c, Ax c W' ∧ RecX c W')) →
      CallsIn F (n - 1) P gf (#[.func (.yield l) #[] #[]] ++ lb) W1 fun e W' => (∃ v, e = .returned v) ∧ ((Fin W' ∧ Rec W') ∨ (∃ c, Ax c W' ∧ RecX c W')))
    (hdone : ∀ (D : Nat) (W : World), w.heap.size ≤ D → Fin W → W.heap[D]? = some (.deferred (some [])) → Q .normal { a with defers := { target := .collected D, args := #[] } :: a.defers } W)
    (hstop : ∀ (D : Nat) (c : Code) (W : World), w.heap.size ≤ D → Ax c W → W.heap[D]? = some (.deferred (some [])) → c.wpIn F n P Q { a with defers := { target := .collected D, args := #[] } :: a.defers } W) :
    (Code.rangeFunc g ps assign body).wpIn F n P Q a w := by
  refine wpIn_rangeFunc ?_
  intro fn hfn
  rw [hro]
  obtain ⟨rec, hrec⟩ : ∃ rec : LoopState → Option Code → Loop, rec = fun st pe => { state := st, pending := pe, fn, tmps := a.tmps, params := ps, assign, body, defers := w.heap.size } := ⟨_, rfl⟩
  obtain ⟨W1, hW1⟩ : ∃ W1, (w.alloc (.deferred (some []))).alloc (.loop (rec .ready none)) = W1 := ⟨_, rfl⟩
  have hL1 : W1.heap[w.heap.size + 1]? = some (.loop (rec .ready none)) := by
    rw [← hW1]; have := World.alloc_heap_new (w.alloc (.deferred (some []))) (.loop (rec .ready none)); rwa [World.size_alloc] at this
  have hK1 : W1.heap[w.heap.size]? = some (.deferred (some [])) := by
    rw [← hW1]; exact (Below.heap_alloc _ _ _ (by simp)).trans (World.alloc_heap_new w _)
  have hx1 : Ext w W1 := by rw [← hW1]; exact ((Ext.refl w).alloc _).alloc _
  refine ⟨w.heap.size + 1, [{ target := .collected w.heap.size, args := #[] }], W1, { target := .fn (.func gf) lb, args := #[.func (.yield (w.heap.size + 1)) #[] #[]] }, W1, gf,
    #[.func (.yield (w.heap.size + 1)) #[] #[]] ++ lb, W1, ?_, ?_, ?_, ?_, fun _ => h1, ?_⟩
  · rw [← hW1, hrec]; exact run_enterLoop_outer _ _ _ _ _
  · simp only [resolve, hg]
    simp [go_sem]
  · intro f' hf'; simp [Target.leads] at hf'; subst hf'; exact hFg
  · simp [invoke, go_sem, eg]
  · refine (hiter (w.heap.size + 1) W1 (fun W => W.heap[w.heap.size + 1]? = some (.loop (rec .ready none)) ∧ W.heap[w.heap.size]? = some (.deferred (some [])))
      (fun c W => W.heap[w.heap.size + 1]? = some (.loop (rec .done (some c))) ∧ W.heap[w.heap.size]? = some (.deferred (some [])))
      (isRec_of rfl rfl) (fun c => isRec_of rfl rfl) hx1 ⟨hL1, hK1⟩ ?_).mono ?_
    · rintro s x W hat ⟨hl, hk⟩
      have hlt : w.heap.size + 1 < W.heap.size := (Array.getElem?_eq_some_iff.1 hl).1
      have hy := run_yield (P := P) (args := encs x) hl (by rw [hrec]; exact hps x)
      rw [hrec] at hy
      refine ⟨fn, _, assign, body, hy, roundIn_of_wpIn hfn (hassign _ x W _ ⟨_, run_beginRound hl (by rw [hrec]), ?_⟩)⟩
      have hl2 : (W.putObj (w.heap.size + 1) (.loop { rec .ready none with state := .busy })).heap[w.heap.size + 1]? = some (.loop { rec .ready none with state := .busy }) := World.putObj_heap_same hlt
      have hk2 : (W.putObj (w.heap.size + 1) (.loop { rec .ready none with state := .busy })).heap[w.heap.size]? = some (.deferred (some [])) := (World.putObj_heap_other (by omega)).trans hk
      refine wpIn_mono (hbody _ s x _ (tAt s x _ _ _ _ (by omega) hl rfl hat)) ?_
      have fin : ∀ (jump : Option Code) (W3 : World), KeepsFrom w.heap.size (W.putObj (w.heap.size + 1) (.loop { rec .ready none with state := .busy })) W3 →
          (Instr.endRound (w.heap.size + 1) jump).run P W3 = .ok (.bool jump.isNone) (W3.putObj (w.heap.size + 1) (.loop (rec (if jump.isNone then .ready else .done) jump))) ∧
          W3.heap[w.heap.size + 1]? = some (.loop { rec .ready none with state := .busy }) ∧
          (W3.putObj (w.heap.size + 1) (.loop (rec (if jump.isNone then .ready else .done) jump))).heap[w.heap.size + 1]? = some (.loop (rec (if jump.isNone then .ready else .done) jump)) ∧
          (W3.putObj (w.heap.size + 1) (.loop (rec (if jump.isNone then .ready else .done) jump))).heap[w.heap.size]? = some (.deferred (some [])) := fun jump W3 hk3 => by
        have hl3 := hk3.same _ _ (by omega) hl2 rfl
        have := run_endRound (P := P) jump hl3
        rw [hrec] at this ⊢
        exact ⟨this, by rw [hrec] at hl3; exact hl3, World.putObj_heap_same (Array.getElem?_eq_some_iff.1 hl3).1, (World.putObj_heap_other (by omega)).trans (hk3.same _ _ (Nat.le_refl _) hk2 rfl)⟩
      rintro e a3 W3 hp
      cases e with
      | normal =>
        obtain ⟨hk3, s', hR, hi3⟩ := hp
        obtain ⟨hr, hl3, hl4, hk4⟩ := fin none W3 hk3
        exact ⟨_, _, hr, .inl ⟨rfl, ⟨s', hR, tAf s' _ _ _ _ (by omega) hl3 rfl hi3⟩, hl4, hk4⟩⟩
      | ret =>
        obtain ⟨hk3, hi3⟩ := hp
        obtain ⟨hr, hl3, hl4, hk4⟩ := fin (some .ret) W3 hk3
        exact ⟨_, _, hr, .inr ⟨rfl, .ret, tAx _ _ _ _ _ (by omega) hl3 rfl hi3, hl4, hk4⟩⟩
      | exit id =>
        obtain ⟨hk3, hi3⟩ := hp
        obtain ⟨hr, hl3, hl4, hk4⟩ := fin (some (.exit id)) W3 hk3
        exact ⟨_, _, hr, .inr ⟨rfl, .exit id, tAx _ _ _ _ _ (by omega) hl3 rfl hi3, hl4, hk4⟩⟩
      | goto t =>
        obtain ⟨hk3, hi3⟩ := hp
        obtain ⟨hr, hl3, hl4, hk4⟩ := fin (some (.goto t)) W3 hk3
        exact ⟨_, _, hr, .inr ⟨rfl, .goto t, tAx _ _ _ _ _ (by omega) hl3 rfl hi3, hl4, hk4⟩⟩
      | panic ch => exact hp.elim
      | outgrown => exact hp.elim
    · rintro e W2 ⟨⟨v, rfl⟩, (⟨hf, hl, hk⟩ | ⟨c, hf, hl, hk⟩)⟩
      · exact ⟨none, _, by have := run_endLoop (P := P) hl (by rw [hrec]; simp); rw [hrec] at this; exact this, hdone _ _ (Nat.le_refl _) (tFin _ _ _ _ (by omega) hl rfl hf) ((World.putObj_heap_other (by omega)).trans hk)⟩
      · exact ⟨some c, _, by have := run_endLoop (P := P) hl (by rw [hrec]; simp); rw [hrec] at this; exact this, hstop _ c _ (Nat.le_refl _) (tAx c _ _ _ _ (by omega) hl rfl hf) ((World.putObj_heap_other (by omega)).trans hk)⟩
/-- append(out, x) on what the call owns, inside a fence. -/
theorem wpListIn_append_one {P : Program} {F : Fence} {nf : Nat} {ops : Array Oper} {rest : List Oper} {o : Oper} {a : Act} {Q : Exit → Act → World → Prop} {w w0 : World} {α : Type} {k : Nat} {enc : α → List Value}
    (hgd : o.guard = none) (s x : Operand) (t e : TypeId) (bytes : Nat) (z : Value) (he : ∀ x, (enc x).length = k) (h1 : ∀ x, ∀ u ∈ enc x, u.oneCell' = true) (hk : 0 < k)
    (ho : o.op = .call { callee := .builtin .append, args := #[s, x], argTypes := #[t, t] }) (ht : P.underlying t = some (.slice e))
    (hinfo : (P.info? e).map (fun i => (i.zero, i.size, i.bytes)) = some (some z, k, bytes)) (hzs : z.cells.size = k)
    {v : Value} (xs : List α) (y : α) (hown : Owns w0.heap.size e k enc w v xs) (hext : Ext w0 w) (b : Nat) (c : Nat)
    (hs : a.eval s = v) (hx : a.eval x = .slice (some ⟨b, 0, none⟩) 1 c) (hb : b = w.heap.size) (hlen : (xs.length + 1) * bytes ≤ 140737488355328) (hlen2 : xs.length < 9223372036854775807)
    (h : ∀ v' w', Owns w0.heap.size e k enc w' v' (xs ++ [y]) → Ext w0 w' → (w.alloc (.cells (enc y).toArray e)).grownBy w' v.ownBlock → wpListIn F nf P ops Q rest (a.put o.dst v') w') : wpListIn F nf P ops Q (o :: rest) a (w.alloc (.cells (enc y).toArray e)) := by
  obtain ⟨i0, hi, hz0, hz1, hz2⟩ := info_parts hinfo
  have hown2 := hown.alloc (.cells (enc y).toArray e)
  refine wpListIn_append_own _ hgd s x t ho w0.heap.size e i0 z k bytes ht hi hz0 hz1 hz2 hzs hk v xs.length _ hs hown2 ⟨b, 0, none⟩ 1 c (enc y) hx (by rw [he]; omega) (fun i u hu => new_cells hb i u (by simpa using hu)) (h1 y) (by unfold maxLen; omega) hlen (hext.alloc _).size ?_
  intro v' w' hown' hgrow _
  refine h v' w' ?_ ((hext.alloc _).grown hgrow fun j hj => (World.ownsRow.lt hown j hj).1) hgrow
  unfold Owns
  simpa [List.flatMap_append] using hown'
theorem KeepsFrom.of_append {α : Type} {B B' : Nat} {e : TypeId} {k : Nat} {enc : α → List Value} {w w' : World} {v : Value} {xs : List α} {o : Obj} (h : Owns B' e k enc w v xs) (hg : (w.alloc o).grownBy w' v.ownBlock) : KeepsFrom B w w' := by
  refine (KeepsOthers.from ((KeepsOthers.alloc w o).trans (KeepsOthers.of_grownBy hg fun j ob hj hob => ?_)) B)
  obtain ⟨c, e', fr, rfl⟩ := (h.alloc o).is_cells j ob hj hob
  rfl
end Go.Proofs.YtalconpcpegmlaaDoor
