/- Plain facts about lists without repetitions and counts of what was met. No program in sight. -/
import Derived.Test.YtbjhehmglahmpaaMapC
import Derived.Test.YtbjhehmglahmpaaSpanP
namespace Go.Proofs.Ytbjhehmglahmpaa
section
variable {α : Type} [DecidableEq α]
def ddStep (out : List α) (x : α) : List α := if x ∈ out then out else out ++ [x]
def dd (l : List α) : List α := l.foldl ddStep []
theorem dd_snoc (l : List α) (x : α) : dd (l ++ [x]) = ddStep (dd l) x := by simp [dd, List.foldl_append]
theorem mem_ddStep (out : List α) (x y : α) : y ∈ ddStep out x ↔ y ∈ out ∨ y = x := by
  unfold ddStep
  split
  · rename_i h
    constructor
    · exact .inl
    · rintro (h2 | rfl)
      · exact h2
      · exact h
  · simp
theorem mem_ddf : ∀ (l out : List α) (y : α), y ∈ l.foldl ddStep out ↔ y ∈ out ∨ y ∈ l
  | [], out, y => by simp
  | x :: l, out, y => by
    rw [List.foldl_cons, mem_ddf l, mem_ddStep, List.mem_cons, or_assoc]
theorem mem_dd (l : List α) (y : α) : y ∈ dd l ↔ y ∈ l := by rw [dd, mem_ddf]; simp
theorem len_ddStep (out : List α) (x : α) : (ddStep out x).length ≤ out.length + 1 := by unfold ddStep; split <;> simp
theorem len_ddf : ∀ (l out : List α), (l.foldl ddStep out).length ≤ out.length + l.length
  | [], out => by simp
  | x :: l, out => by
    rw [List.foldl_cons]
    have := len_ddf l (ddStep out x)
    have := len_ddStep out x
    simp only [List.length_cons]; omega
theorem len_dd (l : List α) : (dd l).length ≤ l.length := by have := len_ddf l ([] : List α); unfold dd; simpa using this
theorem dd_old {l : List α} {x : α} (h : x ∈ l) : dd (l ++ [x]) = dd l := by rw [dd_snoc, ddStep, if_pos ((mem_dd l x).2 h)]
theorem dd_new {l : List α} {x : α} (h : x ∉ l) : dd (l ++ [x]) = dd l ++ [x] := by rw [dd_snoc, ddStep, if_neg fun h2 => h ((mem_dd l x).1 h2)]
end
/-- f counts what was met. -/
structure Cnt {α : Type} (val : α → Value) (f : Value → Int) (done : List α) : Prop where
  ge : ∀ x ∈ done, 1 ≤ f (val x)
  zero : ∀ v, (∀ x ∈ done, val x ≠ v) → f v = 0
  lo : ∀ v, 0 ≤ f v
  hi : ∀ v, f v ≤ done.length
theorem Cnt.nil {α : Type} (val : α → Value) : Cnt val (fun _ => 0) [] := ⟨by simp, fun _ _ => rfl, fun _ => Int.le_refl _, fun _ => by simp⟩
theorem Cnt.step {α : Type} {val : α → Value} {f f' : Value → Int} {done : List α} {x : α} (h : Cnt val f done) (h1 : f' (val x) = f (val x) + 1) (h2 : ∀ v, v ≠ val x → f' v = f v) : Cnt val f' (done ++ [x]) := by
  have hc : ∀ v, f' v = f v ∨ (v = val x ∧ f' v = f v + 1) := fun v => by
    by_cases hv : v = val x
    · subst hv; exact .inr ⟨rfl, h1⟩
    · exact .inl (h2 v hv)
  refine ⟨fun y hy => ?_, fun v hv => ?_, fun v => ?_, fun v => ?_⟩
  · rcases List.mem_append.1 hy with hy | hy
    · have := h.ge y hy
      rcases hc (val y) with h3 | ⟨_, h3⟩ <;> omega
    · rw [List.mem_singleton] at hy
      subst hy
      have := h.lo (val y)
      omega
  · rw [h2 v fun e => hv x (by simp) e.symm]
    exact h.zero v fun y hy => hv y (by simp [hy])
  · have := h.lo v
    rcases hc v with h3 | ⟨_, h3⟩ <;> omega
  · have := h.hi v
    rw [List.length_append, List.length_singleton]
    rcases hc v with h3 | ⟨_, h3⟩ <;> push_cast <;> omega
theorem Cnt.old {α : Type} {val : α → Value} {f : Value → Int} {done : List α} {x : α} (h : Cnt val f done) (hx : x ∈ done) : 1 ≤ f (val x) := h.ge x hx
theorem Cnt.new {α : Type} {val : α → Value} {f : Value → Int} {done : List α} {x : α} (h : Cnt val f done) (hinj : ∀ y, val y = val x → y = x) (hx : x ∉ done) : f (val x) = 0 :=
  h.zero _ fun y hy e => hx (hinj y e ▸ hy)
/-- The counts after one more. -/
theorem bump (f : Value → Int) (k : Value) : ∃ f' : Value → Int, f' k = f k + 1 ∧ ∀ v, v ≠ k → f' v = f v :=
  ⟨fun v => @ite _ (v = k) (Classical.propDecidable _) (f k + 1) (f v), by simp, fun v h => by simp [h]⟩
def pre2 {α : Type} (a b : List α) : Nat → List α
  | 0 => []
  | 1 => a
  | _ => a ++ b
def nth2 {α : Type} (a b : List α) : Nat → List α
  | 0 => a
  | _ => b
theorem pre2_succ {α : Type} (a b : List α) (j : Nat) (h : j < 2) : pre2 a b (j + 1) = pre2 a b j ++ nth2 a b j := by
  rcases (by omega : j = 0 ∨ j = 1) with rfl | rfl <;> simp [pre2, nth2]
theorem pre2_len {α : Type} (a b : List α) (j : Nat) : (pre2 a b j).length + 0 ≤ a.length + b.length := by
  match j with
  | 0 => simp [pre2]
  | 1 => simp [pre2]
  | j + 2 => simp [pre2]
theorem pre2_nth_len {α : Type} (a b : List α) (j : Nat) (h : j < 2) : (pre2 a b j).length + (nth2 a b j).length ≤ a.length + b.length := by
  rcases (by omega : j = 0 ∨ j = 1) with rfl | rfl <;> simp [pre2, nth2]
open Go.RowKit
theorem Owns.not_map {α : Type} {B : Nat} {e : TypeId} {k n : Nat} {enc : α → List Value} {w : World} {v : Value} {xs : List α} {P : Program} {kt : TypeId} {f : Value → Int} (h : Owns B e k enc w v xs)
    (hb : CMap P kt w n f) : v.ownBlock = none ∨ v.ownBlock ≠ some n := by
  rcases h.2 with ⟨rfl, _⟩ | ⟨g, cap, cur, rfl, _, hg, _⟩
  · exact .inl rfl
  · refine .inr ?_
    simp only [Value.ownBlock, ne_eq, Option.some.injEq]
    intro hgn; subst hgn
    obtain ⟨es, clock, hm, _⟩ := hb
    rw [hg] at hm; cases hm
theorem Owns.keptMap {α : Type} {B : Nat} {e : TypeId} {k n : Nat} {enc : α → List Value} {w w' : World} {v : Value} {xs : List α} {P : Program} {kt : TypeId} {f : Value → Int} (h : Owns B e k enc w v xs)
    (hb : CMap P kt w n f) (hg : w.grownBy w' (some n)) : Owns B e k enc w' v xs := World.ownsRow.kept h hg (h.not_map hb)
theorem row_not_map {w : World} {g n : Nat} {c : Array Value} {e : TypeId} {fr : Nat × Nat} {P : Program} {kt : TypeId} {f : Value → Int} (hg : w.heap[g]? = some (.cells c e fr)) (hb : CMap P kt w n f) : g ≠ n := by
  rintro rfl
  obtain ⟨es, clock, hm, _⟩ := hb
  rw [hg] at hm; cases hm
end Go.Proofs.Ytbjhehmglahmpaa
