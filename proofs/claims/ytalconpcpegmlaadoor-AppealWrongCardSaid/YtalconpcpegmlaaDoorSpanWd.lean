import Derived.Test.YtalconpcpegmlaaDoorSpanWc
import Derived.Test.YtalconpcpegmlaaDoorSpanW7
namespace Go.Proofs.YtalconpcpegmlaaDoor
open Go.RowKit

/-! ### Bridge and Make, one contract each -/
def bridgeV (l : List Sp) (days : Int) : List Sp := if validB (-1) l = true ∧ 0 ≤ days then bridgeS days l else []
def bridgeE (l : List Sp) (days : Int) : Int := if validB (-1) l = true ∧ 0 ≤ days then 0 else 2
def sortS (l : List Sp) : List Sp := l.mergeSort fun a b => decide (a.1 ≤ b.1)
def makeV (l : List Sp) : List Sp := if l.all rightB = true then mergeS (sortS l) else []
def makeE (l : List Sp) : Int := if l.all rightB = true then 0 else 2
theorem sortS_asc (l : List Sp) : ∃ m, Asc m (sortS l) := by
  refine asc_any ?_
  have := List.pairwise_mergeSort (le := fun a b : Sp => decide (a.1 ≤ b.1)) (fun a b c h1 h2 => by simp at *; omega) (fun a b => by simp; omega) l
  exact this.imp fun h => by simpa using h
theorem sortS_perm (l : List Sp) : (sortS l).Perm l := List.mergeSort_perm l _
theorem memB_perm {a b : List Sp} (h : a.Perm b) (d : Int) : memB d a = memB d b := by
  unfold memB; exact h.any_eq
theorem all_perm {a b : List Sp} (h : a.Perm b) : a.all rightB = b.all rightB := h.all_eq
theorem makeV_spec {l : List Sp} (h : l.all rightB = true) : Ok (-1) (makeV l) ∧ ∀ d, memB d (makeV l) = memB d l := by
  obtain ⟨m, hm⟩ := sortS_asc l
  unfold makeV
  rw [if_pos h]
  obtain ⟨h1, h2⟩ := mergeS_spec hm (by rw [all_perm (sortS_perm l)]; exact h)
  exact ⟨h1, fun d => by rw [h2, memB_perm (sortS_perm l)]⟩
theorem merge_unique {l l' : List Sp} (h : l.all rightB = true) (hp : l'.Perm l) (ha : ∃ m, Asc m l') : mergeS l' = makeV l := by
  obtain ⟨m, hm⟩ := ha
  obtain ⟨h1, h2⟩ := mergeS_spec hm (by rw [all_perm hp]; exact h)
  obtain ⟨h3, h4⟩ := makeV_spec h
  exact h1.ext h3 fun d => by rw [h2, h4, memB_perm hp]
theorem make_any (l : List Sp) (p : Option Addr) (c : Nat) (w : World) (hl : Sl 2 enc2 w p l) (hm : l.length ≤ 4398046511104) :
    Calls Tryd.prog 65 #[.slice p l.length c] w fun e w' => ∃ v, e = .returned (.tuple #[v, .int .i64 (makeE l)]) ∧ OwnS w w' v (makeV l) ∧ Ext w w' := by
  unfold makeE
  by_cases h : l.all rightB = true
  · rw [if_pos h]
    refine (make_ok l p c w hl hm h).mono ?_
    rintro e w' ⟨v, l', he, ho, hp, ha, hx⟩
    rw [merge_unique h hp ha] at ho
    exact ⟨v, he, ho, hx⟩
  · rw [if_neg h]
    refine (make_bad l p c w hl hm (by simpa using h)).mono ?_
    rintro e w' ⟨he, hx⟩
    refine ⟨_, he, ?_, hx⟩
    unfold makeV; rw [if_neg h]; exact Owns.nil

/-! ### the laws' small helpers -/
end Go.Proofs.YtalconpcpegmlaaDoor
