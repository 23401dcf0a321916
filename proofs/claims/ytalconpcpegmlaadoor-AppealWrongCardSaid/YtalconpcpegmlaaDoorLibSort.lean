/- The world behind a sort, and a sorted permutation as lists. No program in sight. -/
import Derived.Test.YtalconpcpegmlaaDoorLib
import Derived.Shelf.SlSortCmp.WholeK
namespace Go.Proofs.YtalconpcpegmlaaDoor
open Go.RowKit Go.Sort

theorem heap_mapBlock_other (w : World) (blk : Nat) (f : Array Value → Array Value) (k : Nat) (h : k ≠ blk) : (mapBlock w blk f).heap[k]? = w.heap[k]? := by
  simp only [mapBlock, Array.getElem?_modify]
  rw [if_neg (by omega)]
theorem Ext.sort {α : Type} [Inhabited α] {enc : α → List Value} {k : Nat} {a w : World} (h : Ext a w) {blk off n : Nat} (hb : a.heap.size ≤ blk) (hw : blk < w.heap.size) (d : Array α) (os : Array Obj) : Ext a (sortWorldK enc k w blk off n d os) := by
  refine Below.trans h ⟨rfl, rfl, rfl, ?_, fun i hi => ?_⟩
  · simp [sortWorldK, putRowK, putRow, mapBlock]
  · unfold sortWorldK
    have hsz : (putRowK enc k (Sort.ahead w n) blk off d).heap.size = w.heap.size := by simp [putRowK, putRow, mapBlock]
    rw [heap_grow_old _ _ (by rw [hsz]; omega)]
    exact heap_mapBlock_other _ _ _ _ (by omega)
theorem holdsK_of {α : Type} [Inhabited α] {enc : α → List Value} {k : Nat} (he : ∀ x, (enc x).length = k) {w : World} {g off : Nat} {xs : List α}
    (h : ∀ j (h : j < xs.length) i u, (enc xs[j])[i]? = some u → w.cell? ⟨g, off + j * k + i, none⟩ = some u) (hf : ∀ j, w.frozen? ⟨g, j, none⟩ = false) : HoldsK enc k w g off xs.toArray := by
  intro j hj
  rw [size_flatK] at hj
  refine ⟨?_, hf _⟩
  rw [get_flatK _ _ _ _ hj]
  have hk : 0 < k := by
    rcases Nat.eq_zero_or_pos k with h0 | h0
    · rw [h0] at hj; simp at hj
    · exact h0
  have hq : j / k < xs.length := by rw [Nat.div_lt_iff_lt_mul hk]; simpa using hj
  have hr := Nat.mod_lt j hk
  have := h (j / k) hq (j % k) (enc xs[j / k])[j % k]! (by
    rw [getElem!_pos (enc xs[j / k]) (j % k) (by rw [he]; exact hr)]
    exact List.getElem?_eq_getElem (by rw [he]; exact hr))
  rw [Nat.add_assoc, Nat.mul_comm, Nat.div_add_mod] at this
  rw [this]
  congr 2
  rw [getElem!_pos xs.toArray (j / k) (by simpa using hq)]
  simp
theorem Sl.of_holdsK {α : Type} [Inhabited α] {enc : α → List Value} {k : Nat} (he : ∀ x, (enc x).length = k) {w : World} {g off : Nat} {d : Array α} (h : HoldsK enc k w g off d) (hg : g < w.heap.size) :
    Sl k enc w (some ⟨g, off, none⟩) d.toList := by
  intro j hj
  refine ⟨g, off, rfl, hg, fun i u hu => ?_⟩
  have hi : i < k := by have := (List.getElem?_eq_some_iff.1 hu).1; rwa [he] at this
  have hj' : j < d.size := by simpa using hj
  rw [(h.cell hj' hi).1]
  congr 1
  rw [getElem!_pos d j hj', getElem!_pos (enc d[j]) i (by rw [he]; exact hi)]
  obtain ⟨h1, h2⟩ := List.getElem?_eq_some_iff.1 hu
  rw [← h2]
  simp
theorem perm_of_permIn {α : Type} [Inhabited α] {d d' : Array α} (h : PermIn 0 d.size d d') : d'.size = d.size ∧ d'.toList.Perm d.toList := by
  obtain ⟨h1, _, h3⟩ := h
  refine ⟨h1, ?_⟩
  rw [← h1] at h3
  have e1 : d'.extract 0 d'.size = d' := by simp
  have e2 : d.extract 0 d'.size = d := by rw [h1]; simp
  rw [e1, e2] at h3
  exact h3
end Go.Proofs.YtalconpcpegmlaaDoor
