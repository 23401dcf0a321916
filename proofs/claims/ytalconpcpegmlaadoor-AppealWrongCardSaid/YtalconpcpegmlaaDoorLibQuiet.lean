/- A region that draws its order, its operations reading, its callees leaving all that was there: one walk in the order of the text. No program in sight. -/
import Derived.Test.YtalconpcpegmlaaDoorLib
import Derived.BigQuiet
namespace Go.Proofs.YtalconpcpegmlaaDoor
open Go.RowKit

/-- Further draws, further blocks. -/
structure Gx where
  d : Nat
  os : Array Obj
instance : Inhabited Gx := ⟨⟨0, #[]⟩⟩
def gr (w : World) (x : Gx) : World := { w with heap := w.heap ++ x.os, drawn := x.d }
theorem ext_gr (w : World) (x : Gx) : Ext w (gr w x) :=
  ⟨rfl, rfl, rfl, by simp [gr], fun k hk => by simp [gr, Array.getElem?_append, hk]⟩
theorem gr_of_ext {w w' : World} (h : Ext w w') : ∃ x, w' = gr w x := by
  obtain ⟨h1, h2, h3, h4, h5⟩ := h
  refine ⟨⟨w'.drawn, w'.heap.extract w.heap.size w'.heap.size⟩, ?_⟩
  obtain ⟨heap, tape, drawn, os, output⟩ := w'
  obtain ⟨heap0, tape0, drawn0, os0, output0⟩ := w
  simp only at h1 h2 h3 h4 h5
  subst h1; subst h2; subst h3
  simp only [gr, World.mk.injEq, and_true]
  apply Array.ext_getElem?
  intro i
  rw [Array.getElem?_append]
  split
  · rename_i hi; exact h5 i hi
  · rename_i hi
    rw [Array.getElem?_extract]
    split
    · congr 1; omega
    · rename_i hj; rw [Array.getElem?_eq_none]; omega
theorem gr_drew (w : World) : ({ w with drawn := w.drawn + 1 } : World) = gr w ⟨w.drawn + 1, #[]⟩ := by
  show ({ w with drawn := w.drawn + 1 } : World) = { w with heap := w.heap ++ #[], drawn := w.drawn + 1 }
  rw [Array.append_empty]
theorem cell?_gr {w : World} {x : Gx} {b o : Nat} (h : b < w.heap.size) : (gr w x).cell? ⟨b, o, none⟩ = w.cell? ⟨b, o, none⟩ := (ext_gr w x).cells.1 b o h
theorem quiet_gr {P : Program} {f : FuncId} {args : Array Value} {w : World} {x : Gx} {v : Value} (h : Calls P f args (gr w x) fun e w' => e = .returned v ∧ Ext (gr w x) w') :
    Calls P f args (gr w x) fun e w'' => e = .returned v ∧ ∃ y, w'' = gr w y :=
  h.mono fun _ _ ⟨he, hx⟩ => ⟨he, gr_of_ext ((ext_gr w x).trans hx)⟩
/-- The region, walked in the order of the text in every world of the class. -/
theorem wp_region_ext {P : Program} {id : Nat} {Q : Exit → Act → World → Prop} {a : Act} {w : World} {l : List Oper} (hm : P.follows .mixedOrders = true) (hB : Region.lexB .any l.toArray = true)
    (h : wpQuiet P l.toArray (fun w' => ∃ x, w' = gr w x) (fun a' => ∀ w', Ext w w' → Q .normal a' w') l a) : (Code.region id l.toArray true).wp P Q a w :=
  wp_region_quiet (C := fun w' => ∃ x, w' = gr w x) hm hB ⟨_, gr_drew w⟩ (by
    have hq : (fun a' => ∀ w', Ext w w' → Q .normal a' w') = (fun a' => ∀ w', (∃ x, w' = gr w x) → Q .normal a' w') := by
      funext a'
      exact propext ⟨fun h w' ⟨x, hx⟩ => h w' (hx ▸ ext_gr w x), fun h w' hx => h w' (gr_of_ext hx)⟩
    rw [hq] at h
    simpa using h)
end Go.Proofs.YtalconpcpegmlaaDoor
