/- Maps into which each key is put once: insert and lookup. No program in sight. -/
import Derived.Test.YtalconpcpegmlaaDoorLib
import Derived.Maps.Own
import Derived.WideKeyEntry
namespace Go.Proofs.YtalconpcpegmlaaDoor
open Go.RowKit Go.ChangeMaps Go.MapKept Go.WideElems
open Go.Maps (Keyed)

/-- Block B is a map whose entries are these, in the order in which they were put. -/
def VMap (P : Program) (k : TypeId) (w : World) (B : Nat) (l : List (Value × Value)) : Prop :=
  ∃ es clock, w.heap[B]? = some (.map es clock) ∧ (∀ e ∈ es.toList, ∃ kl, keyOf P k e.key = some kl) ∧ es.toList.map (fun e => (e.key, e.val)) = l
section
variable {P : Program} {k e t : TypeId} {w w' : World} {B : Nat} {l : List (Value × Value)}
theorem VMap.made : VMap P k (w.alloc (.map #[] 0)) w.heap.size [] := ⟨#[], 0, heap_new w _, by simp, rfl⟩
theorem VMap.ext (h : VMap P k w B l) (hx : Ext w w') : VMap P k w' B l := by
  obtain ⟨es, clock, hb, F⟩ := h
  exact ⟨es, clock, heap_ext hb hx, F⟩
theorem VMap.look (h : VMap P k w B l) (K : Keyed P k) (ht : P.underlying t = some (.map k e)) {key v : Value} {kl : Lit} (hkey : keyOf P k key = some kl) (hin : ∃ p ∈ l, p.1 = key) (hu : ∀ p ∈ l, p.1 = key → p.2 = v) :
    (Instr.lookup t (.map (some B)) key false).run P w = .ok v w := by
  obtain ⟨es, clock, hb, hk, rfl⟩ := h
  rcases K.find w hkey es.toList hk with ⟨h1, h2⟩ | ⟨j, e0, h1, h2, h3⟩
  · obtain ⟨p, hp, he⟩ := hin
    obtain ⟨e1, h4, rfl⟩ := List.mem_map.1 hp
    exact absurd he (h2 e1 h4)
  · have hv := hu (e0.key, e0.val) (List.mem_map.2 ⟨e0, List.mem_of_getElem? h2, rfl⟩) h3
    dsimp only at hv
    simp [Instr.lookup, run_underlying ht, MapKept.run_getObj_map hb, K.check w _ hkey, h1, hv, Result.andThen]
theorem VMap.put (h : VMap P k w B l) (K : Keyed P k) (ht : P.underlying t = some (.map k e)) {key : Value} {kl : Lit} (hkey : keyOf P k key = some kl) (val : Value) (hn : ∀ p ∈ l, p.1 ≠ key) :
    ∃ w2, (Instr.mapUpdate t (.map (some B)) key val).run P w = .ok () w2 ∧ VMap P k w2 B (l ++ [(key, val)]) ∧ w.grownBy w2 (some B) := by
  obtain ⟨es, clock, hb, hk, rfl⟩ := h
  rcases K.find w hkey es.toList hk with ⟨h1, h2⟩ | ⟨j, e0, h1, h2, h3⟩
  · refine ⟨setBlock w B (.map (es.push ⟨key, val, clock⟩) (clock + 1)), ?_, ⟨_, _, heap_setBlock_same hb _, ?_, by simp⟩, ⟨rfl, rfl, rfl, by simp [setBlock], fun i _ hi => heap_setBlock_other hb _ (fun e => hi (by rw [e]))⟩⟩
    · simp [Instr.mapUpdate, run_underlying ht, MapKept.run_getObj_map hb, K.check w false hkey, h1, MapKept.run_setObj_map _ hb, Result.andThen, setBlock]
    · simp only [Array.toList_push, List.mem_append, List.mem_singleton]
      rintro x (hx | rfl)
      · exact hk x hx
      · exact ⟨kl, hkey⟩
  · exact absurd h3 (hn (e0.key, e0.val) (List.mem_map.2 ⟨e0, List.mem_of_getElem? h2, rfl⟩))
/-- An entry of a map literal, at the operation. -/
theorem wpList_insert_v {ops : Array Oper} {rest : List Oper} {o : Oper} {a : Act} {Q : Exit → Act → World → Prop} (hg : o.guard = none) (m x v : Operand) (t : TypeId) (hop : o.op = Op.insert t m x v)
    (K : Keyed P k) (ht : P.underlying t = some (.map k e)) (h : VMap P k w B l) (hm : a.eval m = .map (some B)) {key val : Value} {kl : Lit} (hx : a.eval x = key) (hv : a.eval v = val) (hkey : keyOf P k key = some kl) (hn : ∀ p ∈ l, p.1 ≠ key)
    (hK : ∀ w2, VMap P k w2 B (l ++ [(key, val)]) → w.grownBy w2 (some B) → wpList P ops Q rest (a.put o.dst undef) w2) : wpList P ops Q (o :: rest) a w := by
  obtain ⟨w2, hrun, h1, h2⟩ := h.put K ht hkey val hn
  refine wpList_plain hg fun K' hK' => ?_
  unfold Oper.wp
  simp [execOp, hop, hm, hx, hv, hrun, Result.andThen]
  exact hK' _ _ (hK w2 h1 h2)
theorem wpList_lookup_v {ops : Array Oper} {rest : List Oper} {o : Oper} {a : Act} {Q : Exit → Act → World → Prop} (hg : o.guard = none) (m x : Operand) (t : TypeId) (hop : o.op = Op.lookup t m x false)
    (K : Keyed P k) (ht : P.underlying t = some (.map k e)) (h : VMap P k w B l) (hm : a.eval m = .map (some B)) {key v : Value} {kl : Lit} (hx : a.eval x = key) (hkey : keyOf P k key = some kl) (hin : ∃ p ∈ l, p.1 = key) (hu : ∀ p ∈ l, p.1 = key → p.2 = v)
    (hK : wpList P ops Q rest (a.put o.dst v) w) : wpList P ops Q (o :: rest) a w := by
  refine wpList_plain hg fun K' hK' => ?_
  unfold Oper.wp
  simp [execOp, hop, hm, hx, h.look K ht hkey hin hu, Result.andThen]
  exact hK' _ _ hK
end
end Go.Proofs.YtalconpcpegmlaaDoor
