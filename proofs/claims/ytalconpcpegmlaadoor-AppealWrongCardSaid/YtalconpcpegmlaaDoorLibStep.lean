/- Appends in a region that draws its order, for go_region_held3. No program in sight. -/
import Derived.Test.YtalconpcpegmlaaDoorLib
import Derived.Deep.RegionHeld3
import Derived.Deep.AppendLies
namespace Go.Proofs.YtalconpcpegmlaaDoor
open Go.RowKit

/-- append(out, ys...) on what the call owns, at an operation of a drawn region. -/
theorem step_append_sl {P : Program} {ops : Array Oper} {o : Oper} {a : Act} {K : Act → World → Prop} {Q : Exit → Act → World → Prop} {E : Prop} {w w0 : World} {α : Type} {k : Nat} {enc : α → List Value}
    (hgd : o.guard = none) (s x : Operand) (t e : TypeId) (bytes : Nat) (z : Value) (he : ∀ x, (enc x).length = k) (h1 : ∀ x, ∀ u ∈ enc x, u.oneCell' = true) (hk : 0 < k)
    (ho : o.op = .call { callee := .builtin .append, args := #[s, x], argTypes := #[t, t] }) (ht : P.underlying t = some (.slice e))
    (hinfo : (P.info? e).map (fun i => (i.zero, i.size, i.bytes)) = some (some z, k, bytes)) (hzs : z.cells.size = k)
    {v : Value} (xs ys : List α) (hown : Owns w0.heap.size e k enc w v xs) (hext : Ext w0 w) (ad : Addr) (c : Nat)
    (hs : a.eval s = v) (hx : a.eval x = .slice (some ad) ys.length c) (hys : Sl k enc w (some ad) ys) (hpos : 0 < ys.length) (hlen : (xs.length + ys.length) * bytes ≤ 140737488355328) (hlen2 : xs.length + ys.length ≤ 9223372036854775807)
    (h : ∀ p' c' w', Owns w0.heap.size e k enc w' (.slice p' (xs ++ ys).length c') (xs ++ ys) → Sl k enc w' p' (xs ++ ys) → Ext w0 w' → w.grownBy w' v.ownBlock → K (a.put o.dst (.slice p' (xs ++ ys).length c')) w') :
    if Region.wanted o (yielded ops a.tmps) = true then Oper.wp P o a w K Q else E := by
  obtain ⟨i0, hi, hz0, hz1, hz2⟩ := info_parts hinfo
  refine step_append_lies w hgd s x t ho w0.heap.size e i0 z k bytes ht hi hz0 hz1 hz2 hzs hk v xs.length _ hs hown ad ys.length c (ys.flatMap enc) hx (flat_len he ys) (hys.news he) (fun u hu => ?_) hpos (by unfold maxLen; omega) hlen hext.size _ rfl ?_
  · obtain ⟨y, _, hy⟩ := List.mem_flatMap.1 hu
    exact h1 y u hy
  intro g cap w' hown' hgrow _ _
  have hl : (xs ++ ys).length = xs.length + ys.length := List.length_append
  have ho2 : Owns w0.heap.size e k enc w' (.slice (some ⟨g, 0, none⟩) (xs ++ ys).length cap) (xs ++ ys) := by
    unfold Owns
    rw [hl, List.flatMap_append]
    exact hown'
  obtain ⟨p3, c3, e3, hs3⟩ := ho2.read he
  simp only [Value.slice.injEq] at e3
  have := h (some ⟨g, 0, none⟩) cap w' ho2 (by rw [e3.1]; exact hs3) (hext.grown hgrow fun j hj => (World.ownsRow.lt hown j hj).1) hgrow
  rw [hl] at this
  exact this
section
variable {α : Type} {B b : Nat} {e : TypeId} {k : Nat} {enc : α → List Value} {w : World} {v : Value} {xs : List α}
theorem Owns.apart (h : Owns B e k enc w v xs) (hb : b < B) : v.ownBlock = none ∨ v.ownBlock ≠ some b := by
  cases hv : v.ownBlock with
  | none => exact .inl rfl
  | some g =>
    right
    have := h.row g hv
    simp only [ne_eq, Option.some.injEq]
    omega
/-- What the call owns stays when an older block is written. -/
theorem Owns.setPast (h : Owns B e k enc w v xs) (hb : b < B) (j : Nat) (u : Value) : Owns B e k enc (w.setCell ⟨b, j, none⟩ u) v xs :=
  World.ownsRow.kept h ⟨rfl, rfl, rfl, by simp, fun i _ hi => heap_setCell_other w ⟨b, j, none⟩ i u (fun e => hi (by rw [e]))⟩ (h.apart hb)
theorem Owns.rowPast (h : Owns B e k enc w v xs) (hb : b < B) (cs : Array Value) : Owns B e k enc (w.setRow b cs) v xs :=
  World.ownsRow.kept h ⟨rfl, rfl, rfl, by simp [World.setRow], fun i _ hi => setRow_other _ _ _ _ (fun e => hi (by rw [e]))⟩ (h.apart hb)
theorem Owns.slOf {p : Option Addr} {n c : Nat} (he : ∀ x, (enc x).length = k) (h : Owns B e k enc w (.slice p n c) xs) : Sl k enc w p xs := by
  obtain ⟨p', c', e, hs⟩ := h.read he
  simp only [Value.slice.injEq] at e
  rw [e.1]; exact hs
end
theorem Ext.setRow {a w : World} (h : Ext a w) {g : Nat} (hg : a.heap.size ≤ g) (cs : Array Value) : Ext a (w.setRow g cs) :=
  h.out.trans ⟨rfl, rfl, rfl, by simp [World.setRow], fun i hi => setRow_other _ _ _ _ (by omega)⟩
end Go.Proofs.YtalconpcpegmlaaDoor
