import Derived.Test.YtalconpcpegmlaaDoorSpanW3
namespace Go.Proofs.YtalconpcpegmlaaDoor
open Go.RowKit

theorem Ok.length : ∀ {l : List Sp} {e : Int}, -1 ≤ e → e ≤ 65536 → Ok e l → (l.length : Int) ≤ 65536 - e
  | [], e, _, h, _ => by simp; omega
  | s :: l, e, he, _, h => by
    obtain ⟨h1, h2, h3, h4, h5⟩ := h
    have := h5.length (by omega) h4
    simp only [List.length_cons]; omega
theorem infoSp : (Tryd.prog.info? 57).map (fun i => (i.zero, i.size, i.bytes)) = some (some (.agg #[.int .i64 0, .int .i64 0]), 2, 16) := by kernel_rfl
theorem enc2_len (x : Sp) : (enc2 x).length = 2 := rfl
theorem enc2_one (x : Sp) : ∀ u ∈ enc2 x, u.oneCell' = true := by simp [enc2, Value.oneCell']

theorem Sl.lit {w : World} {T : TypeId} {b : Nat} (xs : List Sp) (hb : b = w.heap.size) : Sl 2 enc2 (w.alloc (.cells (xs.flatMap enc2).toArray T)) (some ⟨b, 0, none⟩) xs := by
  subst hb
  intro j hj
  refine ⟨w.heap.size, 0, rfl, by simp, fun i u hu => ?_⟩
  have hi : i < 2 := by have := (List.getElem?_eq_some_iff.1 hu).1; rwa [enc2_len] at this
  rw [cell_of (heap_new w _), Nat.zero_add, List.getElem?_toArray, flat_at enc2_len xs j hj i hi]
  exact hu
theorem Sl.cells2' {w : World} {b off : Nat} {l : List Sp} (h : Sl 2 enc2 w (some ⟨b, off, none⟩) l) (k : Nat) (hk : k < l.length) :
    w.cell? ⟨b, off + k * 2, none⟩ = some (.int .i64 l[k].1) ∧ w.cell? ⟨b, off + k * 2 + 1, none⟩ = some (.int .i64 l[k].2) := by
  obtain ⟨b', off', e, _, hc⟩ := h k hk
  simp only [Option.some.injEq, Addr.mk.injEq, and_true] at e
  obtain ⟨rfl, rfl⟩ := e
  exact ⟨hc 0 _ rfl, hc 1 _ rfl⟩
theorem Sl.cells2 {w : World} {p : Option Addr} {l : List Sp} (h : Sl 2 enc2 w p l) (k : Nat) (hk : k < l.length) :
    ∃ b off, p = some ⟨b, off, none⟩ ∧ b < w.heap.size ∧ w.cell? ⟨b, off + k * 2, none⟩ = some (.int .i64 l[k].1) ∧ w.cell? ⟨b, off + k * 2 + 1, none⟩ = some (.int .i64 l[k].2) := by
  obtain ⟨b, off, rfl, hb, _⟩ := h k hk
  exact ⟨b, off, rfl, hb, (h.cells2' k hk).1, (h.cells2' k hk).2⟩
theorem Sl.at2b {w : World} {b off : Nat} {l : List Sp} (h : Sl 2 enc2 w (some ⟨b, off, none⟩) l) (k : Nat) (hk : k < l.length) :
    b < w.heap.size ∧ w.cell? ⟨b, off + k * 2, none⟩ = some (.int .i64 l[k].1) ∧ w.cell? ⟨b, off + k * 2 + 1, none⟩ = some (.int .i64 l[k].2) := by
  obtain ⟨b', off', e, hb, hc⟩ := h k hk
  simp only [Option.some.injEq, Addr.mk.injEq, and_true] at e
  obtain ⟨rfl, rfl⟩ := e
  exact ⟨hb, hc 0 _ rfl, hc 1 _ rfl⟩
/-! ### span.Bridge -/
def OwnS (w0 w : World) (v : Value) (xs : List Sp) : Prop := Owns w0.heap.size 57 2 enc2 w v xs
end Go.Proofs.YtalconpcpegmlaaDoor
