import Derived.Test.YtbjhehmglahmpaaSpanW4
import Derived.OpenShut
import Derived.Deep.SlicePairs
/- A slice of spans that came in, as a row's proof opens it. -/
namespace Go.Proofs.Ytbjhehmglahmpaa
open Go.RowKit

theorem sl_of_spans {H : Type} {enc : TypeId × Value → H} {w : World} {base : Nat} {spare : Nat → Bool} {held : Bool} {fuel : Nat} {a : Option Addr} {len cap : Nat} {x : DataW H × List MemPlace}
    (h : DataW.trod enc Try.prog w base spare held fuel 52 [.slice a len cap] = some x) :
    ∃ l : List Sp, l.length = len ∧ l.length ≤ 9223372036854775807 ∧ Sl 2 enc2 w a l ∧ (a = none → cap = 0) := by
  rcases Deep.open_slice_pairs Try.underlying52 Try.underlying65 (by kernel_rfl) rfl rfl (by kernel_rfl) (by kernel_rfl) h with ⟨hcs, _⟩ | ⟨a', len', cap', m, n, V0, V1, D0, D1, P0, P1, hcs, _, hl, hm, hmm, _, hx⟩
  · simp at hcs
    obtain ⟨rfl, rfl, rfl⟩ := hcs
    exact ⟨[], rfl, by simp, Sl.nil, fun _ => rfl⟩
  · simp at hcs
    obtain ⟨rfl, rfl, rfl⟩ := hcs
    have hlm : len ≤ m := by rw [hmm]; split <;> omega
    have each : ∀ i, i < len → w.cell? (a'.add (i * 2)) = some (.int .i64 (intOf (V0 i))) ∧ w.cell? (a'.add (i * 2 + 1)) = some (.int .i64 (intOf (V1 i))) := by
      intro i hi
      obtain ⟨h0, h1, h2, h3⟩ := hx i (by omega)
      obtain ⟨z0, e0, _, _⟩ := DataW.trod_int Try.underlying3 h2
      obtain ⟨z1, e1, _, _⟩ := DataW.trod_int Try.underlying3 h3
      simp only [List.cons.injEq, and_true] at e0 e1
      rw [h0, h1, e0, e1]
      exact ⟨rfl, rfl⟩
    refine ⟨(List.range len).map fun i => (intOf (V0 i), intOf (V1 i)), by simp, by simp; unfold maxLen at hm; omega, ?_, fun h => by cases h⟩
    intro j hj
    have hj' : j < len := by simpa using hj
    obtain ⟨h0, h1⟩ := each j hj'
    obtain ⟨b, off, spot⟩ := a'
    cases spot with
    | some s => exact absurd (each 0 (by omega)).1 (by simp only [Nat.zero_mul, Addr.add, World.cell?, if_pos]; split <;> simp)
    | none =>
      have hadd : ∀ k, (⟨b, off, none⟩ : Addr).add k = ⟨b, off + k, none⟩ := fun k => by unfold Addr.add; split <;> simp_all
      rw [hadd] at h0 h1
      refine ⟨b, off, rfl, World.block_lt_of_cell? w ⟨b, off + j * 2, none⟩ h0, fun i u hu => ?_⟩
      simp only [List.getElem_map, List.getElem_range, enc2] at hu
      match i, hu with
      | 0, hu => simp only [List.getElem?_cons_zero, Option.some.injEq] at hu; rw [Nat.add_zero, h0, hu]
      | 1, hu => simp only [List.getElem?_cons_succ, List.getElem?_cons_zero, Option.some.injEq] at hu; rw [Nat.add_assoc, h1, hu]
      | i + 2, hu => simp at hu
end Go.Proofs.Ytbjhehmglahmpaa
