import Derived.Test.YtbjhehmglahmpaaSpanWf
import Derived.OpenShut
namespace Go.Proofs.Ytbjhehmglahmpaa
open Go.RowKit

/-- A slice of 16-bit numbers that came in, as the row's proof opens it. -/
theorem sl_of_row {w : World} {a : Option Addr} {len cap : Nat} {zs : List Int} (h : (a = none ∧ len = 0 ∧ cap = 0 ∧ zs = []) ∨
    ∃ x, a = some x ∧ len ≤ cap ∧ cap ≤ maxLen ∧ zs.length = cap ∧ (∀ i, i < zs.length → w.cell? (x.add i) = some (.int .u16 (zs.getD i 0))) ∧ ∀ n ∈ zs, (Lit.int .u16 n).wf = true) :
    ∃ l : List Int, l.length = len ∧ l.length ≤ 9223372036854775807 ∧ Sl 1 encU w a l ∧ ∀ x ∈ l, 0 ≤ x ∧ x ≤ 65535 := by
  rcases h with ⟨rfl, rfl, _, _⟩ | ⟨x, rfl, h1, h2, h3, h4, h5⟩
  · exact ⟨[], rfl, by simp, Sl.nil, by simp⟩
  · have hlen : (zs.take len).length = len := by rw [List.length_take]; omega
    refine ⟨zs.take len, hlen, by unfold maxLen at h2; omega, ?_, fun n hn => ?_⟩
    · intro j hj
      rw [hlen] at hj
      have hc := h4 j (by omega)
      obtain ⟨b, off, spot⟩ := x
      cases spot with
      | some s => exact absurd (h4 0 (by omega)) (by simp only [Addr.add, World.cell?, if_pos]; split <;> simp)
      | none =>
        have hadd : (⟨b, off, none⟩ : Addr).add j = ⟨b, off + j, none⟩ := by unfold Addr.add; split <;> simp_all
        rw [hadd] at hc
        refine ⟨b, off, rfl, World.block_lt_of_cell? w ⟨b, off + j, none⟩ hc, fun i u hu => ?_⟩
        have hi : i = 0 := by have := (List.getElem?_eq_some_iff.1 hu).1; simp [encU] at this; exact this
        subst hi
        simp only [encU, List.getElem?_cons_zero, Option.some.injEq, List.getElem_take] at hu
        rw [Nat.mul_one, Nat.add_zero, hc, ← hu]
        rw [List.getD_eq_getElem?_getD, List.getElem?_eq_getElem (by omega)]; rfl
    · have := bounds_u16 (h5 n (List.mem_of_mem_take hn)); omega
end Go.Proofs.Ytbjhehmglahmpaa
