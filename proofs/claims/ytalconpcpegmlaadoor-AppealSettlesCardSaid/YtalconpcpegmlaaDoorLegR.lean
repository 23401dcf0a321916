import Derived.Test.YtalconpcpegmlaaDoorLegC
import Derived.OpenShut
import Derived.Deep.Slices
import Derived.Lib.SmallJoins
/- A slice of notes that came in, as a row's proof opens it. -/
namespace Go.Proofs.YtalconpcpegmlaaDoor
open Go.RowKit Go.Joins Go.Deep

def boolOf : Option Value → Bool
  | some (.bool b) => b
  | _ => false
theorem u8_wf {z : Int} (h : (Lit.int .u8 z).wf = true) : 0 ≤ z ∧ z ≤ 255 := by
  have m1 : IntKind.min .u8 = 0 := by decide
  have m2 : IntKind.max .u8 = 255 := by decide
  simp [Lit.wf, m1, m2] at h
  exact h
set_option maxRecDepth 100000 in
theorem sl_of_notes {H : Type} {enc : TypeId × Value → H} {w : World} {base : Nat} {spare : Nat → Bool} {held : Bool} {fuel : Nat} {a : Option Addr} {len cap : Nat} {x : DataW H × List MemPlace}
    (h : DataW.trod enc Tryd.prog w base spare held fuel 25 [.slice a len cap] = some x) :
    ∃ l : List Nt, l.length = len ∧ l.length ≤ 9223372036854775807 ∧ Sl 5 encN w a l ∧ BtU l := by
  rcases Go.Deep.open_slice Tryd.underlying25 h with ⟨hcs, _⟩ | ⟨a', len', cap', m, n, D, Pl, hcs, _, hl, hm, hmm, hxx, hx⟩
  · simp at hcs
    obtain ⟨rfl, rfl, rfl⟩ := hcs
    exact ⟨[], rfl, by simp, Sl.nil, fun x hx => by cases hx⟩
  · simp at hcs
    obtain ⟨rfl, rfl, rfl⟩ := hcs
    have hlm : len ≤ m := by rw [hmm]; split <;> omega
    have ce : Tryd.prog.cellsOf 62 = 5 := by kernel_rfl
    have c1 : Tryd.prog.cellsOf 5 = 1 := by kernel_rfl
    have c2 : Tryd.prog.cellsOf 4 = 1 := by kernel_rfl
    have each : ∀ i, i < len → ∃ z0 z1 z2 z3 b, w.cell? (a'.add (i * 5)) = some (.int .u8 z0) ∧ w.cell? (a'.add (i * 5 + 1)) = some (.int .u8 z1) ∧ w.cell? (a'.add (i * 5 + 2)) = some (.int .u8 z2) ∧ w.cell? (a'.add (i * 5 + 3)) = some (.int .u8 z3) ∧ w.cell? (a'.add (i * 5 + 4)) = some (.bool b) ∧
        (0 ≤ z0 ∧ z0 ≤ 255) ∧ (0 ≤ z1 ∧ z1 ≤ 255) ∧ (0 ≤ z2 ∧ z2 ≤ 255) ∧ (0 ≤ z3 ∧ z3 ≤ 255) := by
      intro i hi
      obtain ⟨cs', h1, h2⟩ := hx i (by omega)
      rw [ce] at h1
      obtain ⟨_, hlen, hcell⟩ := World.cells?_some h1
      obtain ⟨xs, m', _, hxe, hl5, hxl, hall⟩ := DataW.trod_struct Tryd.underlying62 h2
      have g0 := hall 0 _ rfl
      have g1 := hall 1 _ rfl
      have g2 := hall 2 _ rfl
      have g3 := hall 3 _ rfl
      have g4 := hall 4 _ rfl
      clear hall
      have hxl5 : xs.length = 5 := hxl
      obtain ⟨x0, x1, x2, x3, x4, rfl⟩ : ∃ x0 x1 x2 x3 x4, xs = [x0, x1, x2, x3, x4] := by
        match xs, hxl5 with
        | [x0, x1, x2, x3, x4], _ => exact ⟨x0, x1, x2, x3, x4, rfl⟩
      match cs', hlen with
      | [v0, v1, v2, v3, v4], _ =>
        replace g0 : DataW.trod enc Tryd.prog w base spare held m' 5 (List.take (Tryd.prog.cellsOf 5) (List.drop 0 [v0, v1, v2, v3, v4])) = some x0 := g0
        replace g1 : DataW.trod enc Tryd.prog w base spare held m' 5 (List.take (Tryd.prog.cellsOf 5) (List.drop 1 [v0, v1, v2, v3, v4])) = some x1 := g1
        replace g2 : DataW.trod enc Tryd.prog w base spare held m' 5 (List.take (Tryd.prog.cellsOf 5) (List.drop 2 [v0, v1, v2, v3, v4])) = some x2 := g2
        replace g3 : DataW.trod enc Tryd.prog w base spare held m' 5 (List.take (Tryd.prog.cellsOf 5) (List.drop 3 [v0, v1, v2, v3, v4])) = some x3 := g3
        replace g4 : DataW.trod enc Tryd.prog w base spare held m' 4 (List.take (Tryd.prog.cellsOf 4) (List.drop 4 [v0, v1, v2, v3, v4])) = some x4 := g4
        rw [c1] at g0 g1 g2 g3
        rw [c2] at g4
        obtain ⟨z0, e0, _, f0⟩ := DataW.trod_int Tryd.underlying5 g0
        obtain ⟨z1, e1, _, f1⟩ := DataW.trod_int Tryd.underlying5 g1
        obtain ⟨z2, e2, _, f2⟩ := DataW.trod_int Tryd.underlying5 g2
        obtain ⟨z3, e3, _, f3⟩ := DataW.trod_int Tryd.underlying5 g3
        obtain ⟨b, e4, _⟩ := DataW.trod_bool Tryd.underlying4 g4
        simp only [List.drop_zero, List.drop_succ_cons, List.take_succ_cons, List.take_zero, List.cons.injEq, and_true] at e0 e1 e2 e3 e4
        subst e0; subst e1; subst e2; subst e3; subst e4
        have k0 := hcell 0 (by omega)
        have k1 := hcell 1 (by omega)
        have k2 := hcell 2 (by omega)
        have k3 := hcell 3 (by omega)
        have k4 := hcell 4 (by omega)
        rw [add_add] at k0 k1 k2 k3 k4
        exact ⟨z0, z1, z2, z3, b, by simpa using k0, by simpa using k1, by simpa using k2, by simpa using k3, by simpa using k4, u8_wf f0, u8_wf f1, u8_wf f2, u8_wf f3⟩
    refine ⟨(List.range len).map fun i => ⟨intOf ((w.cell? (a'.add (i * 5))).getD undef), intOf ((w.cell? (a'.add (i * 5 + 1))).getD undef), intOf ((w.cell? (a'.add (i * 5 + 2))).getD undef), intOf ((w.cell? (a'.add (i * 5 + 3))).getD undef), boolOf (w.cell? (a'.add (i * 5 + 4)))⟩, by simp, by simp; unfold maxLen at hm; omega, ?_, ?_⟩
    · intro j hj
      have hj' : j < len := by simpa using hj
      obtain ⟨z0, z1, z2, z3, bb, h0, h1, h2, h3, h4, _⟩ := each j hj'
      obtain ⟨b, off, spot⟩ := a'
      cases spot with
      | some s =>
        obtain ⟨_, _, _, _, _, h0', _⟩ := each 0 (by omega)
        exact absurd h0' (by simp only [Nat.zero_mul, Addr.add, World.cell?, if_pos]; split <;> simp)
      | none =>
        have hadd : ∀ k, (⟨b, off, none⟩ : Addr).add k = ⟨b, off + k, none⟩ := fun k => by unfold Addr.add; split <;> simp_all
        simp only [hadd] at h0 h1 h2 h3 h4 ⊢
        refine ⟨b, off, rfl, World.block_lt_of_cell? w ⟨b, off + j * 5, none⟩ h0, fun i u hu => ?_⟩
        simp only [List.getElem_map, List.getElem_range, encN, h0, h1, h2, h3, h4, boolOf, Option.getD_some, intOf] at hu
        match i, hu with
        | 0, hu => simp only [List.getElem?_cons_zero, Option.some.injEq] at hu; rw [Nat.add_zero, h0, hu]
        | 1, hu => simp only [List.getElem?_cons_succ, List.getElem?_cons_zero, Option.some.injEq] at hu; rw [Nat.add_assoc, h1, hu]
        | 2, hu => simp only [List.getElem?_cons_succ, List.getElem?_cons_zero, Option.some.injEq] at hu; rw [Nat.add_assoc, h2, hu]
        | 3, hu => simp only [List.getElem?_cons_succ, List.getElem?_cons_zero, Option.some.injEq] at hu; rw [Nat.add_assoc, h3, hu]
        | 4, hu => simp only [List.getElem?_cons_succ, List.getElem?_cons_zero, Option.some.injEq] at hu; rw [Nat.add_assoc, h4, hu]
        | i + 5, hu => simp at hu
    · intro x hx
      obtain ⟨i, hi, rfl⟩ := List.mem_map.1 hx
      obtain ⟨z0, z1, z2, z3, bb, h0, h1, h2, h3, _, k0, k1, k2, k3⟩ := each i (List.mem_range.1 hi)
      simp only [h0, h1, h2, h3, Option.getD_some, intOf]
      exact ⟨k0, k1, k2, k3⟩
end Go.Proofs.YtalconpcpegmlaaDoor
