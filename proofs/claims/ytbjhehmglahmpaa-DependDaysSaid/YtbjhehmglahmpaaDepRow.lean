import Derived.Test.YtbjhehmglahmpaaDepA
import Derived.OpenShut
import Derived.Deep.Slices
import Derived.Lib.SmallJoins
import Derived.SizedLaws
/- What was examined, as a row's proof opens it. -/
namespace Go.Proofs.Ytbjhehmglahmpaa
open Go.RowKit Go.Joins Go.Deep

def strOf : Option Value → ByteArray
  | some (.string s) => s
  | _ => ⟨#[]⟩
set_option maxRecDepth 100000 in
theorem sl_of_reads {H : Type} {enc : TypeId × Value → H} {w : World} {base : Nat} {spare : Nat → Bool} {held : Bool} {fuel : Nat} {a : Option Addr} {len cap : Nat} {x : DataW H × List MemPlace}
    (h : DataW.trod enc Try.prog w base spare held fuel 23 [.slice a len cap] = some x) :
    ∃ l : List Rd, l.length = len ∧ Sl 3 encR w a l ∧ (∀ x ∈ l, x.1.size ≤ maxLen) ∧ (len = 0 ∨ ∃ el sp, x.1 = .slice el sp ∧ el.length = len) := by
  rcases Go.Deep.open_slice Try.underlying23 h with ⟨hcs, _⟩ | ⟨a', len', cap', m, n, D, Pl, hcs, _, hl, hm, hmm, hxx, hx⟩
  · simp at hcs
    obtain ⟨rfl, rfl, rfl⟩ := hcs
    exact ⟨[], rfl, Sl.nil, by simp, .inl rfl⟩
  · simp at hcs
    obtain ⟨rfl, rfl, rfl⟩ := hcs
    have hlm : len ≤ m := by rw [hmm]; split <;> omega
    have ce : Try.prog.cellsOf 86 = 3 := by kernel_rfl
    have each : ∀ i, i < len → ∃ s f t, w.cell? (a'.add (i * 3)) = some (.string s) ∧ w.cell? (a'.add (i * 3 + 1)) = some (.int .i64 f) ∧ w.cell? (a'.add (i * 3 + 2)) = some (.int .i64 t) ∧ s.size ≤ maxLen := by
      intro i hi
      obtain ⟨cs', h1, h2⟩ := hx i (by omega)
      rw [ce] at h1
      obtain ⟨_, hlen, hcell⟩ := World.cells?_some h1
      obtain ⟨y0, y1, y2, k, _, _, g0, g1, g2⟩ := trod_struct3 Try.underlying86 h2
      match cs', hlen with
      | [v0, v1, v2], _ =>
        have c1 : Try.prog.cellsOf 9 = 1 := by kernel_rfl
        have c2 : Try.prog.cellsOf 3 = 1 := by kernel_rfl
        simp only [c1, c2, List.drop_zero, List.drop_succ_cons, List.take_succ_cons, List.take_zero] at g0 g1 g2
        obtain ⟨s, e0, _, hs⟩ := DataW.trod_string Try.underlying9 g0
        obtain ⟨f, e1, _, _⟩ := DataW.trod_int Try.underlying3 g1
        obtain ⟨t, e2, _, _⟩ := DataW.trod_int Try.underlying3 g2
        simp only [List.cons.injEq, and_true] at e0 e1 e2
        subst e0; subst e1; subst e2
        have k0 := hcell 0 (by omega)
        have k1 := hcell 1 (by omega)
        have k2 := hcell 2 (by omega)
        rw [add_add] at k0 k1 k2
        exact ⟨s, f, t, by simpa using k0, by simpa using k1, by simpa using k2, hs⟩
    refine ⟨(List.range len).map fun i => (strOf (w.cell? (a'.add (i * 3))), intOf ((w.cell? (a'.add (i * 3 + 1))).getD undef), intOf ((w.cell? (a'.add (i * 3 + 2))).getD undef)), by simp, ?_, ?_, .inr ⟨_, _, by rw [hxx], by simp⟩⟩
    · intro j hj
      have hj' : j < len := by simpa using hj
      obtain ⟨s, f, t, h0, h1, h2, _⟩ := each j hj'
      obtain ⟨b, off, spot⟩ := a'
      cases spot with
      | some s =>
        obtain ⟨s', f', t', h0', _⟩ := each 0 (by omega)
        exact absurd h0' (by simp only [Nat.zero_mul, Addr.add, World.cell?, if_pos]; split <;> simp)
      | none =>
        have hadd : ∀ k, (⟨b, off, none⟩ : Addr).add k = ⟨b, off + k, none⟩ := fun k => by unfold Addr.add; split <;> simp_all
        simp only [hadd] at h0 h1 h2 ⊢
        refine ⟨b, off, rfl, World.block_lt_of_cell? w ⟨b, off + j * 3, none⟩ h0, fun i u hu => ?_⟩
        simp only [List.getElem_map, List.getElem_range, encR, h0, h1, h2, strOf, Option.getD_some, intOf] at hu
        match i, hu with
        | 0, hu => simp only [List.getElem?_cons_zero, Option.some.injEq] at hu; rw [Nat.add_zero, h0, hu]
        | 1, hu => simp only [List.getElem?_cons_succ, List.getElem?_cons_zero, Option.some.injEq] at hu; rw [Nat.add_assoc, h1, hu]
        | 2, hu => simp only [List.getElem?_cons_succ, List.getElem?_cons_zero, Option.some.injEq] at hu; rw [Nat.add_assoc, h2, hu]
        | i + 3, hu => simp at hu
    · intro x hx
      obtain ⟨i, hi, rfl⟩ := List.mem_map.1 hx
      obtain ⟨s, f, t, h0, _, _, hs⟩ := each i (List.mem_range.1 hi)
      simp only [h0, strOf]
      exact hs

set_option maxRecDepth 100000 in
theorem open_reads {H : Type} {enc : TypeId × Value → H} {w : World} {base b0 : Nat} {r : Reach} {spare : Nat → Bool} {held : Bool} {v : Value} {d : DataW H} {p : List MemPlace}
    (hv : Value.okWide Try.prog w r b0 26 v) (h : DataW.Trod enc Try.prog w base spare held 26 v d p) (hz : ∀ n ∈ d.weights Try.prog 26, n ≤ reachBytes) :
    ∃ pp np cp pf cf pt nt ct, ∃ fs : List Rd, v = .agg #[.slice pp np cp, .slice pf fs.length cf, .slice pt nt ct] ∧ Sl 3 encR w pf fs ∧ fs.length ≤ 4398046511104 ∧ ∀ x ∈ fs, x.1.size ≤ maxLen := by
  obtain ⟨v0, v1, v2, y0, y1, y2, n, rfl, rfl, _, h0, h1, h2⟩ := open_agg3 Try.underlying26 (by kernel_rfl) (by kernel_rfl) hv h
  have sl : ∀ {t e : TypeId} {v : Value} {y : DataW H × List MemPlace}, Try.prog.underlying t = some (.slice e) → DataW.trod enc Try.prog w base spare held n t [v] = some y → ∃ a l c, v = .slice a l c := by
    intro t e v y ht hh
    rcases DataW.trod_slice ht hh with ⟨e1, _⟩ | ⟨a, l, c, _, _, _, _, e1, _⟩
    · simp only [List.cons.injEq, and_true] at e1; exact ⟨_, _, _, e1⟩
    · simp only [List.cons.injEq, and_true] at e1; exact ⟨_, _, _, e1⟩
  obtain ⟨pp, np, cp, rfl⟩ := sl Try.underlying22 h0
  obtain ⟨pf, nf, cf, rfl⟩ := sl Try.underlying23 h1
  obtain ⟨pt, nt, ct, rfl⟩ := sl Try.underlying24 h2
  obtain ⟨fs, rfl, hs, hsz, hlen⟩ := sl_of_reads h1
  refine ⟨pp, np, cp, pf, cf, pt, nt, ct, fs, rfl, hs, ?_, hsz⟩
  rcases hlen with h0 | ⟨el, sp, he, hl⟩
  · omega
  · have hb : Try.prog.bytesOf 86 = 32 := by kernel_rfl
    have := hz ((el.length + sp.length) * 32) (by
      simp only [DataW.weights, Try.underlying26]
      refine DataW.weights_mem_each (j := 1) (t := 23) (d := y1.1) rfl rfl _ ?_
      rw [he]
      simp [DataW.weights, Try.underlying23, hb])
    have hr := reachBytes_lt
    rw [hl] at this
    have e47 : (2 : Nat) ^ 47 = 140737488355328 := by decide
    omega
end Go.Proofs.Ytbjhehmglahmpaa
