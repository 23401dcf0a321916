import Derived.Test.YtalconpcpegmlaaDoorAppH
import Derived.WideShapes
import Derived.Lib.LaidU8
import Derived.Maps.Keyed
import Derived.WideKeyElems2
import Derived.Test.YtalconpcpegmlaaDoorRows
import Derived.ChangeBears2
/- appeal.formed, against the plain model; the laid variable. -/
namespace Go.Proofs.YtalconpcpegmlaaDoor
open Go.RowKit

theorem formedE_none {f : Fl} {s lo hi : Int} (h : rowP f.kind = none) : formedE f s lo hi false = formedB f := by
  unfold formedE formedB; rw [h]; rfl
theorem formedE_some {f : Fl} {s lo hi : Int} (h : rowP f.kind = some (s, lo, hi)) : formedE f s lo hi true = formedB f := by
  unfold formedE formedB
  rw [h, Bool.eq_iff_iff]
  by_cases k1 : f.kind = 1
  · by_cases hh : f.hold = true
    · simp [k1, hh]
    · simp [k1, hh]; omega
  · by_cases hh : f.hold = true
    · by_cases k5 : f.kind = 5
      · simp [hh, k5]; omega
      · simp [hh, k5]
    · simp [k1, hh]; omega
/-- What the laid variable says of a kind. -/
def lookV (c : Bool) (k : Int) : Value := match rowP k with
  | some (s, lo, hi) => if c then .tuple #[.agg #[.int .u8 s, .int .i64 lo, .int .i64 hi], .bool true] else .agg #[.int .u8 s, .int .i64 lo, .int .i64 hi]
  | none => if c then .tuple #[.agg #[.int .u8 0, .int .i64 0, .int .i64 0], .bool false] else .agg #[.int .u8 0, .int .i64 0, .int .i64 0]
/-- The variable appeal.rows stands as it is laid, and whatever grows out of the world leaves it so. -/
structure RowsAt (m : Option Nat) (w : World) : Prop where
  lt : 0 < w.heap.size
  cell : w.cell? ⟨0, 0, none⟩ = some (.map m)
  look : ∀ (c : Bool) (k : Int) (x : World), 0 ≤ k → k < 256 → Ext w x → (Instr.lookup 98 (.map m) (.int .u8 k) c).run Tryd.prog x = .ok (lookV c k) x
theorem RowsAt.ext {m : Option Nat} {w w' : World} (h : RowsAt m w) (hx : Ext w w') : RowsAt m w' :=
  ⟨Nat.lt_of_lt_of_le h.lt hx.size, (hx.cells.1 0 0 h.lt).trans h.cell, fun c k x h0 h1 hy => h.look c k x h0 h1 (hx.trans hy)⟩
theorem formed_c (f : Fl) (m : Option Nat) (w : World) (h : RowsAt m w) (hk : 0 ≤ f.kind ∧ f.kind < 256) :
    Calls Tryd.prog 58 #[.agg #[.int .u8 f.kind, .int .i64 f.day, .int .i64 f.cs, .int .i64 f.n, .int .i64 f.un, .bool f.hold]] w fun e w' => e = .returned (.bool (formedB f)) ∧ Ext w w' := by
  cases hr : rowP f.kind with
  | none =>
    rw [← formedE_none (s := 0) (lo := 0) (hi := 0) hr]
    exact formed_any f m 0 0 0 false w h.cell h.lt (fun x hx => by have e := h.look true f.kind x hk.1 hk.2 hx; unfold lookV at e; rw [hr] at e; exact e)
  | some r =>
    obtain ⟨s, lo, hi⟩ := r
    rw [← formedE_some hr]
    exact formed_any f m s lo hi true w h.cell h.lt (fun x hx => by have e := h.look true f.kind x hk.1 hk.2 hx; unfold lookV at e; rw [hr] at e; exact e)
end Go.Proofs.YtalconpcpegmlaaDoor
/- The laid variable appeal.rows: what its reading says of every lookup, in whatever world grows out of it. -/
namespace Go.Proofs.YtalconpcpegmlaaDoor
open Go.RowKit

theorem zero_row (w : World) : (zeroValue 97).run Tryd.prog w = .ok (.agg #[.int .u8 0, .int .i64 0, .int .i64 0]) w := by
  go_simp
theorem look_ext {m : Option Nat} {k : Int} {w x : World} {v : Value} {c : Bool} (hx : Ext w x) (hm : ∀ b, m = some b → ∃ es clock, w.heap[b]? = some (.map es clock) ∧ ∀ e ∈ es.toList, MapKept.IsKey (.int .u8) e.key)
    (h : (Instr.lookup 98 (.map m) (.int .u8 k) c).run Tryd.prog w = .ok v w) :
    (Instr.lookup 98 (.map m) (.int .u8 k) c).run Tryd.prog x = .ok v x := by
  have ht := Tryd.underlying98
  have hd : Tryd.prog.underlying 5 = some (.int .u8) := Tryd.underlying5
  have hik : MapKept.IsKey (.int .u8) (.int .u8 k) := by simp [MapKept.IsKey]
  cases m with
  | none =>
    have h1 : Instr.findNow (.int .u8) (.int .u8 k) ([] : List MapEntry) 0 = some none := rfl
    simp [Instr.lookup, run_underlying ht, MapKept.run_checkKey hd hik, MapKept.run_findKey hd h1, Result.andThen] at h ⊢
    exact h
  | some b =>
    obtain ⟨es, clock, hb, hks⟩ := hm b rfl
    have hb2 := heap_ext hb hx
    rcases MapKept.findNow_spec hik es.toList 0 hks with ⟨h1, h2⟩ | ⟨j, e, h1, h2, h3⟩
    · simp [Instr.lookup, run_underlying ht, MapKept.run_getObj_map hb, MapKept.run_getObj_map hb2, MapKept.run_checkKey hd hik, MapKept.run_findKey hd h1, Result.andThen] at h ⊢
      exact h
    · simp [Instr.lookup, run_underlying ht, MapKept.run_getObj_map hb, MapKept.run_getObj_map hb2, MapKept.run_checkKey hd hik, MapKept.run_findKey hd h1, Result.andThen] at h ⊢
      exact h
end Go.Proofs.YtalconpcpegmlaaDoor
/- The laid variable appeal.rows gives RowsAt. -/
namespace Go.Proofs.YtalconpcpegmlaaDoor
open Go.RowKit

theorem row_of_elem {w : World} {n : Nat} {v : Value} {y : DataW Unit × List MemPlace} {s lo hi : Int} (h : WideElems.elemAt (fun _ => ()) Tryd.prog w 0 (fun _ => true) false n 97 v = some y)
    (he : y.1 = .agg [.lit (.int .u8 s), .lit (.int .i64 lo), .lit (.int .i64 hi)]) : v = .agg #[.int .u8 s, .int .i64 lo, .int .i64 hi] := by
  unfold WideElems.elemAt at h
  split at h
  · obtain ⟨xs, m, rfl, hx, hl, hxl, hall⟩ := DataW.trod_struct Tryd.underlying97 h
    have c5 : Tryd.prog.cellsOf 5 = 1 := by kernel_rfl
    have c3 : Tryd.prog.cellsOf 3 = 1 := by kernel_rfl
    have c97 : Tryd.prog.cellsOf 97 = 3 := by kernel_rfl
    have h0 := hall 0 _ rfl
    have h1 := hall 1 _ rfl
    have h2 := hall 2 _ rfl
    clear hall
    have hxl3 : xs.length = 3 := hxl
    rw [c97] at hl
    obtain ⟨x0, x1, x2, rfl⟩ : ∃ x0 x1 x2, xs = [x0, x1, x2] := by
      rcases xs with _ | ⟨x0, _ | ⟨x1, _ | ⟨x2, _ | ⟨_, _⟩⟩⟩⟩
      · simp at hxl3
      · simp at hxl3
      · simp at hxl3
      · exact ⟨x0, x1, x2, rfl⟩
      · simp at hxl3
    obtain ⟨a, b, c, hv⟩ : ∃ a b c, v.cells.toList = [a, b, c] := by
      rcases hq : v.cells.toList with _ | ⟨a, _ | ⟨b, _ | ⟨c, _ | ⟨_, _⟩⟩⟩⟩
      · rw [hq] at hl; simp at hl
      · rw [hq] at hl; simp at hl
      · rw [hq] at hl; simp at hl
      · exact ⟨a, b, c, rfl⟩
      · rw [hq] at hl; simp at hl
    have hva : v = .agg #[a, b, c] := by
      cases v with
      | agg cs =>
        have : cs = #[a, b, c] := by apply Array.ext'; exact hv
        rw [this]
      | _ => exact absurd (congrArg List.length hv) (by simp [Value.cells])
    replace h0 : DataW.trod (fun _ => ()) Tryd.prog w 0 (fun _ => true) false m 5 (List.take (Tryd.prog.cellsOf 5) (List.drop 0 v.cells.toList)) = some x0 := h0
    rw [c5, hv] at h0
    replace h1 : DataW.trod (fun _ => ()) Tryd.prog w 0 (fun _ => true) false m 3 (List.take (Tryd.prog.cellsOf 3) (List.drop 1 v.cells.toList)) = some x1 := h1
    rw [c3, hv] at h1
    replace h2 : DataW.trod (fun _ => ()) Tryd.prog w 0 (fun _ => true) false m 3 (List.take (Tryd.prog.cellsOf 3) (List.drop 2 v.cells.toList)) = some x2 := h2
    rw [c3, hv] at h2
    obtain ⟨z0, hz0, rfl, _⟩ := DataW.trod_int Tryd.underlying5 h0
    obtain ⟨z1, hz1, rfl, _⟩ := DataW.trod_int Tryd.underlying3 h1
    obtain ⟨z2, hz2, rfl, _⟩ := DataW.trod_int Tryd.underlying3 h2
    subst hx
    cases he
    cases hz0
    cases hz1
    cases hz2
    exact hva
  · cases h
set_option maxRecDepth 100000 in
theorem rowsAt_of_laid {w : World} (h : laidMet Tryd.prog [("annuitant/appeal.rows", Rows.laid_annuitant_appeal_rows)] w) : ∃ m, RowsAt m w := by
  obtain ⟨g, t, cs, fuel, p, h1, h2, h3, h4⟩ := Lib.laidMet.reads h (.head _)
  have e1 : Tryd.prog.globalNamed "annuitant/appeal.rows" = some 0 := by kernel_rfl
  have hg0 : g = 0 := by rw [e1] at h1; exact (Option.some.inj h1).symm
  subst hg0
  have e2 : (Tryd.prog.globals[0]?).map (·.type) = some 98 := by kernel_rfl
  have ht0 : t = 98 := by rw [e2] at h2; exact (Option.some.inj h2).symm
  subst ht0
  have ht := Tryd.underlying98
  rcases WideElems.open_map ht h4 with ⟨_, he⟩ | ⟨b, es, clock, n, rfl, hcs, hb, _, F, hx⟩
  · have e := congrArg Prod.fst he
    cases e
  · have hc : w.cell? ⟨0, 0, none⟩ = some (.map (some b)) := by
      rw [var?_cell h1 h3 0]
      have : cs = #[.map (some b)] := by apply Array.ext'; simpa using hcs
      rw [this]; rfl
    refine ⟨some b, Nat.lt_of_not_le fun h0 => ?_, hc, fun c k x k0 k1 hw => ?_⟩
    · have h9 : w.heap[0]? = none := Array.getElem?_eq_none h0
      simp [World.cell?, h9] at hc
    · have K : Maps.Keyed Tryd.prog 5 := Maps.int_keyed Tryd.underlying5
      have hkey : keyOf Tryd.prog 5 (.int .u8 k) = some (.int .u8 k) := by
        have hu : Tryd.prog.underlying 5 = some (.int .u8) := Tryd.underlying5
        have hm : (Lit.int .u8 k).wf = true := by
          have m1 : IntKind.min .u8 = 0 := by decide
          have m2 : IntKind.max .u8 = 255 := by decide
          simp [Lit.wf, m1, m2]; omega
        simp [keyOf, mapKey, hu, hm]
      have hat : ∀ zd, (Rows.laid_annuitant_appeal_rows (H := Unit)).atKey (.int .u8 k) zd = match rowP k with | some (s, lo, hi) => .agg [.lit (.int .u8 s), .lit (.int .i64 lo), .lit (.int .i64 hi)] | none => zd := by
        intro zd
        by_cases a1 : k = 1
        · subst a1; rfl
        by_cases a2 : k = 2
        · subst a2; rfl
        by_cases a3 : k = 3
        · subst a3; rfl
        by_cases a4 : k = 4
        · subst a4; rfl
        by_cases a5 : k = 5
        · subst a5; rfl
        by_cases a6 : k = 6
        · subst a6; rfl
        by_cases a7 : k = 7
        · subst a7; rfl
        simp only [Rows.laid_annuitant_appeal_rows, DataW.atKey, rowP]
        simp [List.find?, Lit.sameKey, a1, a2, a3, a4, a5, a6, a7, Ne.symm a1, Ne.symm a2, Ne.symm a3, Ne.symm a4, Ne.symm a5, Ne.symm a6, Ne.symm a7]
      have hd : (Rows.laid_annuitant_appeal_rows (H := Unit)) = .map ((es.toList.map (WideElems.rg Tryd.prog 5 (WideElems.elemAt (fun _ => ()) Tryd.prog w 0 (fun _ => true) false n 97))).foldr DataW.insert []) := congrArg Prod.fst hx
      rw [hd] at hat
      rcases Maps.fit_look c K ht (zero_row x) (heap_ext hb hw) F hkey with ⟨hr, _, ha⟩ | ⟨e0, y, _, _, hr, hR, ha, _⟩
      · rw [hr]
        unfold lookV
        cases h5 : rowP k with
        | none => rfl
        | some r =>
          have e := (hat .nil).symm.trans (ha .nil)
          rw [h5] at e
          cases e
      · rw [hr]
        unfold lookV
        cases h5 : rowP k with
        | none =>
          have e := (ha .nil).symm.trans (hat .nil)
          have e' := (ha (.agg [])).symm.trans (hat (.agg []))
          rw [h5] at e e'
          cases e.symm.trans e'
        | some r =>
          obtain ⟨s, lo, hi⟩ := r
          have e := (ha .nil).symm.trans (hat .nil)
          rw [h5] at e
          rw [row_of_elem hR e]
end Go.Proofs.YtalconpcpegmlaaDoor
/- What the acts do, against the plain model's doP. -/
namespace Go.Proofs.YtalconpcpegmlaaDoor
open Go.RowKit

theorem doP_choose {f : Fl} {c : Cs} (h : f.kind = 2) : doP f c = if f.n > c.dy then (c, (402 : Int)) else ({ c with ch := f.n }, 0) := by unfold doP; rw [if_pos h]
theorem doP_appeal {f : Fl} {c : Cs} (h : f.kind = 5) : doP f c = (appealP f c, 0) := by unfold doP appealP; rw [if_neg (by omega), if_pos h]
theorem doP_rule {f : Fl} {c : Cs} (h : f.kind = 6) : doP f c = (if f.n = 2 then endP c 5 f.day else upholdP c f.day, 0) := by unfold doP; rw [if_neg (by omega), if_neg (by omega), if_pos h]
theorem doP_close {f : Fl} {c : Cs} (h2 : f.kind ≠ 2) (h5 : f.kind ≠ 5) (h6 : f.kind ≠ 6) : doP f c = (endP c 4 f.day, 0) := by unfold doP; rw [if_neg h2, if_neg h5, if_neg h6]
theorem formed_kind {f : Fl} (h : formedB f = true) : rowP f.kind ≠ none := by
  intro hr
  unfold formedB at h
  rw [hr] at h
  cases h
theorem formed_kinds {f : Fl} (h : formedB f = true) : 1 ≤ f.kind ∧ f.kind ≤ 7 := by
  have := formed_kind h
  unfold rowP at this
  by_cases a : 1 ≤ f.kind ∧ f.kind ≤ 7
  · exact a
  · exfalso
    apply this
    rw [if_neg (by omega), if_neg (by omega), if_neg (by omega), if_neg (by omega), if_neg (by omega), if_neg (by omega), if_neg (by omega)]
theorem formed_days {f : Fl} (h : formedB f = true) : 0 ≤ f.day ∧ f.day < 65536 := by
  unfold formedB at h
  split at h
  · cases h
  · rw [Bool.and_eq_true] at h
    have := of_decide_eq_true h.1
    exact ⟨this.1, this.2.1⟩
end Go.Proofs.YtalconpcpegmlaaDoor
