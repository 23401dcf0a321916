import Derived.Test.YtalconpcpegmlaaDoorLegT
import Derived.OpenShut
import Derived.Deep.Slices
import Derived.Lib.SmallJoins
/- annuitantkit.Pick, walked; the cases on a day, as they read; a prefix of filings. -/
namespace Go.Proofs.YtalconpcpegmlaaDoor
open Go.RowKit
set_option linter.unusedVariables false

theorem pick_c (x n : Int) (w : World) (hx : -9223372036854775808 ≤ x ∧ x ≤ 9223372036854775807) (hn : 1 ≤ n ∧ n ≤ 1000000) :
    Calls Tryd.prog 20 #[.int .i64 x, .int .i64 n] w fun e w' => e = .returned (.int .i64 (pickP x n)) ∧ w = w' := by
  have hbd := pickP_bd x hn.1
  have hq : decide (n < 1) = false := by simpa using hn.1
  by_cases h : x.tmod n < 0
  · have hp : Hid (pickP x n = x.tmod n + n) := by unfold Hid pickP; rw [if_neg (by omega), if_pos h]
    have hb2 : 0 ≤ x.tmod n + n ∧ x.tmod n + n < n := by rw [← hp.out]; exact hbd
    have hw := IntWalk.i64_in (x.tmod n + n) (by omega)
    clear hbd
    go_enter Tryd.func20, Tryd.ntmps20
    go_wp2_with fail
    go_ret
    rw [hp.out]
    exact ⟨rfl, rfl⟩
  · have hp : Hid (pickP x n = x.tmod n) := by unfold Hid pickP; rw [if_neg (by omega), if_neg h]
    clear hbd
    go_enter Tryd.func20, Tryd.ntmps20
    go_wp2_with fail
    go_ret
    rw [hp.out]
    exact ⟨rfl, rfl⟩
theorem atP_dock {a b : List Fl} (h : dockP a = dockP b) (d : Int) : atP a d = atP b d := by unfold atP; rw [h]
theorem csl_at {w : World} {N : Nat} {l : List Fl} {d : Int} {p : Option Addr} {cap : Nat} {xs : List Cv} (ho : Owns N 39 10 encC w (.slice p xs.length cap) xs) (hh : Helds N w xs) (hm : xs.map (·.1) = (atP l d).1) : Csl w p xs := by
  refine ⟨ho.slOf encC_len, fun x hx => (hh x hx).slOf enc2_len, fun x hx => ?_⟩
  have h1 : x.1 ∈ (atP l d).1 := by rw [← hm]; exact List.mem_map.2 ⟨x, hx, rfl⟩
  unfold atP at h1
  split at h1
  · cases h1
  · rename_i h0
    split at h1
    · cases h1
    · rename_i h2
      obtain ⟨c, hc, hcx⟩ := List.mem_map.1 h1
      rw [← hcx]
      have hci := ((DI.dock l).all c hc).pass (day := d) (by omega) (by omega)
      exact (heldP_spec (d + 1) hci (by omega)).1.len6
theorem Owns.cap {α : Type} {N : Nat} {e : TypeId} {k n cap : Nat} {enc : α → List Value} {w : World} {p : Option Addr} {xs : List α} (h : Owns N e k enc w (.slice p n cap) xs) : n ≤ cap := by
  rcases h.2 with ⟨hv, _⟩ | ⟨g, c, cur, hv, _, _, hn, _⟩
  · simp only [Value.slice.injEq] at hv; omega
  · simp only [Value.slice.injEq] at hv; obtain ⟨_, rfl, rfl⟩ := hv
    exact hn
theorem Sl.takeA {α : Type} {k : Nat} {enc : α → List Value} {w : World} {p : Option Addr} {l : List α} (h : Sl k enc w p l) (n : Nat) : Sl k enc w p (l.take n) := fun j hj => by
  have hj' : j < l.length := by rw [List.length_take] at hj; omega
  obtain ⟨b, off, e, hb, hc⟩ := h j hj'
  refine ⟨b, off, e, hb, ?_⟩
  rw [List.getElem_take]
  exact hc
theorem last_pre (fs : List Fl) (k : Nat) (hk : k ≤ fs.length) (d : Int) (hd : (dockP (fs.take k)).2 = d) (p : Option Addr) (c : Nat) (m : Option Nat) (w : World) (hl : Sl 6 encF w p fs) (hm : fs.length ≤ 1000) (hr : RowsAt m w) (hf : ∀ f ∈ fs, 0 ≤ f.kind ∧ f.kind < 256) :
    Calls Tryd.prog 15 #[.slice p k c] w fun e w' => e = .returned (.int .i64 d) ∧ Ext w w' := by
  have := last_c (fs.take k) p c m w (hl.takeA k) (by rw [List.length_take]; omega) hr (fun f h => hf f (List.mem_of_mem_take h))
  rw [List.length_take, Nat.min_eq_left hk, hd] at this
  exact this
theorem at_pre (fs : List Fl) (k : Nat) (hk : k ≤ fs.length) (D : List Cs × Int) (hD : dockP (fs.take k) = D) (N : Nat) (hN : D.1.length = N) (day : Int) (h1 : D.2 ≤ day) (h2 : day ≤ 65535) (p : Option Addr) (c : Nat) (m : Option Nat) (w : World) (hl : Sl 6 encF w p fs)
    (hm : fs.length ≤ 1000) (hr : RowsAt m w) (hf : ∀ f ∈ fs, 0 ≤ f.kind ∧ f.kind < 256) :
    Calls Tryd.prog 16 #[.slice p k c, .int .i64 day] w fun e w' => ∃ p1 cap xs, e = .returned (.tuple #[.slice p1 N cap, .int .i64 0]) ∧ xs.length = N ∧ xs.map (·.1) = D.1.map (onP · day) ∧ Csl w' p1 xs ∧ Ext w w' := by
  have hat : atP (fs.take k) day = (D.1.map (onP · day), 0) := by rw [← hD]; exact at_from (by rw [hD]; exact h1) h2
  have := at_c (fs.take k) day p c m w (hl.takeA k) (by rw [List.length_take]; omega) hr (fun f h => hf f (List.mem_of_mem_take h))
  rw [List.length_take, Nat.min_eq_left hk] at this
  refine this.mono ?_
  rintro e w' ⟨p1, cap, xs, he, hm1, ho, hh, hx⟩
  have hc := csl_at ho hh hm1
  rw [hat] at he hm1
  have hn : xs.length = N := by have := congrArg List.length hm1; rw [List.length_map, List.length_map, hN] at this; exact this
  refine ⟨p1, cap, xs, ?_, hn, hm1, hc, hx⟩
  rw [he, hn]
theorem lt_cell2 {w : World} {b j : Nat} {v : Value} (h : w.cell? ⟨b, j, none⟩ = some v) : b < w.heap.size := Nat.lt_of_not_le fun h0 => by
  have h9 : w.heap[b]? = none := Array.getElem?_eq_none h0
  simp [World.cell?, h9] at h
theorem keep_cell2 {w0 w : World} {b j : Nat} {v : Value} (h : w0.cell? ⟨b, j, none⟩ = some v) (hx : Ext w0 w) : w.cell? ⟨b, j, none⟩ = some v := (hx.cells.1 _ _ (lt_cell2 h)).trans h
theorem run_at {l : List Fl} (hl : l.length ≤ 1000) {k : Nat} (h : k < l.length) :
    (runP l)[k]? = some (fileP (dockP (l.take k)) l[k]).2 ∧ dockP (l.take (k + 1)) = (fileP (dockP (l.take k)) l[k]).1 := by
  have ht : (l.take k).length = k := by rw [List.length_take]; omega
  have hs := dockP_snoc (l := l.take k) l[k] (by omega)
  rw [← List.take_succ_eq_append_getElem h] at hs
  refine ⟨?_, hs.1⟩
  obtain ⟨r, e, _⟩ := runP_append (l.take (k + 1)) (l.drop (k + 1))
  rw [List.take_append_drop, hs.2] at e
  rw [e, List.append_assoc, List.getElem?_append_right (by rw [runP_len, ht]; omega), runP_len, ht, Nat.sub_self]
  rfl
end Go.Proofs.YtalconpcpegmlaaDoor
/- Slices of numbers that a law of chapter 40 lays. -/
namespace Go.Proofs.YtalconpcpegmlaaDoor
open Go.RowKit
set_option linter.unusedVariables false

def encI (x : Int) : List Value := [.int .i64 x]
theorem encI_len (x : Int) : (encI x).length = 1 := rfl
theorem encI_one (x : Int) : ∀ u ∈ encI x, u.oneCell' = true := by simp [encI, Value.oneCell']
theorem infoI : (Tryd.prog.info? 3).map (fun i => (i.zero, i.size, i.bytes)) = some (some (.int .i64 0), 1, 8) := by kernel_rfl
theorem Owns.litI {w : World} {N : Nat} (x : Int) (hB : N ≤ w.heap.size) : Owns N 3 1 encI (w.alloc (.cells #[.int .i64 x] 3)) (.slice (some ⟨w.heap.size, 0, none⟩) 1 1) [x] :=
  ⟨rfl, .inr ⟨w.heap.size, 1, #[.int .i64 x], rfl, hB, heap_new w _, Nat.le_refl _, by decide, rfl, rfl⟩⟩
theorem Sl.litI {w : World} {b : Nat} (x1 x2 x3 x4 : Int) (hb : b = w.heap.size) : Sl 1 encI (w.alloc (.cells #[.int .i64 x1, .int .i64 x2, .int .i64 x3, .int .i64 x4] 3)) (some ⟨b, 0, none⟩) [x1, x2, x3, x4] := by
  subst hb
  intro j hj
  refine ⟨w.heap.size, 0, rfl, by simp, fun i u hu => ?_⟩
  have hi : i < 1 := by have := (List.getElem?_eq_some_iff.1 hu).1; rwa [encI_len] at this
  obtain rfl : i = 0 := by omega
  rw [cell_of (heap_new w _)]
  simp only [encI, List.getElem?_cons_zero, Option.some.injEq] at hu
  subst hu
  match j, hj with
  | 0, _ => rfl
  | 1, _ => rfl
  | 2, _ => rfl
  | 3, _ => rfl
theorem Sl.atI {w : World} {p : Option Addr} {l : List Int} (h : Sl 1 encI w p l) (k : Nat) (hk : k < l.length) :
    ∃ b off x, p = some ⟨b, off, none⟩ ∧ b < w.heap.size ∧ w.cell? ⟨b, off + k, none⟩ = some (.int .i64 x) ∧ Hid (l[k] = x) := by
  obtain ⟨b, off, e, hb, hc⟩ := h k hk
  have := hc 0 _ rfl
  rw [Nat.mul_one, Nat.add_zero] at this
  exact ⟨b, off, l[k], e, hb, this, rfl⟩
/-- The filings that are taken are filings of the docket. -/
theorem takenP_mem {l : List Fl} {f : Fl} (h : f ∈ takenP l) : f ∈ l := by
  unfold takenP at h
  obtain ⟨x, hx, rfl⟩ := List.mem_map.1 h
  exact (List.of_mem_zip (List.mem_filter.1 hx).1).1
theorem pre_last {l : List Fl} (hl : l.length ≤ 1000) {d : Int} (h0 : 0 ≤ d) (hd : ∀ f ∈ l, f.day ≤ d) : (dockP l).2 ≤ d := by
  rw [(taken l hl).last]
  cases e : (takenP l).getLast? with
  | none => exact h0
  | some f => exact hd f (takenP_mem (List.mem_of_getLast? e))
end Go.Proofs.YtalconpcpegmlaaDoor
/- A slice of notes that came in, as a row's proof opens it. -/
namespace Go.Proofs.YtalconpcpegmlaaDoor
open Go.RowKit Go.Joins Go.Deep

def boolOf : Option Value → Bool
  | some (.bool b) => b
  | _ => false
theorem u8_wf {z : Int} (h : (Lit.int .u8 z).wf = true) : 0 ≤ z ∧ z ≤ 255 := by
  have m1 : IntKind.min .u8 = 0 := by decide
  have m2 : IntKind.max .u8 = 255 := by decide
  simp [Lit.wf, m1, m2] at h
  exact h
set_option maxRecDepth 100000 in
theorem sl_of_notes {H : Type} {enc : TypeId × Value → H} {w : World} {base : Nat} {spare : Nat → Bool} {held : Bool} {fuel : Nat} {a : Option Addr} {len cap : Nat} {x : DataW H × List MemPlace}
    (h : DataW.trod enc Tryd.prog w base spare held fuel 25 [.slice a len cap] = some x) :
    ∃ l : List Nt, l.length = len ∧ l.length ≤ 9223372036854775807 ∧ Sl 5 encN w a l ∧ BtU l := by
  rcases Go.Deep.open_slice Tryd.underlying25 h with ⟨hcs, _⟩ | ⟨a', len', cap', m, n, D, Pl, hcs, _, hl, hm, hmm, hxx, hx⟩
  · simp at hcs
    obtain ⟨rfl, rfl, rfl⟩ := hcs
    exact ⟨[], rfl, by simp, Sl.nil, fun x hx => by cases hx⟩
  · simp at hcs
    obtain ⟨rfl, rfl, rfl⟩ := hcs
    have hlm : len ≤ m := by rw [hmm]; split <;> omega
    have ce : Tryd.prog.cellsOf 62 = 5 := by kernel_rfl
    have c1 : Tryd.prog.cellsOf 5 = 1 := by kernel_rfl
    have c2 : Tryd.prog.cellsOf 4 = 1 := by kernel_rfl
    have each : ∀ i, i < len → ∃ z0 z1 z2 z3 b, w.cell? (a'.add (i * 5)) = some (.int .u8 z0) ∧ w.cell? (a'.add (i * 5 + 1)) = some (.int .u8 z1) ∧ w.cell? (a'.add (i * 5 + 2)) = some (.int .u8 z2) ∧ w.cell? (a'.add (i * 5 + 3)) = some (.int .u8 z3) ∧ w.cell? (a'.add (i * 5 + 4)) = some (.bool b) ∧
        (0 ≤ z0 ∧ z0 ≤ 255) ∧ (0 ≤ z1 ∧ z1 ≤ 255) ∧ (0 ≤ z2 ∧ z2 ≤ 255) ∧ (0 ≤ z3 ∧ z3 ≤ 255) := by
      intro i hi
      obtain ⟨cs', h1, h2⟩ := hx i (by omega)
      rw [ce] at h1
      obtain ⟨_, hlen, hcell⟩ := World.cells?_some h1
      obtain ⟨xs, m', _, hxe, hl5, hxl, hall⟩ := DataW.trod_struct Tryd.underlying62 h2
      have g0 := hall 0 _ rfl
      have g1 := hall 1 _ rfl
      have g2 := hall 2 _ rfl
      have g3 := hall 3 _ rfl
      have g4 := hall 4 _ rfl
      clear hall
      have hxl5 : xs.length = 5 := hxl
      obtain ⟨x0, x1, x2, x3, x4, rfl⟩ : ∃ x0 x1 x2 x3 x4, xs = [x0, x1, x2, x3, x4] := by
        match xs, hxl5 with
        | [x0, x1, x2, x3, x4], _ => exact ⟨x0, x1, x2, x3, x4, rfl⟩
      match cs', hlen with
      | [v0, v1, v2, v3, v4], _ =>
        replace g0 : DataW.trod enc Tryd.prog w base spare held m' 5 (List.take (Tryd.prog.cellsOf 5) (List.drop 0 [v0, v1, v2, v3, v4])) = some x0 := g0
        replace g1 : DataW.trod enc Tryd.prog w base spare held m' 5 (List.take (Tryd.prog.cellsOf 5) (List.drop 1 [v0, v1, v2, v3, v4])) = some x1 := g1
        replace g2 : DataW.trod enc Tryd.prog w base spare held m' 5 (List.take (Tryd.prog.cellsOf 5) (List.drop 2 [v0, v1, v2, v3, v4])) = some x2 := g2
        replace g3 : DataW.trod enc Tryd.prog w base spare held m' 5 (List.take (Tryd.prog.cellsOf 5) (List.drop 3 [v0, v1, v2, v3, v4])) = some x3 := g3
        replace g4 : DataW.trod enc Tryd.prog w base spare held m' 4 (List.take (Tryd.prog.cellsOf 4) (List.drop 4 [v0, v1, v2, v3, v4])) = some x4 := g4
        rw [c1] at g0 g1 g2 g3
        rw [c2] at g4
        obtain ⟨z0, e0, _, f0⟩ := DataW.trod_int Tryd.underlying5 g0
        obtain ⟨z1, e1, _, f1⟩ := DataW.trod_int Tryd.underlying5 g1
        obtain ⟨z2, e2, _, f2⟩ := DataW.trod_int Tryd.underlying5 g2
        obtain ⟨z3, e3, _, f3⟩ := DataW.trod_int Tryd.underlying5 g3
        obtain ⟨b, e4, _⟩ := DataW.trod_bool Tryd.underlying4 g4
        simp only [List.drop_zero, List.drop_succ_cons, List.take_succ_cons, List.take_zero, List.cons.injEq, and_true] at e0 e1 e2 e3 e4
        subst e0; subst e1; subst e2; subst e3; subst e4
        have k0 := hcell 0 (by omega)
        have k1 := hcell 1 (by omega)
        have k2 := hcell 2 (by omega)
        have k3 := hcell 3 (by omega)
        have k4 := hcell 4 (by omega)
        rw [add_add] at k0 k1 k2 k3 k4
        exact ⟨z0, z1, z2, z3, b, by simpa using k0, by simpa using k1, by simpa using k2, by simpa using k3, by simpa using k4, u8_wf f0, u8_wf f1, u8_wf f2, u8_wf f3⟩
    refine ⟨(List.range len).map fun i => ⟨intOf ((w.cell? (a'.add (i * 5))).getD undef), intOf ((w.cell? (a'.add (i * 5 + 1))).getD undef), intOf ((w.cell? (a'.add (i * 5 + 2))).getD undef), intOf ((w.cell? (a'.add (i * 5 + 3))).getD undef), boolOf (w.cell? (a'.add (i * 5 + 4)))⟩, by simp, by simp; unfold maxLen at hm; omega, ?_, ?_⟩
    · intro j hj
      have hj' : j < len := by simpa using hj
      obtain ⟨z0, z1, z2, z3, bb, h0, h1, h2, h3, h4, _⟩ := each j hj'
      obtain ⟨b, off, spot⟩ := a'
      cases spot with
      | some s =>
        obtain ⟨_, _, _, _, _, h0', _⟩ := each 0 (by omega)
        exact absurd h0' (by simp only [Nat.zero_mul, Addr.add, World.cell?, if_pos]; split <;> simp)
      | none =>
        have hadd : ∀ k, (⟨b, off, none⟩ : Addr).add k = ⟨b, off + k, none⟩ := fun k => by unfold Addr.add; split <;> simp_all
        simp only [hadd] at h0 h1 h2 h3 h4 ⊢
        refine ⟨b, off, rfl, World.block_lt_of_cell? w ⟨b, off + j * 5, none⟩ h0, fun i u hu => ?_⟩
        simp only [List.getElem_map, List.getElem_range, encN, h0, h1, h2, h3, h4, boolOf, Option.getD_some, intOf] at hu
        match i, hu with
        | 0, hu => simp only [List.getElem?_cons_zero, Option.some.injEq] at hu; rw [Nat.add_zero, h0, hu]
        | 1, hu => simp only [List.getElem?_cons_succ, List.getElem?_cons_zero, Option.some.injEq] at hu; rw [Nat.add_assoc, h1, hu]
        | 2, hu => simp only [List.getElem?_cons_succ, List.getElem?_cons_zero, Option.some.injEq] at hu; rw [Nat.add_assoc, h2, hu]
        | 3, hu => simp only [List.getElem?_cons_succ, List.getElem?_cons_zero, Option.some.injEq] at hu; rw [Nat.add_assoc, h3, hu]
        | 4, hu => simp only [List.getElem?_cons_succ, List.getElem?_cons_zero, Option.some.injEq] at hu; rw [Nat.add_assoc, h4, hu]
        | i + 5, hu => simp at hu
    · intro x hx
      obtain ⟨i, hi, rfl⟩ := List.mem_map.1 hx
      obtain ⟨z0, z1, z2, z3, bb, h0, h1, h2, h3, _, k0, k1, k2, k3⟩ := each i (List.mem_range.1 hi)
      simp only [h0, h1, h2, h3, Option.getD_some, intOf]
      exact ⟨k0, k1, k2, k3⟩
end Go.Proofs.YtalconpcpegmlaaDoor
