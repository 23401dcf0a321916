import Derived.Test.YtalconpcpegmlaaDoorAppO
/- appeal.file: no such case. -/
namespace Go.Proofs.YtalconpcpegmlaaDoor
open Go.RowKit

set_option maxRecDepth 100000 in
set_option maxHeartbeats 800000 in
theorem file_none (f : Fl) (m : Option Nat) (b n : Nat) (w : World) (p : Option Addr) (cap : Nat) (last s lo hi : Int) (fr : Nat × Nat) (h : RowsAt m w) (hk : 0 ≤ f.kind ∧ f.kind < 256) (hf : formedB f = true) (hr : rowP f.kind = some (s, lo, hi)) (hs : (s == 0) = false) (hb : w.heap[b]? = some (.cells #[.slice p n cap, .int .i64 last] 68 fr)) (hl : ¬ f.day < last) (hn : (n : Int) < f.cs) :
    Calls Tryd.prog 46 #[.pointer (some ⟨b, 0, none⟩), .agg #[.int .u8 f.kind, .int .i64 f.day, .int .i64 f.cs, .int .i64 f.n, .int .i64 f.un, .bool f.hold]] w fun e w' => e = .returned (.int .i64 6) ∧ Ext w w' := by
  have hq : decide (f.day < last) = false := by simpa using hl
  have hq2 : decide ((n : Int) < f.cs) = true := by simpa using hn
  clear hl hn
  have hB := heap_new w (.cells #[.int .u8 f.kind, .int .i64 f.day, .int .i64 f.cs, .int .i64 f.n, .int .i64 f.un, .bool f.hold] 30)
  go_enter Tryd.func46, Tryd.ntmps46
  go_wp2_with fail
  refine (formed_c f m _ (h.ext ((Ext.refl w).alloc _)) hk).mono ?_
  rintro e wN ⟨rfl, hN⟩
  rw [hf]
  have hx := ((Ext.refl w).alloc _).trans hN
  replace hb := heap_ext hb hx
  replace hB := heap_ext hB hN
  obtain ⟨k0, k1⟩ := cells2d hb
  obtain ⟨f0, f1, f2, f3, f4, f5⟩ := cells6 hB
  go_wp2_with fail
  go_region
  go_upto_region 5 with fail
  replace hb := heap_ext hb ((Ext.refl wN).drew)
  replace hB := heap_ext hB ((Ext.refl wN).drew)
  replace h := (h.ext hx).ext ((Ext.refl wN).drew)
  replace hx := hx.drew
  clear k0 k1 f0 f1 f2 f3 f4 f5 hN
  generalize wN.drew = W at hb hB h hx ⊢
  obtain ⟨F, HF⟩ : ∃ F, Hid (w.heap.size = F) := ⟨_, rfl⟩
  rw [HF.out] at hB ⊢
  have hlk := h.look false f.kind W hk.1 hk.2 (Ext.refl W)
  unfold lookV at hlk
  rw [hr] at hlk
  simp only [Bool.false_eq_true, if_false] at hlk
  have kg := h.cell
  have hbl := lt_of hb
  have hFl := lt_of hB
  obtain ⟨k0, k1⟩ := cells2d hb
  obtain ⟨f0, f1, f2, f3, f4, f5⟩ := cells6 hB
  go_upto_region 11 with fail
  have hxa := (Ext.refl W).alloc (.cells #[.int .u8 s, .int .i64 lo, .int .i64 hi] 97)
  have hR := heap_new W (.cells #[.int .u8 s, .int .i64 lo, .int .i64 hi] 97)
  replace hb := heap_ext hb hxa
  replace hB := heap_ext hB hxa
  replace hx := hx.trans hxa
  clear k0 k1 f0 f1 f2 f3 f4 f5 hbl hFl kg hlk h hxa
  generalize W.alloc (.cells #[.int .u8 s, .int .i64 lo, .int .i64 hi] 97) = W2 at hb hB hx hR ⊢
  obtain ⟨R, HR⟩ : ∃ R, Hid (W.heap.size = R) := ⟨_, rfl⟩
  rw [HR.out] at hR ⊢
  obtain ⟨f0, f1, f2, f3, f4, f5⟩ := cells6 hB
  obtain ⟨k0, k1⟩ := cells2d hb
  go_region
  all_goals go_wp2_with fail
  all_goals go_ret
  all_goals exact ⟨rfl, hx.drew⟩
set_option maxRecDepth 100000 in
set_option maxHeartbeats 1600000 in
theorem file_state (f : Fl) (m : Option Nat) (b k g : Nat) (w : World) (n cap : Nat) (last s lo hi : Int) (fr : Nat × Nat) (c : Cs) (pc : Option Addr) (cc : Nat) (h : RowsAt m w) (hk : 0 ≤ f.kind ∧ f.kind < 256) (hf : formedB f = true) (hr : rowP f.kind = some (s, lo, hi)) (hs : (s == 0) = false)
    (hb : w.heap[b]? = some (.cells #[.slice (some ⟨g, 0, none⟩) n cap, .int .i64 last] 68 fr)) (hl : ¬ f.day < last) (hn : k < n) (hnn : n ≤ 100) (hcs : f.cs = (k : Int) + 1) (hg : g < w.heap.size)
    (hc : ∀ i u, (encC (c, pc, cc))[i]? = some u → w.cell? ⟨g, k * 10 + i, none⟩ = some u) (hsl : Sl 2 enc2 w pc c.held) (hp : PB c) (hst : ((passP c f.day).st == s) = false) :
    Calls Tryd.prog 46 #[.pointer (some ⟨b, 0, none⟩), .agg #[.int .u8 f.kind, .int .i64 f.day, .int .i64 f.cs, .int .i64 f.n, .int .i64 f.un, .bool f.hold]] w fun e w' => e = .returned (.int .i64 401) ∧ Ext w w' := by
  obtain ⟨C, HPC⟩ : ∃ C, Hid (passP c f.day = C) := ⟨_, rfl⟩
  rw [HPC.out] at hst
  have hq : decide (f.day < last) = false := by simpa using hl
  have hq2 : decide ((n : Int) < f.cs) = false := by simp; omega
  have HFO := Lib.hid (formed_days hf)
  clear hl
  have hwr : IntKind.i64.wrap (f.cs - 1) = (k : Int) := by rw [hcs]; have := IntWalk.i64_in (k : Int) (by omega); rw [Int.add_sub_cancel]; exact this
  have HC := Lib.hid hc
  have HP := Lib.hid hp
  have HCS := Lib.hid hcs
  clear hc hp hcs
  have hB := heap_new w (.cells #[.int .u8 f.kind, .int .i64 f.day, .int .i64 f.cs, .int .i64 f.n, .int .i64 f.un, .bool f.hold] 30)
  go_enter Tryd.func46, Tryd.ntmps46
  go_wp2_with fail
  refine (formed_c f m _ (h.ext ((Ext.refl w).alloc _)) hk).mono ?_
  rintro e wN ⟨rfl, hN⟩
  rw [hf]
  have hx := ((Ext.refl w).alloc _).trans hN
  replace hb := heap_ext hb hx
  replace hB := heap_ext hB hN
  obtain ⟨k0, k1⟩ := cells2d hb
  obtain ⟨f0, f1, f2, f3, f4, f5⟩ := cells6 hB
  go_wp2_with fail
  go_region
  go_upto_region 5 with fail
  replace hb := heap_ext hb ((Ext.refl wN).drew)
  replace hB := heap_ext hB ((Ext.refl wN).drew)
  replace h := (h.ext hx).ext ((Ext.refl wN).drew)
  replace hx := hx.drew
  clear k0 k1 f0 f1 f2 f3 f4 f5 hN
  generalize wN.drew = W at hb hB h hx ⊢
  obtain ⟨F, HF⟩ : ∃ F, Hid (w.heap.size = F) := ⟨_, rfl⟩
  rw [HF.out] at hB ⊢
  have hlk := h.look false f.kind W hk.1 hk.2 (Ext.refl W)
  unfold lookV at hlk
  rw [hr] at hlk
  simp only [Bool.false_eq_true, if_false] at hlk
  have kg := h.cell
  have hbl := lt_of hb
  have hFl := lt_of hB
  obtain ⟨k0, k1⟩ := cells2d hb
  obtain ⟨f0, f1, f2, f3, f4, f5⟩ := cells6 hB
  go_upto_region 11 with fail
  have hxa := (Ext.refl W).alloc (.cells #[.int .u8 s, .int .i64 lo, .int .i64 hi] 97)
  have hR := heap_new W (.cells #[.int .u8 s, .int .i64 lo, .int .i64 hi] 97)
  replace hb := heap_ext hb hxa
  replace hB := heap_ext hB hxa
  replace hx := hx.trans hxa
  clear k0 k1 f0 f1 f2 f3 f4 f5 hbl hFl kg hlk h hxa
  generalize W.alloc (.cells #[.int .u8 s, .int .i64 lo, .int .i64 hi] 97) = W2 at hb hB hx hR ⊢
  obtain ⟨R, HR⟩ : ∃ R, Hid (W.heap.size = R) := ⟨_, rfl⟩
  rw [HR.out] at hR ⊢
  obtain ⟨f0, f1, f2, f3, f4, f5⟩ := cells6 hB
  obtain ⟨k0, k1⟩ := cells2d hb
  go_region
  go_upto_region 13 with fail
  replace hb := heap_ext hb ((Ext.refl W2).drew)
  replace hB := heap_ext hB ((Ext.refl W2).drew)
  replace hR := heap_ext hR ((Ext.refl W2).drew)
  replace hx := hx.drew
  clear k0 k1 f0 f1 f2 f3 f4 f5
  generalize W2.drew = W3 at hb hB hR hx ⊢
  obtain ⟨f0, f1, f2, f3, f4, f5⟩ := cells6 hB
  obtain ⟨k0, k1⟩ := cells2d hb
  have hbl := lt_of hb
  have hFl := lt_of hB
  have hRl := lt_of hR
  have hgl : g < W3.heap.size := Nat.lt_of_lt_of_le hg hx.size
  have a0 : W3.cell? ⟨g, k * 10, none⟩ = some (.bool c.el) := (hx.cells.1 g _ hg).trans (HC.out 0 _ rfl)
  have a1 : W3.cell? ⟨g, k * 10 + 1, none⟩ = some (.int .u8 c.st) := (hx.cells.1 g _ hg).trans (HC.out 1 _ rfl)
  have a2 : W3.cell? ⟨g, k * 10 + 2, none⟩ = some (.int .i64 c.op) := (hx.cells.1 g _ hg).trans (HC.out 2 _ rfl)
  have a3 : W3.cell? ⟨g, k * 10 + 3, none⟩ = some (.int .i64 c.dy) := (hx.cells.1 g _ hg).trans (HC.out 3 _ rfl)
  have a4 : W3.cell? ⟨g, k * 10 + 4, none⟩ = some (.int .i64 c.ch) := (hx.cells.1 g _ hg).trans (HC.out 4 _ rfl)
  have a5 : W3.cell? ⟨g, k * 10 + 5, none⟩ = some (.int .i64 c.lv) := (hx.cells.1 g _ hg).trans (HC.out 5 _ rfl)
  have a6 : W3.cell? ⟨g, k * 10 + 6, none⟩ = some (.int .i64 c.due) := (hx.cells.1 g _ hg).trans (HC.out 6 _ rfl)
  have a7 : W3.cell? ⟨g, k * 10 + 7, none⟩ = some (.bool c.hd) := (hx.cells.1 g _ hg).trans (HC.out 7 _ rfl)
  have a8 : W3.cell? ⟨g, k * 10 + 8, none⟩ = some (.int .i64 c.sn) := (hx.cells.1 g _ hg).trans (HC.out 8 _ rfl)
  have a9 : W3.cell? ⟨g, k * 10 + 9, none⟩ = some (.slice pc c.held.length cc) := (hx.cells.1 g _ hg).trans (HC.out 9 _ rfl)
  have hs3 := hsl.ext hx
  go_region_held3 (fun w' => (w'.cell? ⟨F, 0, none⟩ = some (.int .u8 f.kind) ∧ w'.cell? ⟨F, 1, none⟩ = some (.int .i64 f.day) ∧ w'.cell? ⟨F, 2, none⟩ = some (.int .i64 f.cs)) ∧ w'.cell? ⟨b, 0, none⟩ = some (.slice (some ⟨g, 0, none⟩) n cap) ∧
      w'.cell? ⟨g, k * 10, none⟩ = some (.bool c.el) ∧ w'.cell? ⟨g, k * 10 + 1, none⟩ = some (.int .u8 c.st) ∧ w'.cell? ⟨g, k * 10 + 2, none⟩ = some (.int .i64 c.op) ∧ w'.cell? ⟨g, k * 10 + 3, none⟩ = some (.int .i64 c.dy) ∧ w'.cell? ⟨g, k * 10 + 4, none⟩ = some (.int .i64 c.ch) ∧ w'.cell? ⟨g, k * 10 + 5, none⟩ = some (.int .i64 c.lv) ∧ w'.cell? ⟨g, k * 10 + 6, none⟩ = some (.int .i64 c.due) ∧ w'.cell? ⟨g, k * 10 + 7, none⟩ = some (.bool c.hd) ∧ w'.cell? ⟨g, k * 10 + 8, none⟩ = some (.int .i64 c.sn) ∧ w'.cell? ⟨g, k * 10 + 9, none⟩ = some (.slice pc c.held.length cc)) (go_keep)
    (first
      | (go_at_call 37; refine (pass_c c f.day pc cc _ (hs3.ext ((Ext.refl W3).drew)) HP.out (by have := HFO.out; omega)).mono ?_; intro e w1 hr1; rw [HPC.out] at hr1; obtain ⟨p1, c1, rfl, hv1, hx1⟩ := hr1; have X1 : Ext W3 w1 := ((Ext.refl W3).drew).trans hx1; have V1 : Kept W3.heap.size w1 c C pc p1 cc c1 := hv1; clear hv1 hx1; have hb1 := heap_ext hb X1; have hB1 := heap_ext hB X1; have hbl1 := lt_of hb1; have hFl1 := lt_of hB1; have hgl1 : g < w1.heap.size := Nat.lt_of_lt_of_le hgl X1.size; obtain ⟨g0, g1, g2, g3, g4, g5⟩ := cells6 hB1; obtain ⟨j0, j1⟩ := cells2d hb1; have b0 := (X1.cells.1 g _ hgl).trans a0; have b1 := (X1.cells.1 g _ hgl).trans a1; have b2 := (X1.cells.1 g _ hgl).trans a2; have b3 := (X1.cells.1 g _ hgl).trans a3; have b4 := (X1.cells.1 g _ hgl).trans a4; have b5 := (X1.cells.1 g _ hgl).trans a5; have b6 := (X1.cells.1 g _ hgl).trans a6; have b7 := (X1.cells.1 g _ hgl).trans a7; have b8 := (X1.cells.1 g _ hgl).trans a8; have b9 := (X1.cells.1 g _ hgl).trans a9)
      | (go_at_call 37; refine (pass_c c f.day pc cc _ (hs3.ext (((Ext.refl W3).drew).alloc (.cells #[.bool false, .int .u8 0, .int .i64 0, .int .i64 0, .int .i64 0, .int .i64 0, .int .i64 0, .bool false, .int .i64 0, .slice none 0 0] 39))) HP.out (by have := HFO.out; omega)).mono ?_; intro e w1 hr1; rw [HPC.out] at hr1; obtain ⟨p1, c1, rfl, hv1, hx1⟩ := hr1; have X1 : Ext W3 w1 := (((Ext.refl W3).drew).alloc (.cells #[.bool false, .int .u8 0, .int .i64 0, .int .i64 0, .int .i64 0, .int .i64 0, .int .i64 0, .bool false, .int .i64 0, .slice none 0 0] 39)).trans hx1; have V1 : Kept W3.heap.size w1 c C pc p1 cc c1 := hv1.mono (((Ext.refl W3).drew).alloc _).size; have hZ : w1.heap[W3.heap.size]? = some (.cells #[.bool false, .int .u8 0, .int .i64 0, .int .i64 0, .int .i64 0, .int .i64 0, .int .i64 0, .bool false, .int .i64 0, .slice none 0 0] 39 (0, 0)) := heap_ext (heap_new W3.drew (.cells #[.bool false, .int .u8 0, .int .i64 0, .int .i64 0, .int .i64 0, .int .i64 0, .int .i64 0, .bool false, .int .i64 0, .slice none 0 0] 39)) hx1; clear hv1 hx1; obtain ⟨z0, z1, z2, z3, z4, z5, z6, z7, z8, z9⟩ := cells10 hZ; have zf := fun j => frozen_of (j := j) hZ; have zl := lt_of hZ; have n1 : ¬ F = W3.heap.size := (by omega); have n2 : ¬ b = W3.heap.size := (by omega); have n3 : ¬ g = W3.heap.size := (by omega); have m1 : ¬ W3.heap.size = F := (by omega); have m2 : ¬ W3.heap.size = b := (by omega); have m3 : ¬ W3.heap.size = g := (by omega); have hb1 := heap_ext hb X1; have hB1 := heap_ext hB X1; have hbl1 := lt_of hb1; have hFl1 := lt_of hB1; have hgl1 : g < w1.heap.size := Nat.lt_of_lt_of_le hgl X1.size; obtain ⟨g0, g1, g2, g3, g4, g5⟩ := cells6 hB1; obtain ⟨j0, j1⟩ := cells2d hb1; have b0 := (X1.cells.1 g _ hgl).trans a0; have b1 := (X1.cells.1 g _ hgl).trans a1; have b2 := (X1.cells.1 g _ hgl).trans a2; have b3 := (X1.cells.1 g _ hgl).trans a3; have b4 := (X1.cells.1 g _ hgl).trans a4; have b5 := (X1.cells.1 g _ hgl).trans a5; have b6 := (X1.cells.1 g _ hgl).trans a6; have b7 := (X1.cells.1 g _ hgl).trans a7; have b8 := (X1.cells.1 g _ hgl).trans a8; have b9 := (X1.cells.1 g _ hgl).trans a9)
      | fail)
  all_goals
    go_upto_region 14 with fail
  all_goals
    first
      | (have hC4 := heap_same (j := 9) (u := .slice p1 C.held.length c1) (heap_same (j := 8) (u := .int .i64 C.sn) (heap_same (j := 7) (u := .bool C.hd) (heap_same (j := 6) (u := .int .i64 C.due) (heap_same (j := 5) (u := .int .i64 C.lv) (heap_same (j := 4) (u := .int .i64 C.ch) (heap_same (j := 3) (u := .int .i64 C.dy) (heap_same (j := 2) (u := .int .i64 C.op) (heap_same (j := 1) (u := .int .u8 C.st) (heap_same (j := 0) (u := .bool C.el) hZ)))))))))
         simp only [List.setIfInBounds_toArray, List.set_cons_succ, List.set_cons_zero] at hC4
         have X4 : Ext W3 ((((((((((w1.setCell ⟨W3.heap.size, 0, none⟩ (.bool C.el)).setCell ⟨W3.heap.size, 1, none⟩ (.int .u8 C.st)).setCell ⟨W3.heap.size, 2, none⟩ (.int .i64 C.op)).setCell ⟨W3.heap.size, 3, none⟩ (.int .i64 C.dy)).setCell ⟨W3.heap.size, 4, none⟩ (.int .i64 C.ch)).setCell ⟨W3.heap.size, 5, none⟩ (.int .i64 C.lv)).setCell ⟨W3.heap.size, 6, none⟩ (.int .i64 C.due)).setCell ⟨W3.heap.size, 7, none⟩ (.bool C.hd)).setCell ⟨W3.heap.size, 8, none⟩ (.int .i64 C.sn)).setCell ⟨W3.heap.size, 9, none⟩ (.slice p1 C.held.length c1)) := ((((((((((X1.setCell (Nat.le_refl _) _).setCell (Nat.le_refl _) _).setCell (Nat.le_refl _) _).setCell (Nat.le_refl _) _).setCell (Nat.le_refl _) _).setCell (Nat.le_refl _) _).setCell (Nat.le_refl _) _).setCell (Nat.le_refl _) _).setCell (Nat.le_refl _) _).setCell (Nat.le_refl _) _)
         have V4 : Kept W3.heap.size ((((((((((w1.setCell ⟨W3.heap.size, 0, none⟩ (.bool C.el)).setCell ⟨W3.heap.size, 1, none⟩ (.int .u8 C.st)).setCell ⟨W3.heap.size, 2, none⟩ (.int .i64 C.op)).setCell ⟨W3.heap.size, 3, none⟩ (.int .i64 C.dy)).setCell ⟨W3.heap.size, 4, none⟩ (.int .i64 C.ch)).setCell ⟨W3.heap.size, 5, none⟩ (.int .i64 C.lv)).setCell ⟨W3.heap.size, 6, none⟩ (.int .i64 C.due)).setCell ⟨W3.heap.size, 7, none⟩ (.bool C.hd)).setCell ⟨W3.heap.size, 8, none⟩ (.int .i64 C.sn)).setCell ⟨W3.heap.size, 9, none⟩ (.slice p1 C.held.length c1)) c C pc p1 cc c1 := (by
           rcases V1 with V1 | V1
           · exact .inl V1
           · exact .inr (V1.aside ((((((((((Apart.setCell (ts := [39]) (hZ) (by decide) _).trans (Apart.setCell (ts := [39]) (heap_same hZ) (by decide) _)).trans (Apart.setCell (ts := [39]) (heap_same (heap_same hZ)) (by decide) _)).trans (Apart.setCell (ts := [39]) (heap_same (heap_same (heap_same hZ))) (by decide) _)).trans (Apart.setCell (ts := [39]) (heap_same (heap_same (heap_same (heap_same hZ)))) (by decide) _)).trans (Apart.setCell (ts := [39]) (heap_same (heap_same (heap_same (heap_same (heap_same hZ))))) (by decide) _)).trans (Apart.setCell (ts := [39]) (heap_same (heap_same (heap_same (heap_same (heap_same (heap_same hZ)))))) (by decide) _)).trans (Apart.setCell (ts := [39]) (heap_same (heap_same (heap_same (heap_same (heap_same (heap_same (heap_same hZ))))))) (by decide) _)).trans (Apart.setCell (ts := [39]) (heap_same (heap_same (heap_same (heap_same (heap_same (heap_same (heap_same (heap_same hZ)))))))) (by decide) _)).trans (Apart.setCell (ts := [39]) (heap_same (heap_same (heap_same (heap_same (heap_same (heap_same (heap_same (heap_same (heap_same hZ))))))))) (by decide) _)) (by decide)))
         clear hZ z0 z1 z2 z3 z4 z5 z6 z7 z8 z9 zf zl n1 n2 n3 m1 m2 m3
         generalize ((((((((((w1.setCell ⟨W3.heap.size, 0, none⟩ (.bool C.el)).setCell ⟨W3.heap.size, 1, none⟩ (.int .u8 C.st)).setCell ⟨W3.heap.size, 2, none⟩ (.int .i64 C.op)).setCell ⟨W3.heap.size, 3, none⟩ (.int .i64 C.dy)).setCell ⟨W3.heap.size, 4, none⟩ (.int .i64 C.ch)).setCell ⟨W3.heap.size, 5, none⟩ (.int .i64 C.lv)).setCell ⟨W3.heap.size, 6, none⟩ (.int .i64 C.due)).setCell ⟨W3.heap.size, 7, none⟩ (.bool C.hd)).setCell ⟨W3.heap.size, 8, none⟩ (.int .i64 C.sn)).setCell ⟨W3.heap.size, 9, none⟩ (.slice p1 C.held.length c1)) = W4 at hC4 X4 V4 ⊢
         obtain ⟨Bx, HBx⟩ : ∃ x, Hid (W3.heap.size = x) := ⟨_, rfl⟩
         rw [HBx.out] at hC4 ⊢
         replace HBx : Hid (W3.heap.size ≤ Bx) := Nat.le_of_eq HBx.out)
      | (have hC4 := heap_new w1 (.cells #[.bool C.el, .int .u8 C.st, .int .i64 C.op, .int .i64 C.dy, .int .i64 C.ch, .int .i64 C.lv, .int .i64 C.due, .bool C.hd, .int .i64 C.sn, .slice p1 C.held.length c1] 39)
         have X4 := X1.alloc (.cells #[.bool C.el, .int .u8 C.st, .int .i64 C.op, .int .i64 C.dy, .int .i64 C.ch, .int .i64 C.lv, .int .i64 C.due, .bool C.hd, .int .i64 C.sn, .slice p1 C.held.length c1] 39)
         have V4 := V1.ext ((Ext.refl w1).alloc (.cells #[.bool C.el, .int .u8 C.st, .int .i64 C.op, .int .i64 C.dy, .int .i64 C.ch, .int .i64 C.lv, .int .i64 C.due, .bool C.hd, .int .i64 C.sn, .slice p1 C.held.length c1] 39))
         generalize w1.alloc (.cells #[.bool C.el, .int .u8 C.st, .int .i64 C.op, .int .i64 C.dy, .int .i64 C.ch, .int .i64 C.lv, .int .i64 C.due, .bool C.hd, .int .i64 C.sn, .slice p1 C.held.length c1] 39) = W4 at hC4 X4 V4 ⊢
         obtain ⟨Bx, HBx⟩ : ∃ x, Hid (w1.heap.size = x) := ⟨_, rfl⟩
         rw [HBx.out] at hC4 ⊢
         replace HBx : Hid (W3.heap.size ≤ Bx) := (by unfold Hid; rw [← HBx.out]; exact X1.size))
    replace hb := heap_ext hb X4
    replace hB := heap_ext hB X4
    replace hR := heap_ext hR X4
    replace hx := hx.trans X4
    clear hb1 hB1 hbl1 hFl1 hgl1 g0 g1 g2 g3 g4 g5 j0 j1 b0 b1 b2 b3 b4 b5 b6 b7 b8 b9 f0 f1 f2 f3 f4 f5 k0 k1 a0 a1 a2 a3 a4 a5 a6 a7 a8 a9 hbl hFl hRl hgl hs3 X1 V1
    obtain ⟨_, c1', _, _, _, _, _, _, _, _⟩ := cells10 hC4
    have r0 : W4.cell? ⟨R, 0, none⟩ = some (.int .u8 s) := (cell_of hR).trans rfl
  all_goals
    go_wp2_with fail
    go_ret
    exact ⟨rfl, hx⟩
end Go.Proofs.YtalconpcpegmlaaDoor
