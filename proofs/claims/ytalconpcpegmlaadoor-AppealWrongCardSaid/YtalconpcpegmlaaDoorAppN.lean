import Derived.Test.YtalconpcpegmlaaDoorAppO
/- appeal.file: a full docket. -/
namespace Go.Proofs.YtalconpcpegmlaaDoor
open Go.RowKit

set_option maxRecDepth 100000 in
set_option maxHeartbeats 800000 in
theorem file_full (f : Fl) (m : Option Nat) (b : Nat) (w : World) (p : Option Addr) (cap : Nat) (last lo hi : Int) (fr : Nat × Nat) (h : RowsAt m w) (hk : 0 ≤ f.kind ∧ f.kind < 256) (hf : formedB f = true) (hr : rowP f.kind = some (0, lo, hi)) (hb : w.heap[b]? = some (.cells #[.slice p 100 cap, .int .i64 last] 68 fr)) (hl : ¬ f.day < last) :
    Calls Tryd.prog 46 #[.pointer (some ⟨b, 0, none⟩), .agg #[.int .u8 f.kind, .int .i64 f.day, .int .i64 f.cs, .int .i64 f.n, .int .i64 f.un, .bool f.hold]] w fun e w' => e = .returned (.int .i64 4) ∧ Ext w w' := by
  have hq : decide (f.day < last) = false := by simpa using hl
  clear hl
  have hB := heap_new w (.cells #[.int .u8 f.kind, .int .i64 f.day, .int .i64 f.cs, .int .i64 f.n, .int .i64 f.un, .bool f.hold] 30)
  go_enter Tryd.func46, Tryd.ntmps46
  go_wp2_with fail
  refine (formed_c f m _ (h.ext ((Ext.refl w).alloc _)) hk).mono ?_
  rintro e wN ⟨rfl, hN⟩
  rw [hf]
  have hx := ((Ext.refl w).alloc _).trans hN
  replace hb := heap_ext hb hx
  replace hB := heap_ext hB hN
  obtain ⟨k0, k1⟩ := cells2d hb
  obtain ⟨f0, f1, f2, f3, f4, f5⟩ := cells6 hB
  go_wp2_with fail
  go_region
  go_upto_region 5 with fail
  replace hb := heap_ext hb ((Ext.refl wN).drew)
  replace hB := heap_ext hB ((Ext.refl wN).drew)
  replace h := (h.ext hx).ext ((Ext.refl wN).drew)
  replace hx := hx.drew
  clear k0 k1 f0 f1 f2 f3 f4 f5 hN
  generalize wN.drew = W at hb hB h hx ⊢
  obtain ⟨F, HF⟩ : ∃ F, Hid (w.heap.size = F) := ⟨_, rfl⟩
  rw [HF.out] at hB ⊢
  have hlk := h.look false f.kind W hk.1 hk.2 (Ext.refl W)
  unfold lookV at hlk
  rw [hr] at hlk
  simp only [Bool.false_eq_true, if_false] at hlk
  have kg := h.cell
  have hbl := lt_of hb
  have hFl := lt_of hB
  obtain ⟨k0, k1⟩ := cells2d hb
  obtain ⟨f0, f1, f2, f3, f4, f5⟩ := cells6 hB
  go_wp2_with fail
  go_ret
  exact ⟨rfl, hx.alloc _⟩
set_option maxRecDepth 100000 in
set_option maxHeartbeats 1600000 in
theorem file_open (f : Fl) (m : Option Nat) (b : Nat) (w0 w : World) (p : Option Addr) (cap : Nat) (xs : List Cv) (last lo hi : Int) (hw : Ext w0 w) (h : RowsAt m w) (hk : 0 ≤ f.kind ∧ f.kind < 256) (hf : formedB f = true) (hr : rowP f.kind = some (0, lo, hi)) (hd : Dock w0.heap.size b w p cap xs last)
    (hn : xs.length < 100) (hl : ¬ f.day < last) :
    Calls Tryd.prog 46 #[.pointer (some ⟨b, 0, none⟩), .agg #[.int .u8 f.kind, .int .i64 f.day, .int .i64 f.cs, .int .i64 f.n, .int .i64 f.un, .bool f.hold]] w fun e w' => RdF w0.heap.size w0 w w' b (xs.map (·.1) ++ [openedP f], f.day) 0 e := by
  have hq : decide (f.day < last) = false := by simpa using hl
  have hq2 : (((xs.length : Nat) : Int) == 100) = false := by simp; omega
  obtain ⟨_, _, _, _, hday0, hday1, hn0, hn1, _⟩ := formed_out hf
  have HFO := Lib.hid (⟨by omega, by omega⟩ : 0 ≤ f.day ∧ f.day ≤ 1000000)
  have HFN : Hid (0 ≤ f.n ∧ f.n ≤ 1000000) := by
    unfold Hid
    cases kinds hf <;> omega
  clear hday0 hday1 hn0 hn1
  obtain ⟨C, HC⟩ : ∃ C, Hid (openedP f = C) := ⟨_, rfl⟩
  rw [HC.out]
  have HD := Lib.hid hd
  have hb := hd.row
  clear hl hd
  have hB := heap_new w (.cells #[.int .u8 f.kind, .int .i64 f.day, .int .i64 f.cs, .int .i64 f.n, .int .i64 f.un, .bool f.hold] 30)
  go_enter Tryd.func46, Tryd.ntmps46
  go_wp2_with fail
  refine (formed_c f m _ (h.ext ((Ext.refl w).alloc _)) hk).mono ?_
  rintro e wN ⟨rfl, hN⟩
  rw [hf]
  have hx := ((Ext.refl w).alloc _).trans hN
  replace hb := heap_ext hb hx
  replace hB := heap_ext hB hN
  obtain ⟨k0, k1⟩ := cells2d hb
  obtain ⟨f0, f1, f2, f3, f4, f5⟩ := cells6 hB
  go_wp2_with fail
  go_region
  go_upto_region 5 with fail
  replace hb := heap_ext hb ((Ext.refl wN).drew)
  replace hB := heap_ext hB ((Ext.refl wN).drew)
  replace h := (h.ext hx).ext ((Ext.refl wN).drew)
  replace hx := hx.drew
  clear k0 k1 f0 f1 f2 f3 f4 f5 hN
  generalize wN.drew = W at hb hB h hx ⊢
  obtain ⟨F, HF⟩ : ∃ F, Hid (w.heap.size = F) := ⟨_, rfl⟩
  rw [HF.out] at hB ⊢
  have hlk := h.look false f.kind W hk.1 hk.2 (Ext.refl W)
  unfold lookV at hlk
  rw [hr] at hlk
  simp only [Bool.false_eq_true, if_false] at hlk
  have kg := h.cell
  have hbl := lt_of hb
  have hFl := lt_of hB
  obtain ⟨k0, k1⟩ := cells2d hb
  obtain ⟨f0, f1, f2, f3, f4, f5⟩ := cells6 hB
  go_upto_region 9 with fail
  have hxa := (Ext.refl W).alloc (.cells #[.int .u8 0, .int .i64 lo, .int .i64 hi] 97)
  replace hb := heap_ext hb hxa
  replace hB := heap_ext hB hxa
  replace hx := hx.trans hxa
  clear k0 k1 f0 f1 f2 f3 f4 f5 hbl hFl kg hlk h
  have HX := Lib.hid (hw.trans hx)
  replace HD := Lib.hid (HD.out.ext hx)
  generalize W.alloc (.cells #[.int .u8 0, .int .i64 lo, .int .i64 hi] 97) = W2 at hb hB hx hxa HX HD ⊢
  obtain ⟨f0, f1, f2, f3, f4, f5⟩ := cells6 hB
  obtain ⟨k0, k1⟩ := cells2d hb
  have hbl := lt_of hb
  have hFl := lt_of hB
  have hbF : b ≠ F := fun e => by subst e; rw [hb] at hB; cases hB
  have hFb : F ≠ b := Ne.symm hbF
  have hown := HD.out.own
  go_region_law
    (first
      | (go_simp; go_at_call 59; refine (opened_c f _ HFO.out HFN.out).mono ?_; rw [HC.out]; rintro e w1 ⟨p1, c1, rfl, hv1, hx1⟩; have X1 : Ext W2 w1 := ((Ext.refl W2).drew).trans hx1; have V1 : Owns W2.heap.size 57 2 enc2 w1 (.slice p1 C.held.length c1) C.held := hv1; clear hv1 hx1; have hb1 := heap_ext hb X1; have hB1 := heap_ext hB X1; have hbl1 := lt_of hb1; have hFl1 := lt_of hB1; obtain ⟨g0, g1, g2, g3, g4, g5⟩ := cells6 hB1; obtain ⟨j0, j1⟩ := cells2d hb1)
      | (refine step_append_sl (w0 := w0) rfl _ _ 66 39 88 _ encC_len encC_one (by decide) rfl Tryd.underlying66 infoC rfl xs [(C, p1, c1)] ((hown.ext X1).alloc _) ((HX.out.trans X1).alloc _) _ 1 rfl rfl (Sl.litAny encC_len [(C, p1, c1)] rfl) Nat.one_pos (by simp only [List.length_singleton]; omega) (by simp only [List.length_singleton]; omega) ?_; intro p3 c3 w3 hown3 hs3 X3 hg3; obtain ⟨L, HL⟩ : ∃ L, Hid (xs ++ [(C, p1, c1)] = L) := ⟨_, rfl⟩; rw [HL.out] at hown3 ⊢; have A1 : Apart [39] w1 w3 := ((((Ext.refl w1).alloc _).apart).trans (Apart.grown hg3 (fun g hg => (by obtain ⟨c, fr, h⟩ := ((hown.ext X1).alloc (.cells (encC (C, p1, c1)).toArray 39)).typed g hg; exact ⟨c, _, fr, h, List.mem_singleton.2 rfl⟩)))); have A3 : Apart [39] W2 w3 := X1.apart.trans A1; clear hs3 hg3; have hB3 := A3.at' _ _ _ _ (by decide) hB; have hb3 := A3.at' _ _ _ _ (by decide) hb; have hbl3 := lt_of hb3; have hFl3 := lt_of hB3; obtain ⟨g0, g1, g2, g3, g4, g5⟩ := cells6 hB3; obtain ⟨j0, j1⟩ := cells2d hb3; have z0 := frozen_of (j := 0) hb3; have z1 := frozen_of (j := 1) hb3))
  all_goals
    go_wp2_with fail
    go_ret
    have hb4 := heap_same (j := 1) (u := .int .i64 f.day) (heap_same (j := 0) (u := .slice p3 L.length c3) hb3)
    simp only [List.setIfInBounds_toArray, List.set_cons_zero, List.set_cons_succ] at hb4
    have A5 : Apart [68] w3 ((w3.setCell ⟨b, 0, none⟩ (.slice p3 L.length c3)).setCell ⟨b, 1, none⟩ (.int .i64 f.day)) := (Apart.setCell hb3 (by decide) _).trans (Apart.setCell (heap_same hb3) (by decide) _)
    have hH : Helds w0.heap.size w3 L := by
      rw [← HL.out]
      exact (HD.out.held.aside A3 (by decide)).snoc ((Owns.mono V1 HX.out.size).aside A1 (by decide))
    refine ⟨p3, c3, L, rfl, ?_, ⟨HD.out.le, hb4, hown3.aside A5 (by decide), hH.aside A5 (by decide)⟩, (X3.setCell HD.out.le _).setCell HD.out.le _, (hx.apart.trans (A3.mono (by decide))).trans (A5.mono (by decide))⟩
    rw [← HL.out]
    simp
end Go.Proofs.YtalconpcpegmlaaDoor
