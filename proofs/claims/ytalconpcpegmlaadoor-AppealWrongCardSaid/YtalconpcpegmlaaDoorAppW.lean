
import Derived.Test.YtalconpcpegmlaaDoorAppV
import Derived.Test.YtalconpcpegmlaaDoorMapV
/- appeal.file: a case is changed. -/
namespace Go.Proofs.YtalconpcpegmlaaDoor
open Go.RowKit Go.ChangeMaps

theorem keyU8 (k : Int) (h0 : 0 ≤ k) (h1 : k < 256) : keyOf Tryd.prog 5 (.int .u8 k) = some (.int .u8 k) := by
  have hu : Tryd.prog.underlying 5 = some (.int .u8) := Tryd.underlying5
  have hm : (Lit.int .u8 k).wf = true := by
    have m1 : IntKind.min .u8 = 0 := by decide
    have m2 : IntKind.max .u8 = 255 := by decide
    simp [Lit.wf, m1, m2]; omega
  simp [keyOf, mapKey, hu, hm]
theorem close_do {b g k cap c2 : Nat} {w0 w wc : World} {xs : List Cv} {last day : Int} {D : Cs} {p2 : Option Addr} (hd : Dock w0.heap.size b w (some ⟨g, 0, none⟩) cap xs last) (hw : Ext w0 w) (hx : Ext w wc) (hk : k < xs.length)
    (ho : Owns w0.heap.size 57 2 enc2 wc (.slice p2 D.held.length c2) D.held) :
    RdF w0.heap.size w0 w (((wc.setCells g (k * 10) (encC (D, p2, c2))).setCell ⟨b, 1, none⟩ (.int .i64 day)).drew) b ((xs.map (·.1)).set k D, day) 0 (.returned (.int .i64 0)) := by
  obtain ⟨g', gc, hpg, hgN, hG, _⟩ := hd.own.place encC_len hk
  simp only [Option.some.injEq, Addr.mk.injEq, and_true] at hpg
  subst hpg
  have hG1 := heap_ext hG hx
  have hb1 := heap_ext hd.row hx
  have A1 : Apart [39] wc (wc.setCells g (k * 10) (encC (D, p2, c2))) := Apart.setCells (by decide) _ _ _ _ _ hG1
  have hb2 := A1.at' _ _ _ _ (by decide) hb1
  have A2 : Apart [68] (wc.setCells g (k * 10) (encC (D, p2, c2))) ((wc.setCells g (k * 10) (encC (D, p2, c2))).setCell ⟨b, 1, none⟩ (.int .i64 day)) := Apart.setCell hb2 (by decide) _
  have hb3 := heap_same (j := 1) (u := .int .i64 day) hb2
  simp only [List.setIfInBounds_toArray, List.set_cons_zero, List.set_cons_succ] at hb3
  have own1 := Owns.setCells encC_len (hd.own.ext hx) rfl hk (D, p2, c2)
  have hH : Helds w0.heap.size ((wc.setCells g (k * 10) (encC (D, p2, c2))).setCell ⟨b, 1, none⟩ (.int .i64 day)) (xs.set k (D, p2, c2)) :=
    (((hd.held.ext hx).set (x := (D, p2, c2)) ho).aside A1 (by decide)).aside A2 (by decide)
  have E1 : Ext w0 (wc.setCells g (k * 10) (encC (D, p2, c2))) := ext_setCells hgN _ _ _ (hw.trans hx)
  have E2 : Ext w0 ((wc.setCells g (k * 10) (encC (D, p2, c2))).setCell ⟨b, 1, none⟩ (.int .i64 day)) := E1.setCell hd.le _
  have A3 : Apart [39, 68] w ((wc.setCells g (k * 10) (encC (D, p2, c2))).setCell ⟨b, 1, none⟩ (.int .i64 day)) := (hx.apart.trans (A1.mono (by decide))).trans (A2.mono (by decide))
  generalize (wc.setCells g (k * 10) (encC (D, p2, c2))).setCell ⟨b, 1, none⟩ (.int .i64 day) = Z at *
  have own2 : Owns w0.heap.size 39 10 encC Z (.slice (some ⟨g, 0, none⟩) xs.length cap) (xs.set k (D, p2, c2)) := own1.aside A2 (by decide)
  have hd2 : Dock w0.heap.size b Z (some ⟨g, 0, none⟩) cap (xs.set k (D, p2, c2)) day := ⟨hd.le, by rw [List.length_set]; exact hb3, by rw [List.length_set]; exact own2, hH⟩
  exact ⟨_, _, _, rfl, by rw [List.map_set], hd2.ext ((Ext.refl Z).drew), E2.drew, A3.trans ((Ext.refl Z).drew).apart⟩
/-- What a changed case leaves behind. -/
def doneD (cs : List Cs) (k : Nat) (D : Cs) (day last er : Int) : List Cs × Int := if er = 0 then (cs.set k D, day) else (cs, last)
set_option maxRecDepth 100000 in
set_option maxHeartbeats 1600000 in
theorem file_do (f : Fl) (m : Option Nat) (b k : Nat) (w0 w : World) (hw : Ext w0 w) (p : Option Addr) (cap : Nat) (xs : List Cv) (last s lo hi er : Int) (c : Cs) (pc : Option Addr) (cc fn : Nat) (h : RowsAt m w) (hk : 0 ≤ f.kind ∧ f.kind < 256) (hf : formedB f = true) (hr : rowP f.kind = some (s, lo, hi)) (hs : (s == 0) = false)
    (hd : Dock w0.heap.size b w p cap xs last) (hl : ¬ f.day < last) (hn : k < xs.length) (hxk : xs[k] = (c, pc, cc)) (hnn : xs.length ≤ 100) (hcs : f.cs = (k : Int) + 1) (hp : PB c) (hst : ((passP c f.day).st == s) = true)
    (hfn : fn = 60 ∨ fn = 61 ∨ fn = 62 ∨ fn = 63)
    (hin : ∃ p ∈ ([(Value.int .u8 2, Value.func (Fn.func 60) #[.agg #[.int .u8 f.kind, .int .i64 f.day, .int .i64 f.cs, .int .i64 f.n, .int .i64 f.un, .bool f.hold]] #[]), (Value.int .u8 3, Value.func (Fn.func 61) #[.agg #[.int .u8 f.kind, .int .i64 f.day, .int .i64 f.cs, .int .i64 f.n, .int .i64 f.un, .bool f.hold]] #[]), (Value.int .u8 5, Value.func (Fn.func 62) #[.agg #[.int .u8 f.kind, .int .i64 f.day, .int .i64 f.cs, .int .i64 f.n, .int .i64 f.un, .bool f.hold]] #[]), (Value.int .u8 6, Value.func (Fn.func 63) #[.agg #[.int .u8 f.kind, .int .i64 f.day, .int .i64 f.cs, .int .i64 f.n, .int .i64 f.un, .bool f.hold]] #[]), (Value.int .u8 7, Value.func (Fn.func 61) #[.agg #[.int .u8 f.kind, .int .i64 f.day, .int .i64 f.cs, .int .i64 f.n, .int .i64 f.un, .bool f.hold]] #[])] : List (Value × Value)), p.1 = .int .u8 f.kind) (hu : ∀ p ∈ ([(Value.int .u8 2, Value.func (Fn.func 60) #[.agg #[.int .u8 f.kind, .int .i64 f.day, .int .i64 f.cs, .int .i64 f.n, .int .i64 f.un, .bool f.hold]] #[]), (Value.int .u8 3, Value.func (Fn.func 61) #[.agg #[.int .u8 f.kind, .int .i64 f.day, .int .i64 f.cs, .int .i64 f.n, .int .i64 f.un, .bool f.hold]] #[]), (Value.int .u8 5, Value.func (Fn.func 62) #[.agg #[.int .u8 f.kind, .int .i64 f.day, .int .i64 f.cs, .int .i64 f.n, .int .i64 f.un, .bool f.hold]] #[]), (Value.int .u8 6, Value.func (Fn.func 63) #[.agg #[.int .u8 f.kind, .int .i64 f.day, .int .i64 f.cs, .int .i64 f.n, .int .i64 f.un, .bool f.hold]] #[]), (Value.int .u8 7, Value.func (Fn.func 61) #[.agg #[.int .u8 f.kind, .int .i64 f.day, .int .i64 f.cs, .int .i64 f.n, .int .i64 f.un, .bool f.hold]] #[])] : List (Value × Value)), p.1 = .int .u8 f.kind → p.2 = .func (Fn.func fn) #[.agg #[.int .u8 f.kind, .int .i64 f.day, .int .i64 f.cs, .int .i64 f.n, .int .i64 f.un, .bool f.hold]] #[])
    (hdo : ∀ (q : Option Addr) (cap2 : Nat) (w2 : World), Sl 2 enc2 w2 q (passP c f.day).held → Calls Tryd.prog fn #[.agg #[.int .u8 f.kind, .int .i64 f.day, .int .i64 f.cs, .int .i64 f.n, .int .i64 f.un, .bool f.hold], .agg #[.bool (passP c f.day).el, .int .u8 (passP c f.day).st, .int .i64 (passP c f.day).op, .int .i64 (passP c f.day).dy, .int .i64 (passP c f.day).ch, .int .i64 (passP c f.day).lv, .int .i64 (passP c f.day).due, .bool (passP c f.day).hd, .int .i64 (passP c f.day).sn, .slice q (passP c f.day).held.length cap2]] w2 fun e w' => RdDo w2 w' (passP c f.day) (doP f (passP c f.day)).1 q cap2 er e) :
    Calls Tryd.prog 46 #[.pointer (some ⟨b, 0, none⟩), .agg #[.int .u8 f.kind, .int .i64 f.day, .int .i64 f.cs, .int .i64 f.n, .int .i64 f.un, .bool f.hold]] w fun e w' => RdF w0.heap.size w0 w w' b (doneD (xs.map (·.1)) k (doP f (passP c f.day)).1 f.day last er) er e := by
  obtain ⟨C, HPC⟩ : ∃ C, Hid (passP c f.day = C) := ⟨_, rfl⟩
  rw [HPC.out] at hst hdo ⊢
  obtain ⟨D, HD⟩ : ∃ D, Hid ((doP f C).1 = D) := ⟨_, rfl⟩
  rw [HD.out] at hdo ⊢
  have HIN := Lib.hid hin
  have HU := Lib.hid hu
  have HDO := Lib.hid hdo
  have HFN := Lib.hid hfn
  clear hin hu hdo hfn
  have hq : decide (f.day < last) = false := by simpa using hl
  have hq2 : decide ((xs.length : Int) < f.cs) = false := by simp; omega
  have HFO := Lib.hid (formed_days hf)
  clear hl
  have hwr : IntKind.i64.wrap (f.cs - 1) = (k : Int) := by rw [hcs]; have := IntWalk.i64_in (k : Int) (by omega); rw [Int.add_sub_cancel]; exact this
  have HDK := Lib.hid hd
  have hb := hd.row
  have HP := Lib.hid hp
  have HCS := Lib.hid hcs
  obtain ⟨g, gc, hpg, hgN, hG, hcell⟩ := hd.own.place encC_len hn
  have HC : Hid (∀ i u, (encC (c, pc, cc))[i]? = some u → w.cell? ⟨g, k * 10 + i, none⟩ = some u) := fun i u hiu => hcell k hn i u (by rw [hxk]; exact hiu)
  have HXK := Lib.hid hxk
  have hsl : Sl 2 enc2 w pc c.held := by
    have := hd.held.sl (List.getElem_mem hn)
    rw [hxk] at this
    exact this
  have hgw := lt_of hG
  have HGB : Hid (b ≠ g) := fun e => by subst e; rw [hG] at hb; cases hb
  have HGN := Lib.hid hgN
  have hG0 := hG
  have hG0b := hb
  clear hp hcs hd hcell hxk hgN hG
  subst hpg
  have hB := heap_new w (.cells #[.int .u8 f.kind, .int .i64 f.day, .int .i64 f.cs, .int .i64 f.n, .int .i64 f.un, .bool f.hold] 30)
  go_enter Tryd.func46, Tryd.ntmps46
  go_wp2_with fail
  refine (formed_c f m _ (h.ext ((Ext.refl w).alloc _)) hk).mono ?_
  rintro e wN ⟨rfl, hN⟩
  rw [hf]
  have hx := ((Ext.refl w).alloc _).trans hN
  replace hb := heap_ext hb hx
  replace hB := heap_ext hB hN
  obtain ⟨k0, k1⟩ := cells2d hb
  obtain ⟨f0, f1, f2, f3, f4, f5⟩ := cells6 hB
  go_wp2_with fail
  go_region
  go_upto_region 5 with fail
  replace hb := heap_ext hb ((Ext.refl wN).drew)
  replace hB := heap_ext hB ((Ext.refl wN).drew)
  replace h := (h.ext hx).ext ((Ext.refl wN).drew)
  replace hx := hx.drew
  clear k0 k1 f0 f1 f2 f3 f4 f5 hN
  generalize wN.drew = W at hb hB h hx ⊢
  obtain ⟨F, HF⟩ : ∃ F, Hid (w.heap.size = F) := ⟨_, rfl⟩
  rw [HF.out] at hB ⊢
  have hlk := h.look false f.kind W hk.1 hk.2 (Ext.refl W)
  unfold lookV at hlk
  rw [hr] at hlk
  simp only [Bool.false_eq_true, if_false] at hlk
  have kg := h.cell
  have hbl := lt_of hb
  have hFl := lt_of hB
  obtain ⟨k0, k1⟩ := cells2d hb
  obtain ⟨f0, f1, f2, f3, f4, f5⟩ := cells6 hB
  go_upto_region 11 with fail
  have hxa := (Ext.refl W).alloc (.cells #[.int .u8 s, .int .i64 lo, .int .i64 hi] 97)
  have hR := heap_new W (.cells #[.int .u8 s, .int .i64 lo, .int .i64 hi] 97)
  replace hb := heap_ext hb hxa
  replace hB := heap_ext hB hxa
  replace hx := hx.trans hxa
  clear k0 k1 f0 f1 f2 f3 f4 f5 hbl hFl kg hlk h hxa
  generalize W.alloc (.cells #[.int .u8 s, .int .i64 lo, .int .i64 hi] 97) = W2 at hb hB hx hR ⊢
  obtain ⟨R, HR⟩ : ∃ R, Hid (W.heap.size = R) := ⟨_, rfl⟩
  rw [HR.out] at hR ⊢
  obtain ⟨f0, f1, f2, f3, f4, f5⟩ := cells6 hB
  obtain ⟨k0, k1⟩ := cells2d hb
  go_region
  go_upto_region 13 with fail
  replace hb := heap_ext hb ((Ext.refl W2).drew)
  replace hB := heap_ext hB ((Ext.refl W2).drew)
  replace hR := heap_ext hR ((Ext.refl W2).drew)
  replace hx := hx.drew
  clear k0 k1 f0 f1 f2 f3 f4 f5
  generalize W2.drew = W3 at hb hB hR hx ⊢
  have HW3 : Hid (w.heap.size ≤ W3.heap.size) := hx.size
  have HsL := Lib.hid (hsl.ext hx)
  have Hb := Lib.hid hb
  have HB := Lib.hid hB
  have HR3 := Lib.hid hR
  have HX := Lib.hid hx
  clear hb hB hR hx hsl
  go_cut [6] (fun s6 wx => ∃ Bx p1 c1, s6 = .pointer (some ⟨Bx, 0, none⟩) ∧ wx.heap[Bx]? = some (.cells #[.bool C.el, .int .u8 C.st, .int .i64 C.op, .int .i64 C.dy, .int .i64 C.ch, .int .i64 C.lv, .int .i64 C.due, .bool C.hd, .int .i64 C.sn, .slice p1 C.held.length c1] 39 (0, 0)) ∧ Ext W3 wx ∧ Kept W3.heap.size wx c C pc p1 cc c1 ∧ W3.heap.size ≤ Bx)
  case first =>
    have hb := Hb.out
    have hB := HB.out
    have hs3 := HsL.out
    obtain ⟨f0, f1, f2, f3, f4, f5⟩ := cells6 hB
    obtain ⟨k0, k1⟩ := cells2d hb
    have hbl := lt_of hb
    have hFl := lt_of hB
    have hgl : g < W3.heap.size := Nat.lt_of_lt_of_le hgw HX.out.size
    have a0 : W3.cell? ⟨g, k * 10, none⟩ = some (.bool c.el) := (HX.out.cells.1 g _ hgw).trans (HC.out 0 _ rfl)
    have a1 : W3.cell? ⟨g, k * 10 + 1, none⟩ = some (.int .u8 c.st) := (HX.out.cells.1 g _ hgw).trans (HC.out 1 _ rfl)
    have a2 : W3.cell? ⟨g, k * 10 + 2, none⟩ = some (.int .i64 c.op) := (HX.out.cells.1 g _ hgw).trans (HC.out 2 _ rfl)
    have a3 : W3.cell? ⟨g, k * 10 + 3, none⟩ = some (.int .i64 c.dy) := (HX.out.cells.1 g _ hgw).trans (HC.out 3 _ rfl)
    have a4 : W3.cell? ⟨g, k * 10 + 4, none⟩ = some (.int .i64 c.ch) := (HX.out.cells.1 g _ hgw).trans (HC.out 4 _ rfl)
    have a5 : W3.cell? ⟨g, k * 10 + 5, none⟩ = some (.int .i64 c.lv) := (HX.out.cells.1 g _ hgw).trans (HC.out 5 _ rfl)
    have a6 : W3.cell? ⟨g, k * 10 + 6, none⟩ = some (.int .i64 c.due) := (HX.out.cells.1 g _ hgw).trans (HC.out 6 _ rfl)
    have a7 : W3.cell? ⟨g, k * 10 + 7, none⟩ = some (.bool c.hd) := (HX.out.cells.1 g _ hgw).trans (HC.out 7 _ rfl)
    have a8 : W3.cell? ⟨g, k * 10 + 8, none⟩ = some (.int .i64 c.sn) := (HX.out.cells.1 g _ hgw).trans (HC.out 8 _ rfl)
    have a9 : W3.cell? ⟨g, k * 10 + 9, none⟩ = some (.slice pc c.held.length cc) := (HX.out.cells.1 g _ hgw).trans (HC.out 9 _ rfl)
    clear HC HDO HIN HU HDK
    go_region_held3 (fun w' => (w'.cell? ⟨F, 0, none⟩ = some (.int .u8 f.kind) ∧ w'.cell? ⟨F, 1, none⟩ = some (.int .i64 f.day) ∧ w'.cell? ⟨F, 2, none⟩ = some (.int .i64 f.cs)) ∧ w'.cell? ⟨b, 0, none⟩ = some (.slice (some ⟨g, 0, none⟩) xs.length cap) ∧ w'.cell? ⟨g, k * 10, none⟩ = some (.bool c.el) ∧ w'.cell? ⟨g, k * 10 + 1, none⟩ = some (.int .u8 c.st) ∧ w'.cell? ⟨g, k * 10 + 2, none⟩ = some (.int .i64 c.op) ∧ w'.cell? ⟨g, k * 10 + 3, none⟩ = some (.int .i64 c.dy) ∧ w'.cell? ⟨g, k * 10 + 4, none⟩ = some (.int .i64 c.ch) ∧ w'.cell? ⟨g, k * 10 + 5, none⟩ = some (.int .i64 c.lv) ∧ w'.cell? ⟨g, k * 10 + 6, none⟩ = some (.int .i64 c.due) ∧ w'.cell? ⟨g, k * 10 + 7, none⟩ = some (.bool c.hd) ∧ w'.cell? ⟨g, k * 10 + 8, none⟩ = some (.int .i64 c.sn) ∧ w'.cell? ⟨g, k * 10 + 9, none⟩ = some (.slice pc c.held.length cc)) (go_keep)
      (first
        | (go_at_call 37; refine (pass_c c f.day pc cc _ (hs3.ext ((Ext.refl W3).drew)) HP.out (by have := HFO.out; omega)).mono ?_; intro e w1 hr1; rw [HPC.out] at hr1; obtain ⟨p1, c1, rfl, hv1, hx1⟩ := hr1; have X1 : Ext W3 w1 := ((Ext.refl W3).drew).trans hx1; have V1 : Kept W3.heap.size w1 c C pc p1 cc c1 := hv1; clear hv1 hx1; have hb1 := heap_ext hb X1; have hB1 := heap_ext hB X1; have hbl1 := lt_of hb1; have hFl1 := lt_of hB1; have hgl1 : g < w1.heap.size := Nat.lt_of_lt_of_le hgl X1.size; obtain ⟨g0, g1, g2, g3, g4, g5⟩ := cells6 hB1; obtain ⟨j0, j1⟩ := cells2d hb1; have b0 := (X1.cells.1 g _ hgl).trans a0; have b1 := (X1.cells.1 g _ hgl).trans a1; have b2 := (X1.cells.1 g _ hgl).trans a2; have b3 := (X1.cells.1 g _ hgl).trans a3; have b4 := (X1.cells.1 g _ hgl).trans a4; have b5 := (X1.cells.1 g _ hgl).trans a5; have b6 := (X1.cells.1 g _ hgl).trans a6; have b7 := (X1.cells.1 g _ hgl).trans a7; have b8 := (X1.cells.1 g _ hgl).trans a8; have b9 := (X1.cells.1 g _ hgl).trans a9)
        | (go_at_call 37; refine (pass_c c f.day pc cc _ (hs3.ext (((Ext.refl W3).drew).alloc (.cells #[.bool false, .int .u8 0, .int .i64 0, .int .i64 0, .int .i64 0, .int .i64 0, .int .i64 0, .bool false, .int .i64 0, .slice none 0 0] 39))) HP.out (by have := HFO.out; omega)).mono ?_; intro e w1 hr1; rw [HPC.out] at hr1; obtain ⟨p1, c1, rfl, hv1, hx1⟩ := hr1; have X1 : Ext W3 w1 := (((Ext.refl W3).drew).alloc (.cells #[.bool false, .int .u8 0, .int .i64 0, .int .i64 0, .int .i64 0, .int .i64 0, .int .i64 0, .bool false, .int .i64 0, .slice none 0 0] 39)).trans hx1; have V1 : Kept W3.heap.size w1 c C pc p1 cc c1 := hv1.mono (((Ext.refl W3).drew).alloc _).size; have hZ : w1.heap[W3.heap.size]? = some (.cells #[.bool false, .int .u8 0, .int .i64 0, .int .i64 0, .int .i64 0, .int .i64 0, .int .i64 0, .bool false, .int .i64 0, .slice none 0 0] 39 (0, 0)) := heap_ext (heap_new W3.drew (.cells #[.bool false, .int .u8 0, .int .i64 0, .int .i64 0, .int .i64 0, .int .i64 0, .int .i64 0, .bool false, .int .i64 0, .slice none 0 0] 39)) hx1; clear hv1 hx1; obtain ⟨z0, z1, z2, z3, z4, z5, z6, z7, z8, z9⟩ := cells10 hZ; have zf := fun j => frozen_of (j := j) hZ; have zl := lt_of hZ; have n1 : ¬ F = W3.heap.size := (by omega); have n2 : ¬ b = W3.heap.size := (by omega); have n3 : ¬ g = W3.heap.size := (by omega); have m1 : ¬ W3.heap.size = F := (by omega); have m2 : ¬ W3.heap.size = b := (by omega); have m3 : ¬ W3.heap.size = g := (by omega); have hb1 := heap_ext hb X1; have hB1 := heap_ext hB X1; have hbl1 := lt_of hb1; have hFl1 := lt_of hB1; have hgl1 : g < w1.heap.size := Nat.lt_of_lt_of_le hgl X1.size; obtain ⟨g0, g1, g2, g3, g4, g5⟩ := cells6 hB1; obtain ⟨j0, j1⟩ := cells2d hb1; have b0 := (X1.cells.1 g _ hgl).trans a0; have b1 := (X1.cells.1 g _ hgl).trans a1; have b2 := (X1.cells.1 g _ hgl).trans a2; have b3 := (X1.cells.1 g _ hgl).trans a3; have b4 := (X1.cells.1 g _ hgl).trans a4; have b5 := (X1.cells.1 g _ hgl).trans a5; have b6 := (X1.cells.1 g _ hgl).trans a6; have b7 := (X1.cells.1 g _ hgl).trans a7; have b8 := (X1.cells.1 g _ hgl).trans a8; have b9 := (X1.cells.1 g _ hgl).trans a9)
        | fail)
    all_goals
      go_wp2_with fail
      go_meet
      first
        | (have hC4 := heap_same (j := 9) (u := .slice p1 C.held.length c1) (heap_same (j := 8) (u := .int .i64 C.sn) (heap_same (j := 7) (u := .bool C.hd) (heap_same (j := 6) (u := .int .i64 C.due) (heap_same (j := 5) (u := .int .i64 C.lv) (heap_same (j := 4) (u := .int .i64 C.ch) (heap_same (j := 3) (u := .int .i64 C.dy) (heap_same (j := 2) (u := .int .i64 C.op) (heap_same (j := 1) (u := .int .u8 C.st) (heap_same (j := 0) (u := .bool C.el) hZ)))))))))
           simp only [List.setIfInBounds_toArray, List.set_cons_succ, List.set_cons_zero] at hC4
           have X4 : Ext W3 ((((((((((w1.setCell ⟨W3.heap.size, 0, none⟩ (.bool C.el)).setCell ⟨W3.heap.size, 1, none⟩ (.int .u8 C.st)).setCell ⟨W3.heap.size, 2, none⟩ (.int .i64 C.op)).setCell ⟨W3.heap.size, 3, none⟩ (.int .i64 C.dy)).setCell ⟨W3.heap.size, 4, none⟩ (.int .i64 C.ch)).setCell ⟨W3.heap.size, 5, none⟩ (.int .i64 C.lv)).setCell ⟨W3.heap.size, 6, none⟩ (.int .i64 C.due)).setCell ⟨W3.heap.size, 7, none⟩ (.bool C.hd)).setCell ⟨W3.heap.size, 8, none⟩ (.int .i64 C.sn)).setCell ⟨W3.heap.size, 9, none⟩ (.slice p1 C.held.length c1)) := ((((((((((X1.setCell (Nat.le_refl _) _).setCell (Nat.le_refl _) _).setCell (Nat.le_refl _) _).setCell (Nat.le_refl _) _).setCell (Nat.le_refl _) _).setCell (Nat.le_refl _) _).setCell (Nat.le_refl _) _).setCell (Nat.le_refl _) _).setCell (Nat.le_refl _) _).setCell (Nat.le_refl _) _)
           have V4 : Kept W3.heap.size ((((((((((w1.setCell ⟨W3.heap.size, 0, none⟩ (.bool C.el)).setCell ⟨W3.heap.size, 1, none⟩ (.int .u8 C.st)).setCell ⟨W3.heap.size, 2, none⟩ (.int .i64 C.op)).setCell ⟨W3.heap.size, 3, none⟩ (.int .i64 C.dy)).setCell ⟨W3.heap.size, 4, none⟩ (.int .i64 C.ch)).setCell ⟨W3.heap.size, 5, none⟩ (.int .i64 C.lv)).setCell ⟨W3.heap.size, 6, none⟩ (.int .i64 C.due)).setCell ⟨W3.heap.size, 7, none⟩ (.bool C.hd)).setCell ⟨W3.heap.size, 8, none⟩ (.int .i64 C.sn)).setCell ⟨W3.heap.size, 9, none⟩ (.slice p1 C.held.length c1)) c C pc p1 cc c1 := (by
             rcases V1 with V1 | V1
             · exact .inl V1
             · exact .inr (V1.aside ((((((((((Apart.setCell (ts := [39]) (hZ) (by decide) _).trans (Apart.setCell (ts := [39]) (heap_same hZ) (by decide) _)).trans (Apart.setCell (ts := [39]) (heap_same (heap_same hZ)) (by decide) _)).trans (Apart.setCell (ts := [39]) (heap_same (heap_same (heap_same hZ))) (by decide) _)).trans (Apart.setCell (ts := [39]) (heap_same (heap_same (heap_same (heap_same hZ)))) (by decide) _)).trans (Apart.setCell (ts := [39]) (heap_same (heap_same (heap_same (heap_same (heap_same hZ))))) (by decide) _)).trans (Apart.setCell (ts := [39]) (heap_same (heap_same (heap_same (heap_same (heap_same (heap_same hZ)))))) (by decide) _)).trans (Apart.setCell (ts := [39]) (heap_same (heap_same (heap_same (heap_same (heap_same (heap_same (heap_same hZ))))))) (by decide) _)).trans (Apart.setCell (ts := [39]) (heap_same (heap_same (heap_same (heap_same (heap_same (heap_same (heap_same (heap_same hZ)))))))) (by decide) _)).trans (Apart.setCell (ts := [39]) (heap_same (heap_same (heap_same (heap_same (heap_same (heap_same (heap_same (heap_same (heap_same hZ))))))))) (by decide) _)) (by decide)))
           exact ⟨_, p1, c1, rfl, hC4, X4, V4, Nat.le_refl _⟩)
        | exact ⟨_, p1, c1, rfl, heap_new w1 _, X1.alloc _, V1.ext ((Ext.refl w1).alloc _), X1.size⟩
  case rest =>
    obtain ⟨Bx, p1, c1, rfl, hC4, X4, V4, hBx⟩ := hcut
    have hb := heap_ext Hb.out X4
    have hB := heap_ext HB.out X4
    have hR := heap_ext HR3.out X4
    have hx := HX.out.trans X4
    obtain ⟨_, c1', _, _, _, _, _, _, _, _⟩ := cells10 hC4
    have r0 : wc.cell? ⟨R, 0, none⟩ = some (.int .u8 s) := (cell_of hR).trans rfl
    have Kd : Maps.Keyed Tryd.prog 5 := Maps.int_keyed Tryd.underlying5
    have HLB := Lib.hid (lt_of hC4)
    obtain ⟨f0, f1, f2, f3, f4, f5⟩ := cells6 hB
    have HFL := Lib.hid (lt_of HB.out)
    clear Hb HB HR3 HX
    go_upto_region 17 with fail
    have hxa := (Ext.refl wc).alloc (.cells #[.int .u8 f.kind, .int .i64 f.day, .int .i64 f.cs, .int .i64 f.n, .int .i64 f.un, .bool f.hold] 101)
    have hA := heap_new wc (.cells #[.int .u8 f.kind, .int .i64 f.day, .int .i64 f.cs, .int .i64 f.n, .int .i64 f.un, .bool f.hold] 101)
    obtain ⟨A, HA⟩ : ∃ x, Hid (wc.heap.size = x) := ⟨_, rfl⟩
    rw [HA.out] at hA ⊢
    replace hb := heap_ext hb hxa
    replace hB := heap_ext hB hxa
    replace hC4 := heap_ext hC4 hxa
    replace hx := hx.trans hxa
    replace X4 := X4.trans hxa
    replace V4 := V4.ext hxa
    clear f0 f1 f2 f3 f4 f5 c1' r0 hR hxa
    generalize wc.alloc (.cells #[.int .u8 f.kind, .int .i64 f.day, .int .i64 f.cs, .int .i64 f.n, .int .i64 f.un, .bool f.hold] 101) = W5 at hb hB hC4 hx X4 V4 hA ⊢
    have HBx : Hid (W3.heap.size ≤ Bx) := hBx
    clear hBx
    have Hb := Lib.hid hb
    have HB := Lib.hid hB
    have HC4 := Lib.hid hC4
    have HX := Lib.hid hx
    have HX4 := Lib.hid X4
    have HV4 := Lib.hid V4
    clear hb hC4 hx X4 V4
    go_cut [8] (fun s8 wx => s8 = .func (Fn.func fn) #[.agg #[.int .u8 f.kind, .int .i64 f.day, .int .i64 f.cs, .int .i64 f.n, .int .i64 f.un, .bool f.hold]] #[] ∧ Ext W5 wx)
    case first =>
      have hmm := @run_makeMap Tryd.prog
      have hV : VMap Tryd.prog 5 (W5.alloc (.map #[] 0)) W5.heap.size [] := VMap.made
      have hX := (Ext.refl W5).alloc (.map #[] 0)
      have hl1 := Ext.alloc_lt W5 (.map #[] 0)
      obtain ⟨f0, f1, f2, f3, f4, f5⟩ := cells6 (heap_ext hA hX)
      have hfk : (W5.alloc (.map #[] 0)).cell? ⟨F, 0, none⟩ = some (.int .u8 f.kind) := (cells6 (heap_ext hB hX)).1
      go_wp2_with (first
        | (refine wpList_insert_v (key := .int .u8 2) (val := .func (Fn.func 60) #[.agg #[.int .u8 f.kind, .int .i64 f.day, .int .i64 f.cs, .int .i64 f.n, .int .i64 f.un, .bool f.hold]] #[]) rfl _ _ _ _ rfl Kd Tryd.underlying103 hV rfl rfl rfl (keyU8 _ (by decide) (by decide)) (by simp) ?_; intro w9 hV9 hg9; have hX9 : Ext W5 w9 := Ext.grown hX hg9 (fun q hq => by cases hq; exact Nat.le_refl _); clear hV hX hg9 f0 f1 f2 f3 f4 f5 hfk; have hV := hV9; have hX := hX9; clear hV9 hX9; obtain ⟨f0, f1, f2, f3, f4, f5⟩ := cells6 (heap_ext hA hX); have hfk := (cells6 (heap_ext hB hX)).1)
        | (refine wpList_insert_v (key := .int .u8 3) (val := .func (Fn.func 61) #[.agg #[.int .u8 f.kind, .int .i64 f.day, .int .i64 f.cs, .int .i64 f.n, .int .i64 f.un, .bool f.hold]] #[]) rfl _ _ _ _ rfl Kd Tryd.underlying103 hV rfl rfl rfl (keyU8 _ (by decide) (by decide)) (by simp) ?_; intro w9 hV9 hg9; have hX9 : Ext W5 w9 := Ext.grown hX hg9 (fun q hq => by cases hq; exact Nat.le_refl _); clear hV hX hg9 f0 f1 f2 f3 f4 f5 hfk; have hV := hV9; have hX := hX9; clear hV9 hX9; obtain ⟨f0, f1, f2, f3, f4, f5⟩ := cells6 (heap_ext hA hX); have hfk := (cells6 (heap_ext hB hX)).1)
        | (refine wpList_insert_v (key := .int .u8 5) (val := .func (Fn.func 62) #[.agg #[.int .u8 f.kind, .int .i64 f.day, .int .i64 f.cs, .int .i64 f.n, .int .i64 f.un, .bool f.hold]] #[]) rfl _ _ _ _ rfl Kd Tryd.underlying103 hV rfl rfl rfl (keyU8 _ (by decide) (by decide)) (by simp) ?_; intro w9 hV9 hg9; have hX9 : Ext W5 w9 := Ext.grown hX hg9 (fun q hq => by cases hq; exact Nat.le_refl _); clear hV hX hg9 f0 f1 f2 f3 f4 f5 hfk; have hV := hV9; have hX := hX9; clear hV9 hX9; obtain ⟨f0, f1, f2, f3, f4, f5⟩ := cells6 (heap_ext hA hX); have hfk := (cells6 (heap_ext hB hX)).1)
        | (refine wpList_insert_v (key := .int .u8 6) (val := .func (Fn.func 63) #[.agg #[.int .u8 f.kind, .int .i64 f.day, .int .i64 f.cs, .int .i64 f.n, .int .i64 f.un, .bool f.hold]] #[]) rfl _ _ _ _ rfl Kd Tryd.underlying103 hV rfl rfl rfl (keyU8 _ (by decide) (by decide)) (by simp) ?_; intro w9 hV9 hg9; have hX9 : Ext W5 w9 := Ext.grown hX hg9 (fun q hq => by cases hq; exact Nat.le_refl _); clear hV hX hg9 f0 f1 f2 f3 f4 f5 hfk; have hV := hV9; have hX := hX9; clear hV9 hX9; obtain ⟨f0, f1, f2, f3, f4, f5⟩ := cells6 (heap_ext hA hX); have hfk := (cells6 (heap_ext hB hX)).1)
        | (refine wpList_insert_v (key := .int .u8 7) (val := .func (Fn.func 61) #[.agg #[.int .u8 f.kind, .int .i64 f.day, .int .i64 f.cs, .int .i64 f.n, .int .i64 f.un, .bool f.hold]] #[]) rfl _ _ _ _ rfl Kd Tryd.underlying103 hV rfl rfl rfl (keyU8 _ (by decide) (by decide)) (by simp) ?_; intro w9 hV9 hg9; have hX9 : Ext W5 w9 := Ext.grown hX hg9 (fun q hq => by cases hq; exact Nat.le_refl _); clear hV hX hg9 f0 f1 f2 f3 f4 f5 hfk; have hV := hV9; have hX := hX9; clear hV9 hX9; obtain ⟨f0, f1, f2, f3, f4, f5⟩ := cells6 (heap_ext hA hX); have hfk := (cells6 (heap_ext hB hX)).1)
        | (refine wpList_lookup_v (key := .int .u8 f.kind) (v := .func (Fn.func fn) #[.agg #[.int .u8 f.kind, .int .i64 f.day, .int .i64 f.cs, .int .i64 f.n, .int .i64 f.un, .bool f.hold]] #[]) rfl _ _ _ rfl Kd Tryd.underlying103 hV rfl rfl (keyU8 _ hk.1 hk.2) HIN.out HU.out ?_))
      go_meet
      exact ⟨rfl, hX⟩
    case rest =>
      obtain ⟨rfl, hX⟩ := hcut
      obtain ⟨W6, rfl⟩ : ∃ W6, W6 = wc := ⟨_, rfl⟩
      replace Hb := Lib.hid (heap_ext Hb.out hX)
      replace HB := Lib.hid (heap_ext HB.out hX)
      have hC6 := heap_ext HC4.out hX
      replace HV4 := Lib.hid (HV4.out.ext hX)
      replace HX := Lib.hid (HX.out.trans hX)
      have HX6 := Lib.hid (HX4.out.trans hX)
      clear hX hA HC4 HX4 hB
      go_upto_region 18 with fail
      go_cut [9] (fun s9 wx => ∃ p2 c2, s9 = .int .i64 er ∧ wx.heap[Bx]? = some (.cells #[.bool D.el, .int .u8 D.st, .int .i64 D.op, .int .i64 D.dy, .int .i64 D.ch, .int .i64 D.lv, .int .i64 D.due, .bool D.hd, .int .i64 D.sn, .slice p2 D.held.length c2] 39 (0, 0)) ∧ (∀ (n : Nat) (o : Obj), n ≠ Bx → W6.heap[n]? = some o → wx.heap[n]? = some o) ∧ ((p2 = p1 ∧ c2 = c1 ∧ D.held = C.held) ∨ Owns W6.heap.size 57 2 enc2 wx (.slice p2 D.held.length c2) D.held) ∧ Kept W3.heap.size wx c C pc p1 cc c1 ∧ Ext w wx)
      case first =>
        have hs9 : Sl 2 enc2 W6 p1 C.held := HV4.out.sl HsL.out HX6.out
        rcases HFN.out with rfl | rfl | rfl | rfl
        all_goals
          go_wp2_with (refine wpList_load_row rfl 39 _ rfl _ rfl 39 _ _ _ hC6 Tryd.underlying39 rfl (by kernel_rfl) ?_)
          refine (HDO.out p1 c1 _ hs9).mono ?_
          rintro e wM ⟨p2, c2, rfl, hv2, hN2⟩
          have hCM := heap_ext hC6 hN2
          go_wp2_with (refine wpList_store_row rfl 39 _ _ rfl _ _ rfl rfl 39 _ hCM (by kernel_rfl) (by rfl) (by simp [Value.oneCell']) ?_)
          go_meet
          have hap := Apart.setRow (ts := [39]) hCM (by decide) #[.bool D.el, .int .u8 D.st, .int .i64 D.op, .int .i64 D.dy, .int .i64 D.ch, .int .i64 D.lv, .int .i64 D.due, .bool D.hd, .int .i64 D.sn, .slice p2 D.held.length c2]
          refine ⟨p2, c2, rfl, setRow_heap _ _ _ _ _ _ hCM, fun n o hn ho => (setRow_other _ _ _ _ hn).trans (heap_ext ho hN2), ?_, ?_, (HX.out.trans hN2).setRow (Nat.le_trans HW3.out HBx.out) _⟩
          · rcases hv2 with hv2 | hv2
            · exact .inl hv2
            · exact .inr (hv2.aside hap (by decide))
          · rcases HV4.out with V | V
            · exact .inl V
            · exact .inr ((Owns.ext V hN2).aside hap (by decide))
      case rest =>
        obtain ⟨p2, c2, rfl, hCx, hoth, hv2, V6, hx⟩ := hcut
        by_cases h0 : er = 0
        · subst h0
          have HOWN : Hid (Owns w0.heap.size 57 2 enc2 wc (.slice p2 D.held.length c2) D.held) := by
            have hz0 := hw.size
            have hz1 := HW3.out
            have hz2 := HX6.out.size
            rcases hv2 with ⟨e1, e2, e3⟩ | hv2
            · unfold Hid
              rw [e1, e2, e3]
              rcases V6 with ⟨e4, e5, e6⟩ | V6
              · have := (HDK.out.held _ (List.getElem_mem hn)).ext hx
                rw [HXK.out] at this
                rw [e4, e5, e6]
                exact this
              · exact Owns.mono V6 (by omega)
            · exact Owns.mono hv2 (by omega)
          clear hv2 V6
          have hFl := HFL.out
          have hB := hoth F _ (by have := HBx.out; omega) HB.out
          have hb := heap_ext hG0b hx
          have hG := heap_ext hG0 hx
          have hgl := lt_of hG
          have hbl := lt_of hb
          have hFl2 := lt_of hB
          have hCl := lt_of hCx
          have zf := fun j => frozen_of (j := j) hG
          have zb := frozen_of (j := 1) hb
          obtain ⟨f0, f1, f2, f3, f4, f5⟩ := cells6 hB
          obtain ⟨k0, k1⟩ := cells2d hb
          obtain ⟨d0, d1, d2, d3, d4, d5, d6, d7, d8, d9⟩ := cells10 hCx
          have a0 : wc.cell? ⟨g, k * 10, none⟩ = some (.bool c.el) := (hx.cells.1 g _ hgw).trans (HC.out 0 _ rfl)
          have a1 : wc.cell? ⟨g, k * 10 + 1, none⟩ = some (.int .u8 c.st) := (hx.cells.1 g _ hgw).trans (HC.out 1 _ rfl)
          have a2 : wc.cell? ⟨g, k * 10 + 2, none⟩ = some (.int .i64 c.op) := (hx.cells.1 g _ hgw).trans (HC.out 2 _ rfl)
          have a3 : wc.cell? ⟨g, k * 10 + 3, none⟩ = some (.int .i64 c.dy) := (hx.cells.1 g _ hgw).trans (HC.out 3 _ rfl)
          have a4 : wc.cell? ⟨g, k * 10 + 4, none⟩ = some (.int .i64 c.ch) := (hx.cells.1 g _ hgw).trans (HC.out 4 _ rfl)
          have a5 : wc.cell? ⟨g, k * 10 + 5, none⟩ = some (.int .i64 c.lv) := (hx.cells.1 g _ hgw).trans (HC.out 5 _ rfl)
          have a6 : wc.cell? ⟨g, k * 10 + 6, none⟩ = some (.int .i64 c.due) := (hx.cells.1 g _ hgw).trans (HC.out 6 _ rfl)
          have a7 : wc.cell? ⟨g, k * 10 + 7, none⟩ = some (.bool c.hd) := (hx.cells.1 g _ hgw).trans (HC.out 7 _ rfl)
          have a8 : wc.cell? ⟨g, k * 10 + 8, none⟩ = some (.int .i64 c.sn) := (hx.cells.1 g _ hgw).trans (HC.out 8 _ rfl)
          have a9 : wc.cell? ⟨g, k * 10 + 9, none⟩ = some (.slice pc c.held.length cc) := (hx.cells.1 g _ hgw).trans (HC.out 9 _ rfl)
          have hgw' := hgw
          have hFw := HF.out
          have n1 : ¬ g = F := (by omega)
          have n2 : ¬ g = b := fun e => HGB.out e.symm
          have n3 : ¬ g = Bx := (by have := HBx.out; have := HW3.out; omega)
          have m1 : ¬ F = g := fun e => n1 e.symm
          have m2 : ¬ b = g := HGB.out
          have m3 : ¬ Bx = g := fun e => n3 e.symm
          have q1 : ¬ b = F := (by have := lt_of hG0b; omega)
          have q2 : ¬ b = Bx := (by have := lt_of hG0b; have := HBx.out; have := HW3.out; omega)
          have q3 : ¬ F = b := fun e => q1 e.symm
          have q4 : ¬ Bx = b := fun e => q2 e.symm
          clear hgw' hFw
          go_upto_region 20 with fail
          go_region_held3 (fun w' => (w'.cell? ⟨F, 0, none⟩ = some (.int .u8 f.kind) ∧ w'.cell? ⟨F, 1, none⟩ = some (.int .i64 f.day) ∧ w'.cell? ⟨F, 2, none⟩ = some (.int .i64 f.cs)) ∧ w'.cell? ⟨b, 0, none⟩ = some (.slice (some ⟨g, 0, none⟩) xs.length cap) ∧ w'.cell? ⟨Bx, 0, none⟩ = some (.bool D.el) ∧ w'.cell? ⟨Bx, 1, none⟩ = some (.int .u8 D.st) ∧ w'.cell? ⟨Bx, 2, none⟩ = some (.int .i64 D.op) ∧ w'.cell? ⟨Bx, 3, none⟩ = some (.int .i64 D.dy) ∧ w'.cell? ⟨Bx, 4, none⟩ = some (.int .i64 D.ch) ∧ w'.cell? ⟨Bx, 5, none⟩ = some (.int .i64 D.lv) ∧ w'.cell? ⟨Bx, 6, none⟩ = some (.int .i64 D.due) ∧ w'.cell? ⟨Bx, 7, none⟩ = some (.bool D.hd) ∧ w'.cell? ⟨Bx, 8, none⟩ = some (.int .i64 D.sn) ∧ w'.cell? ⟨Bx, 9, none⟩ = some (.slice p2 D.held.length c2)) (simp [*, World.cell?_setCell_far, World.cell?_setCell_other]) (fail)
          all_goals
            go_wp2_with fail
            go_ret
            unfold doneD
            rw [if_pos rfl]
            exact close_do HDK.out hw hx hn HOWN.out
        · have h0b : (er == 0) = false := by simpa using h0
          go_wp2_with fail
          go_ret
          have := RdF.same HDK.out hw (e := .returned (.int .i64 er)) rfl hx
          unfold doneD
          rw [if_neg h0]
          exact this
end Go.Proofs.YtalconpcpegmlaaDoor
