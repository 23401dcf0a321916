import Derived.Test.YtalconpcpegmlaaDoorAppE
import Derived.Laws.ResultCell
/- appeal.opened, choose, close, appeal, rule, walked. -/
namespace Go.Proofs.YtalconpcpegmlaaDoor
open Go.RowKit

theorem heap_new1 (w : World) (o : Obj) (o2 : Obj) : ((w.alloc o).alloc o2).heap[w.heap.size + 1]? = some o2 := by
  have h := heap_new (w.alloc o) o2
  have e : (w.alloc o).heap.size = w.heap.size + 1 := by simp
  rw [e] at h; exact h
set_option maxHeartbeats 800000 in
set_option maxRecDepth 100000 in
theorem opened_c (f : Fl) (w : World) (hd : 0 ≤ f.day ∧ f.day ≤ 1000000) (hn : 0 ≤ f.n ∧ f.n ≤ 1000000) :
    Calls Tryd.prog 59 #[.agg #[.int .u8 f.kind, .int .i64 f.day, .int .i64 f.cs, .int .i64 f.n, .int .i64 f.un, .bool f.hold]] w fun e w' => RdCs w w' (openedP f) e := by
  have hw1 := IntWalk.i64_in (f.day + f.n) (by omega)
  by_cases h1 : f.kind = 1
  · have hq : (f.kind == 1) = true := by simp [h1]
    have HO : Hid (openedP f = ⟨true, 1, f.day, f.n, 1, 0, f.un, false, 0, []⟩) := by unfold Hid openedP; rw [if_pos h1]
    clear h1
    go_enter Tryd.func59, Tryd.ntmps59
    go_wp2
    refine bodyPost_ret (results_cell_row Tryd.results59 _ _ (w.heap.size + 1) 39 _ (0, 0) _ rfl (heap_new1 _ _ _) Tryd.underlying39 rfl (by kernel_rfl)) rfl ?_
    rw [HO.out]
    exact ⟨none, 0, rfl, Owns.nil, ((Ext.refl w).alloc _).alloc _⟩
  · have hq : (f.kind == 1) = false := by simp [h1]
    have HO : Hid (openedP f = ⟨false, 2, f.day, f.n, 0, 0, f.day + f.n, false, 0, []⟩) := by unfold Hid openedP; rw [if_neg h1]
    clear h1
    go_enter Tryd.func59, Tryd.ntmps59
    go_wp2
    refine bodyPost_ret (results_cell_row Tryd.results59 _ _ (w.heap.size + 1) 39 _ (0, 0) _ rfl (heap_new1 _ _ _) Tryd.underlying39 rfl (by kernel_rfl)) rfl ?_
    rw [HO.out]
    exact ⟨none, 0, rfl, Owns.nil, ((Ext.refl w).alloc _).alloc _⟩
theorem results_row2 {P : Program} {fn : Func} {p u : Tmp} {ty : TypeId} (h : fn.results = #[.cell p ty, .tmp u]) (tmps : Array Value) (w : World) (g : Nat) (t : TypeId) (cs : Array Value) (fr : Nat × Nat) (d : TypeDesc)
    (hp : tmps.getD p undef = .pointer (some ⟨g, 0, none⟩)) (hg : w.heap[g]? = some (.cells cs t fr))
    (hu : P.underlying ty = some d) (hd : (match d with | .struct _ | .array _ _ => true | _ => false) = true) (hi : (P.info? ty).map (·.size) = some cs.size) :
    (results fn tmps).run P w = .ok (.tuple #[.agg cs, tmps.getD u undef]) w := by
  rw [results_cell_tmp h]
  have hp' : tmps[p]?.getD undef = .pointer (some ⟨g, 0, none⟩) := by simpa using hp
  simp [hp', asAddr, run_loadVar_row w g t ty cs fr d hg hu hd hi, Result.andThen]
theorem heap_new2 (w : World) (o o2 o3 : Obj) : (((w.alloc o).alloc o2).alloc o3).heap[w.heap.size + 1 + 1]? = some o3 := by
  have h := heap_new1 (w.alloc o) o2 o3
  have e : (w.alloc o).heap.size = w.heap.size + 1 := by simp
  rw [e] at h; exact h
/-- What an act hands back: a case, whose held days are those that came in or owned, and an error. -/
def RdDo (w w' : World) (c0 C : Cs) (p0 : Option Addr) (cap0 : Nat) (er : Int) (e : Ending) : Prop := ∃ p cap, e = .returned (.tuple #[.agg #[.bool C.el, .int .u8 C.st, .int .i64 C.op, .int .i64 C.dy, .int .i64 C.ch, .int .i64 C.lv, .int .i64 C.due, .bool C.hd, .int .i64 C.sn, .slice p C.held.length cap], .int .i64 er]) ∧ ((p = p0 ∧ cap = cap0 ∧ C.held = c0.held) ∨ OwnS w w' (.slice p C.held.length cap) C.held) ∧ Ext w w'
set_option maxHeartbeats 1600000 in
set_option maxRecDepth 100000 in
theorem close_c (f : Fl) (c : Cs) (p : Option Addr) (cap : Nat) (w : World) (hs : Sl 2 enc2 w p c.held) (hp : PB c) :
    Calls Tryd.prog 61 #[.agg #[.int .u8 f.kind, .int .i64 f.day, .int .i64 f.cs, .int .i64 f.n, .int .i64 f.un, .bool f.hold], .agg #[.bool c.el, .int .u8 c.st, .int .i64 c.op, .int .i64 c.dy, .int .i64 c.ch, .int .i64 c.lv, .int .i64 c.due, .bool c.hd, .int .i64 c.sn, .slice p c.held.length cap]] w fun e w' => RdDo w w' c (endP c 4 f.day) p cap 0 e := by
  obtain ⟨C, HC⟩ : ∃ C, Hid (endP c 4 f.day = C) := ⟨_, rfl⟩
  rw [HC.out]
  go_enter Tryd.func61, Tryd.ntmps61
  go_wp2_with fail
  refine (end_c c 4 f.day p cap _ (hs.ext ((((Ext.refl w).alloc _).alloc _).alloc _)) hp.h).mono ?_
  intro e wN hr
  rw [HC.out] at hr
  obtain ⟨p3, c3, rfl, hv, hN⟩ := hr
  have hC := heap_ext (heap_new2 _ _ _ _) hN
  have hx := ((((Ext.refl w).alloc _).alloc _).alloc _).trans hN
  go_wp2_with (refine wpList_store_row rfl 39 _ _ rfl _ _ rfl rfl 39 _ hC (by kernel_rfl) (by rfl) (by simp [Value.oneCell']) ?_)
  refine bodyPost_ret (results_row2 Tryd.results61 _ _ (w.heap.size + 1 + 1) 39 _ (0, 0) _ rfl (setRow_heap _ _ _ _ _ _ hC) Tryd.underlying39 rfl (by kernel_rfl)) rfl ?_
  exact ⟨p3, c3, rfl, .inr (Owns.mono (hv.rowPast (by simp) _) (((((Ext.refl w).alloc _).alloc _).alloc _).size)), hx.setRow (by omega) _⟩
set_option maxHeartbeats 1600000 in
set_option maxRecDepth 100000 in
theorem rule_c (f : Fl) (c : Cs) (p : Option Addr) (cap : Nat) (w : World) (hs : Sl 2 enc2 w p c.held) (hp : PB c) (hd : 0 ≤ f.day ∧ f.day ≤ 1000000) :
    Calls Tryd.prog 63 #[.agg #[.int .u8 f.kind, .int .i64 f.day, .int .i64 f.cs, .int .i64 f.n, .int .i64 f.un, .bool f.hold], .agg #[.bool c.el, .int .u8 c.st, .int .i64 c.op, .int .i64 c.dy, .int .i64 c.ch, .int .i64 c.lv, .int .i64 c.due, .bool c.hd, .int .i64 c.sn, .slice p c.held.length cap]] w fun e w' => RdDo w w' c (if f.n = 2 then endP c 5 f.day else upholdP c f.day) p cap 0 e := by
  by_cases h1 : f.n = 2
  · have hq : (f.n == 2) = true := by simp [h1]
    rw [if_pos h1]
    clear h1
    obtain ⟨C, HC⟩ : ∃ C, Hid (endP c 5 f.day = C) := ⟨_, rfl⟩
    rw [HC.out]
    go_enter Tryd.func63, Tryd.ntmps63
    go_wp2_with fail
    refine (end_c c 5 f.day p cap _ (hs.ext ((((Ext.refl w).alloc _).alloc _).alloc _)) hp.h).mono ?_
    intro e wN hr
    rw [HC.out] at hr
    obtain ⟨p3, c3, rfl, hv, hN⟩ := hr
    have hC := heap_ext (heap_new2 _ _ _ _) hN
    have hx := ((((Ext.refl w).alloc _).alloc _).alloc _).trans hN
    go_wp2_with (refine wpList_store_row rfl 39 _ _ rfl _ _ rfl rfl 39 _ hC (by kernel_rfl) (by rfl) (by simp [Value.oneCell']) ?_)
    refine bodyPost_ret (results_row2 Tryd.results63 _ _ (w.heap.size + 1 + 1) 39 _ (0, 0) _ rfl (setRow_heap _ _ _ _ _ _ hC) Tryd.underlying39 rfl (by kernel_rfl)) rfl ?_
    exact ⟨p3, c3, rfl, .inr (Owns.mono (hv.rowPast (by simp) _) (((((Ext.refl w).alloc _).alloc _).alloc _).size)), hx.setRow (by omega) _⟩
  · have hq : (f.n == 2) = false := by simp [h1]
    rw [if_neg h1]
    clear h1
    obtain ⟨C, HC⟩ : ∃ C, Hid (upholdP c f.day = C) := ⟨_, rfl⟩
    rw [HC.out]
    go_enter Tryd.func63, Tryd.ntmps63
    go_wp2_with fail
    refine (uphold_c c f.day p cap _ (hs.ext ((((Ext.refl w).alloc _).alloc _).alloc _)) hp.h hd hp.y).mono ?_
    intro e wN hr
    rw [HC.out] at hr
    obtain ⟨p3, c3, rfl, hv, hN⟩ := hr
    have hC := heap_ext (heap_new2 _ _ _ _) hN
    have hx := ((((Ext.refl w).alloc _).alloc _).alloc _).trans hN
    go_wp2_with (refine wpList_store_row rfl 39 _ _ rfl _ _ rfl rfl 39 _ hC (by kernel_rfl) (by rfl) (by simp [Value.oneCell']) ?_)
    refine bodyPost_ret (results_row2 Tryd.results63 _ _ (w.heap.size + 1 + 1) 39 _ (0, 0) _ rfl (setRow_heap _ _ _ _ _ _ hC) Tryd.underlying39 rfl (by kernel_rfl)) rfl ?_
    exact ⟨p3, c3, rfl, .inr (Owns.mono (hv.rowPast (by simp) _) (((((Ext.refl w).alloc _).alloc _).alloc _).size)), hx.setRow (by omega) _⟩
set_option maxHeartbeats 1600000 in
set_option maxRecDepth 100000 in
theorem choose_c (f : Fl) (c : Cs) (p : Option Addr) (cap : Nat) (w : World) :
    Calls Tryd.prog 60 #[.agg #[.int .u8 f.kind, .int .i64 f.day, .int .i64 f.cs, .int .i64 f.n, .int .i64 f.un, .bool f.hold], .agg #[.bool c.el, .int .u8 c.st, .int .i64 c.op, .int .i64 c.dy, .int .i64 c.ch, .int .i64 c.lv, .int .i64 c.due, .bool c.hd, .int .i64 c.sn, .slice p c.held.length cap]] w fun e w' => RdDo w w' c (if f.n > c.dy then (c, (402 : Int)) else ({ c with ch := f.n }, 0)).1 p cap (if f.n > c.dy then (c, (402 : Int)) else ({ c with ch := f.n }, 0)).2 e := by
  by_cases h1 : f.n > c.dy
  · have hq : decide (c.dy < f.n) = true := by simpa using h1
    rw [if_pos h1]
    clear h1
    go_enter Tryd.func60, Tryd.ntmps60
    go_wp2
    refine bodyPost_ret (results_row2 Tryd.results60 _ _ (w.heap.size + 1 + 1) 39 _ (0, 0) _ rfl (heap_new2 _ _ _ _) Tryd.underlying39 rfl (by kernel_rfl)) rfl ?_
    exact ⟨p, cap, rfl, .inl ⟨rfl, rfl, rfl⟩, (((Ext.refl w).alloc _).alloc _).alloc _⟩
  · have hq : decide (c.dy < f.n) = false := by simpa using h1
    rw [if_neg h1]
    clear h1
    go_enter Tryd.func60, Tryd.ntmps60
    go_wp2
    refine bodyPost_ret (results_row2 Tryd.results60 _ _ (w.heap.size + 1 + 1) 39 _ (0, 0) _ rfl (heap_new2 _ _ _ _) Tryd.underlying39 rfl (by kernel_rfl)) rfl ?_
    exact ⟨p, cap, rfl, .inl ⟨rfl, rfl, rfl⟩, (((Ext.refl w).alloc _).alloc _).alloc _⟩
end Go.Proofs.YtalconpcpegmlaaDoor
