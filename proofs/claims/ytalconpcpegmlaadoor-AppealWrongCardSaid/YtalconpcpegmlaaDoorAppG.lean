import Derived.Test.YtalconpcpegmlaaDoorAppF
/- appeal.act.appeal, walked. -/
namespace Go.Proofs.YtalconpcpegmlaaDoor
open Go.RowKit

def appealP (f : Fl) (c : Cs) : Cs := if f.hold = true then { c with st := 3, due := f.day + 365, lv := c.lv + 1, hd := true, sn := f.day } else { c with st := 3, due := f.day + 365, lv := c.lv + 1 }
set_option maxHeartbeats 1600000 in
set_option maxRecDepth 100000 in
theorem appeal_c (f : Fl) (c : Cs) (p : Option Addr) (cap : Nat) (w : World) (hd : 0 ≤ f.day ∧ f.day ≤ 1000000) (hl : 0 ≤ c.lv ∧ c.lv ≤ 1000000) :
    Calls Tryd.prog 62 #[.agg #[.int .u8 f.kind, .int .i64 f.day, .int .i64 f.cs, .int .i64 f.n, .int .i64 f.un, .bool f.hold], .agg #[.bool c.el, .int .u8 c.st, .int .i64 c.op, .int .i64 c.dy, .int .i64 c.ch, .int .i64 c.lv, .int .i64 c.due, .bool c.hd, .int .i64 c.sn, .slice p c.held.length cap]] w fun e w' => RdDo w w' c (appealP f c) p cap 0 e := by
  have hw1 := IntWalk.i64_in (f.day + 365) (by omega)
  have hw2 := IntWalk.i64_in (c.lv + 1) (by omega)
  cases hq : f.hold with
  | false =>
    have HA : Hid (appealP f c = { c with st := 3, due := f.day + 365, lv := c.lv + 1 }) := by unfold Hid appealP; rw [if_neg (by rw [hq]; decide)]
    go_enter Tryd.func62, Tryd.ntmps62
    go_wp2
    go_region
    all_goals go_wp2
    refine bodyPost_ret (results_row2 Tryd.results62 _ _ (w.heap.size + 1 + 1) 39 _ (0, 0) _ rfl (heap_new2 _ _ _ _) Tryd.underlying39 rfl (by kernel_rfl)) rfl ?_
    rw [HA.out]
    exact ⟨p, cap, rfl, .inl ⟨rfl, rfl, rfl⟩, ((((Ext.refl w).alloc _).alloc _).alloc _).drew⟩
  | true =>
    have HA : Hid (appealP f c = { c with st := 3, due := f.day + 365, lv := c.lv + 1, hd := true, sn := f.day }) := by unfold Hid appealP; rw [if_pos hq]
    go_enter Tryd.func62, Tryd.ntmps62
    go_wp2
    go_region
    all_goals go_wp2
    go_region
    all_goals go_wp2
    refine bodyPost_ret (results_row2 Tryd.results62 _ _ (w.heap.size + 1 + 1) 39 _ (0, 0) _ rfl (heap_new2 _ _ _ _) Tryd.underlying39 rfl (by kernel_rfl)) rfl ?_
    rw [HA.out]
    exact ⟨p, cap, rfl, .inl ⟨rfl, rfl, rfl⟩, (((((Ext.refl w).alloc _).alloc _).alloc _).drew).drew⟩
end Go.Proofs.YtalconpcpegmlaaDoor
