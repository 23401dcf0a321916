import Derived.Test.YtalconpcpegmlaaDoorAppA
import Derived.Deep.DeepCutAuto
/- appeal.end, walked. -/
namespace Go.Proofs.YtalconpcpegmlaaDoor
open Go.RowKit

def RdCs (w w' : World) (c : Cs) (e : Ending) : Prop := ∃ p cap, e = .returned (.agg #[.bool c.el, .int .u8 c.st, .int .i64 c.op, .int .i64 c.dy, .int .i64 c.ch, .int .i64 c.lv, .int .i64 c.due, .bool c.hd, .int .i64 c.sn, .slice p c.held.length cap]) ∧ OwnS w w' (.slice p c.held.length cap) c.held ∧ Ext w w'
set_option maxHeartbeats 1600000 in
set_option maxRecDepth 100000 in
theorem end_any (el hd : Bool) (st op dy ch lv due sn st2 day : Int) (held : List Sp) (p : Option Addr) (cap : Nat) (w : World) (hs : Sl 2 enc2 w p held) (hm : held.length ≤ 1000000) :
    Calls Tryd.prog 51 #[.agg #[.bool el, .int .u8 st, .int .i64 op, .int .i64 dy, .int .i64 ch, .int .i64 lv, .int .i64 due, .bool hd, .int .i64 sn, .slice p held.length cap], .int .u8 st2, .int .i64 day] w
      fun e w' => RdCs w w' (endP ⟨el, st, op, dy, ch, lv, due, hd, sn, held⟩ st2 day) e := by
  obtain ⟨A, HA⟩ : ∃ A, Hid (heldP ⟨el, st, op, dy, ch, lv, due, hd, sn, held⟩ day = A) := ⟨_, rfl⟩
  have hB := heap_new w (.cells #[.bool el, .int .u8 st, .int .i64 op, .int .i64 dy, .int .i64 ch, .int .i64 lv, .int .i64 due, .bool hd, .int .i64 sn, .slice p held.length cap] 39)
  have hx := (Ext.refl w).alloc (.cells #[.bool el, .int .u8 st, .int .i64 op, .int .i64 dy, .int .i64 ch, .int .i64 lv, .int .i64 due, .bool hd, .int .i64 sn, .slice p held.length cap] 39)
  have hz : (w.alloc (.cells #[.bool el, .int .u8 st, .int .i64 op, .int .i64 dy, .int .i64 ch, .int .i64 lv, .int .i64 due, .bool hd, .int .i64 sn, .slice p held.length cap] 39)).heap.size = w.heap.size + 1 := by simp
  go_enter Tryd.func51, Tryd.ntmps51
  go_upto_region 1 with fail
  rw [← hz]
  generalize w.alloc (.cells #[.bool el, .int .u8 st, .int .i64 op, .int .i64 dy, .int .i64 ch, .int .i64 lv, .int .i64 due, .bool hd, .int .i64 sn, .slice p held.length cap] 39) = W1 at hx hB hz ⊢
  have hC := heap_new W1 (.cells #[.bool false, .int .u8 0, .int .i64 0, .int .i64 0, .int .i64 0, .int .i64 0, .int .i64 0, .bool false, .int .i64 0, .slice none 0 0] 39)
  have hx2 := (Ext.refl W1).alloc (.cells #[.bool false, .int .u8 0, .int .i64 0, .int .i64 0, .int .i64 0, .int .i64 0, .int .i64 0, .bool false, .int .i64 0, .slice none 0 0] 39)
  replace hB := heap_ext hB hx2
  generalize W1.alloc (.cells #[.bool false, .int .u8 0, .int .i64 0, .int .i64 0, .int .i64 0, .int .i64 0, .int .i64 0, .bool false, .int .i64 0, .slice none 0 0] 39) = W2 at hC hx2 hB ⊢
  replace hx := hx.trans hx2
  have hB2 : w.heap.size ≤ W1.heap.size := by omega
  have hBB : w.heap.size ≠ W1.heap.size := by omega
  clear hx2 hz
  obtain ⟨b, hb⟩ : ∃ b, Hid (w.heap.size = b) := ⟨_, rfl⟩
  rw [hb.out] at hB hBB ⊢
  generalize W1.heap.size = b2 at hC hB2 hBB ⊢
  go_wp2_with (refine wpList_load_row rfl 39 _ rfl _ rfl 39 _ _ _ hB Tryd.underlying39 rfl (by kernel_rfl) ?_)
  refine (held_any el hd st op dy ch lv due sn day held p cap _ (hs.ext hx) hm).mono ?_
  rintro e wN ⟨v, rfl, hv, hN⟩
  rw [HA.out] at hv
  obtain ⟨p3, c3, rfl, _⟩ := hv.read enc2_len
  have hsz := hx.size
  have hbW : b < W2.heap.size := lt_of hB
  have hbV : b2 < W2.heap.size := lt_of hC
  replace hB := heap_ext hB hN
  replace hC := heap_ext hC hN
  replace hx := hx.trans hN
  obtain ⟨k0, k1, k2, k3, k4, k5, k6, k7, k8, k9⟩ := cells10 hB
  have hf := fun j => frozen_of (j := j) hB
  have hl := lt_of hB
  clear k0 k2 k3 k4 k5
  go_upto_region 3 with fail
  have hW := heap_same (j := 8) (u := .int .i64 0) (heap_same (j := 7) (u := .bool false) (heap_same (j := 6) (u := .int .i64 day) (heap_same (j := 1) (u := .int .u8 st2) (heap_same (j := 9) (u := .slice p3 A.length c3) hB))))
  have hV := heap_other (n := b) (j := 8) (u := .int .i64 0) (heap_other (n := b) (j := 7) (u := .bool false) (heap_other (n := b) (j := 6) (u := .int .i64 day) (heap_other (n := b) (j := 1) (u := .int .u8 st2) (heap_other (n := b) (j := 9) (u := .slice p3 A.length c3) hC (Ne.symm hBB)) (Ne.symm hBB)) (Ne.symm hBB)) (Ne.symm hBB)) (Ne.symm hBB)
  simp only [List.setIfInBounds_toArray, List.set_cons_succ, List.set_cons_zero] at hW
  have hxw : Ext w (((((wN.setCell ⟨b, 9, none⟩ (.slice p3 A.length c3)).setCell ⟨b, 1, none⟩ (.int .u8 st2)).setCell ⟨b, 6, none⟩ (.int .i64 day)).setCell ⟨b, 7, none⟩ (.bool false)).setCell ⟨b, 8, none⟩ (.int .i64 0)) :=
    ((((hx.setCell (Nat.le_of_eq hb.out) _).setCell (Nat.le_of_eq hb.out) _).setCell (Nat.le_of_eq hb.out) _).setCell (Nat.le_of_eq hb.out) _).setCell (Nat.le_of_eq hb.out) _
  have hv4 := ((((hv.setPast hbW 9 (.slice p3 A.length c3)).setPast hbW 1 (.int .u8 st2)).setPast hbW 6 (.int .i64 day)).setPast hbW 7 (.bool false)).setPast hbW 8 (.int .i64 0)
  generalize ((((wN.setCell ⟨b, 9, none⟩ (.slice p3 A.length c3)).setCell ⟨b, 1, none⟩ (.int .u8 st2)).setCell ⟨b, 6, none⟩ (.int .i64 day)).setCell ⟨b, 7, none⟩ (.bool false)).setCell ⟨b, 8, none⟩ (.int .i64 0) = W5 at hW hV hxw hv4 ⊢
  clear k1 k6 k7 k8 k9 hf hl hB hC hx hv
  go_wp2_with (first
    | (refine wpList_load_row rfl 39 _ rfl _ rfl 39 _ _ _ hW Tryd.underlying39 rfl (by kernel_rfl) ?_)
    | (refine wpList_store_row rfl 39 _ _ rfl _ _ rfl rfl 39 _ hV (by kernel_rfl) (by rfl) (by simp [Value.oneCell']) ?_))
  refine bodyPost_ret (results_cell_row Tryd.results51 _ _ b2 39 _ (0, 0) _ rfl (setRow_heap _ _ _ _ _ _ hV) Tryd.underlying39 rfl (by kernel_rfl)) rfl ?_
  have e := HA.out
  subst e
  exact ⟨p3, c3, rfl, Owns.mono (hv4.rowPast hbV _) hsz, hxw.setRow hB2 _⟩
end Go.Proofs.YtalconpcpegmlaaDoor
