import Derived.Test.YtalconpcpegmlaaDoorAppB
/- appeal.over, uphold, walked. -/
namespace Go.Proofs.YtalconpcpegmlaaDoor
open Go.RowKit

theorem end_c (c : Cs) (st2 day : Int) (p : Option Addr) (cap : Nat) (w : World) (hs : Sl 2 enc2 w p c.held) (hm : c.held.length ≤ 1000000) :
    Calls Tryd.prog 51 #[.agg #[.bool c.el, .int .u8 c.st, .int .i64 c.op, .int .i64 c.dy, .int .i64 c.ch, .int .i64 c.lv, .int .i64 c.due, .bool c.hd, .int .i64 c.sn, .slice p c.held.length cap], .int .u8 st2, .int .i64 day] w fun e w' => RdCs w w' (endP c st2 day) e :=
  end_any c.el c.hd c.st c.op c.dy c.ch c.lv c.due c.sn st2 day c.held p cap w hs hm
theorem makeV_le (l : List Sp) : (makeV l).length ≤ 1000000 := by
  by_cases h : l.all rightB = true
  · have := Ok.length (by omega) (by omega) (makeV_spec h).1; omega
  · unfold makeV; rw [if_neg h]; simp
theorem heldP_le (c : Cs) (day : Int) (h : c.held.length ≤ 1000000) : (heldP c day).length ≤ 1000000 := by
  unfold heldP; split
  · exact makeV_le _
  · exact h
theorem over_c (c : Cs) (p : Option Addr) (cap : Nat) (w : World) :
    Calls Tryd.prog 36 #[.agg #[.bool c.el, .int .u8 c.st, .int .i64 c.op, .int .i64 c.dy, .int .i64 c.ch, .int .i64 c.lv, .int .i64 c.due, .bool c.hd, .int .i64 c.sn, .slice p c.held.length cap]] w fun e w' => e = .returned (.bool (decide (4 ≤ c.st))) ∧ Ext w w' := by
  go_enter Tryd.func36, Tryd.ntmps36
  go_wp2
  go_ret
  exact ⟨rfl, (Ext.refl w).alloc _⟩
set_option maxHeartbeats 1600000 in
set_option maxRecDepth 100000 in
theorem uphold_c (c : Cs) (day : Int) (p : Option Addr) (cap : Nat) (w : World) (hs : Sl 2 enc2 w p c.held) (hm : c.held.length ≤ 1000000) (hd : 0 ≤ day ∧ day ≤ 1000000) (hy : 0 ≤ c.dy ∧ c.dy ≤ 1000000) :
    Calls Tryd.prog 50 #[.agg #[.bool c.el, .int .u8 c.st, .int .i64 c.op, .int .i64 c.dy, .int .i64 c.ch, .int .i64 c.lv, .int .i64 c.due, .bool c.hd, .int .i64 c.sn, .slice p c.held.length cap], .int .i64 day] w fun e w' => RdCs w w' (upholdP c day) e := by
  by_cases hl3 : c.lv = 3
  · have hq : (c.lv == 3) = true := by simp [hl3]
    obtain ⟨C, HC⟩ : ∃ C, Hid (endP c 4 day = C) := ⟨_, rfl⟩
    have HU : Hid (upholdP c day = C) := by unfold Hid upholdP; rw [if_pos hl3]; exact HC.out
    clear hl3
    have hB := heap_new w (.cells #[.bool c.el, .int .u8 c.st, .int .i64 c.op, .int .i64 c.dy, .int .i64 c.ch, .int .i64 c.lv, .int .i64 c.due, .bool c.hd, .int .i64 c.sn, .slice p c.held.length cap] 39)
    have hx := (Ext.refl w).alloc (.cells #[.bool c.el, .int .u8 c.st, .int .i64 c.op, .int .i64 c.dy, .int .i64 c.ch, .int .i64 c.lv, .int .i64 c.due, .bool c.hd, .int .i64 c.sn, .slice p c.held.length cap] 39)
    have hz : (w.alloc (.cells #[.bool c.el, .int .u8 c.st, .int .i64 c.op, .int .i64 c.dy, .int .i64 c.ch, .int .i64 c.lv, .int .i64 c.due, .bool c.hd, .int .i64 c.sn, .slice p c.held.length cap] 39)).heap.size = w.heap.size + 1 := by simp
    go_enter Tryd.func50, Tryd.ntmps50
    go_upto_region 1 with fail
    rw [← hz]
    generalize w.alloc (.cells #[.bool c.el, .int .u8 c.st, .int .i64 c.op, .int .i64 c.dy, .int .i64 c.ch, .int .i64 c.lv, .int .i64 c.due, .bool c.hd, .int .i64 c.sn, .slice p c.held.length cap] 39) = W1 at hx hB hz ⊢
    have hC := heap_new W1 (.cells #[.bool false, .int .u8 0, .int .i64 0, .int .i64 0, .int .i64 0, .int .i64 0, .int .i64 0, .bool false, .int .i64 0, .slice none 0 0] 39)
    have hx2 := (Ext.refl W1).alloc (.cells #[.bool false, .int .u8 0, .int .i64 0, .int .i64 0, .int .i64 0, .int .i64 0, .int .i64 0, .bool false, .int .i64 0, .slice none 0 0] 39)
    replace hB := heap_ext hB hx2
    generalize W1.alloc (.cells #[.bool false, .int .u8 0, .int .i64 0, .int .i64 0, .int .i64 0, .int .i64 0, .int .i64 0, .bool false, .int .i64 0, .slice none 0 0] 39) = W2 at hC hx2 hB ⊢
    replace hx := hx.trans hx2
    have hB2 : w.heap.size ≤ W1.heap.size := by omega
    have hBB : w.heap.size ≠ W1.heap.size := by omega
    clear hx2 hz
    obtain ⟨b, hb⟩ : ∃ b, Hid (w.heap.size = b) := ⟨_, rfl⟩
    rw [hb.out] at hB hBB ⊢
    generalize W1.heap.size = b2 at hC hB2 hBB ⊢
    have hbW : b < W2.heap.size := lt_of hB
    have hbV : b2 < W2.heap.size := lt_of hC
    have hsz := hx.size
    obtain ⟨k0, k1, k2, k3, k4, k5, k6, k7, k8, k9⟩ := cells10 hB
    clear k0 k1 k2 k3 k4 k6 k7 k8 k9
    go_wp2_with (refine wpList_load_row rfl 39 _ rfl _ rfl 39 _ _ _ hB Tryd.underlying39 rfl (by kernel_rfl) ?_)
    refine (end_c c 4 day p cap _ (hs.ext hx) hm).mono ?_
    intro e wN hr
    rw [HC.out] at hr
    obtain ⟨p3, c3, rfl, hv3, hN⟩ := hr
    replace hC := heap_ext hC hN
    replace hx := hx.trans hN
    go_wp2_with (refine wpList_store_row rfl 39 _ _ rfl _ _ rfl rfl 39 _ hC (by kernel_rfl) (by rfl) (by simp [Value.oneCell']) ?_)
    refine bodyPost_ret (results_cell_row Tryd.results50 _ _ b2 39 _ (0, 0) _ rfl (setRow_heap _ _ _ _ _ _ hC) Tryd.underlying39 rfl (by kernel_rfl)) rfl ?_
    rw [HU.out]
    exact ⟨p3, c3, rfl, Owns.mono (hv3.rowPast hbV _) hsz, hx.setRow hB2 _⟩
  · have hq : (c.lv == 3) = false := by simp [hl3]
    obtain ⟨C, HC⟩ : ∃ C, Hid (endP c 2 day = C) := ⟨_, rfl⟩
    have HU : Hid (upholdP c day = { C with due := day + c.dy }) := by unfold Hid upholdP; rw [if_neg hl3, HC.out]
    have hdue : C.due = day := by rw [← HC.out]; rfl
    have hdy : C.dy = c.dy := by rw [← HC.out]; rfl
    have HD := Lib.hid (And.intro hdue hdy)
    have hw1 := IntWalk.i64_in (C.due + C.dy) (by omega)
    clear hl3 hdue hdy
    have hB := heap_new w (.cells #[.bool c.el, .int .u8 c.st, .int .i64 c.op, .int .i64 c.dy, .int .i64 c.ch, .int .i64 c.lv, .int .i64 c.due, .bool c.hd, .int .i64 c.sn, .slice p c.held.length cap] 39)
    have hx := (Ext.refl w).alloc (.cells #[.bool c.el, .int .u8 c.st, .int .i64 c.op, .int .i64 c.dy, .int .i64 c.ch, .int .i64 c.lv, .int .i64 c.due, .bool c.hd, .int .i64 c.sn, .slice p c.held.length cap] 39)
    have hz : (w.alloc (.cells #[.bool c.el, .int .u8 c.st, .int .i64 c.op, .int .i64 c.dy, .int .i64 c.ch, .int .i64 c.lv, .int .i64 c.due, .bool c.hd, .int .i64 c.sn, .slice p c.held.length cap] 39)).heap.size = w.heap.size + 1 := by simp
    go_enter Tryd.func50, Tryd.ntmps50
    go_upto_region 1 with fail
    rw [← hz]
    generalize w.alloc (.cells #[.bool c.el, .int .u8 c.st, .int .i64 c.op, .int .i64 c.dy, .int .i64 c.ch, .int .i64 c.lv, .int .i64 c.due, .bool c.hd, .int .i64 c.sn, .slice p c.held.length cap] 39) = W1 at hx hB hz ⊢
    have hC := heap_new W1 (.cells #[.bool false, .int .u8 0, .int .i64 0, .int .i64 0, .int .i64 0, .int .i64 0, .int .i64 0, .bool false, .int .i64 0, .slice none 0 0] 39)
    have hx2 := (Ext.refl W1).alloc (.cells #[.bool false, .int .u8 0, .int .i64 0, .int .i64 0, .int .i64 0, .int .i64 0, .int .i64 0, .bool false, .int .i64 0, .slice none 0 0] 39)
    replace hB := heap_ext hB hx2
    generalize W1.alloc (.cells #[.bool false, .int .u8 0, .int .i64 0, .int .i64 0, .int .i64 0, .int .i64 0, .int .i64 0, .bool false, .int .i64 0, .slice none 0 0] 39) = W2 at hC hx2 hB ⊢
    replace hx := hx.trans hx2
    have hB2 : w.heap.size ≤ W1.heap.size := by omega
    have hBB : w.heap.size ≠ W1.heap.size := by omega
    clear hx2 hz
    obtain ⟨b, hb⟩ : ∃ b, Hid (w.heap.size = b) := ⟨_, rfl⟩
    rw [hb.out] at hB hBB ⊢
    generalize W1.heap.size = b2 at hC hB2 hBB ⊢
    have hbW : b < W2.heap.size := lt_of hB
    have hbV : b2 < W2.heap.size := lt_of hC
    have hsz := hx.size
    obtain ⟨k0, k1, k2, k3, k4, k5, k6, k7, k8, k9⟩ := cells10 hB
    clear k0 k1 k2 k3 k4 k6 k7 k8 k9
    go_wp2_with (refine wpList_load_row rfl 39 _ rfl _ rfl 39 _ _ _ hB Tryd.underlying39 rfl (by kernel_rfl) ?_)
    refine (end_c c 2 day p cap _ (hs.ext hx) hm).mono ?_
    intro e wN hr
    rw [HC.out] at hr
    obtain ⟨p3, c3, rfl, hv3, hN⟩ := hr
    replace hB := heap_ext hB hN
    replace hC := heap_ext hC hN
    replace hx := hx.trans hN
    clear k5
    have hB3 := setRow_heap wN b _ #[.bool C.el, .int .u8 C.st, .int .i64 C.op, .int .i64 C.dy, .int .i64 C.ch, .int .i64 C.lv, .int .i64 C.due, .bool C.hd, .int .i64 C.sn, .slice p3 C.held.length c3] _ _ hB
    have hC3 := (setRow_other wN b b2 #[.bool C.el, .int .u8 C.st, .int .i64 C.op, .int .i64 C.dy, .int .i64 C.ch, .int .i64 C.lv, .int .i64 C.due, .bool C.hd, .int .i64 C.sn, .slice p3 C.held.length c3] (Ne.symm hBB)).trans hC
    have hv4 := hv3.rowPast hbW #[.bool C.el, .int .u8 C.st, .int .i64 C.op, .int .i64 C.dy, .int .i64 C.ch, .int .i64 C.lv, .int .i64 C.due, .bool C.hd, .int .i64 C.sn, .slice p3 C.held.length c3]
    have hx3 := hx.setRow (Nat.le_of_eq hb.out) #[.bool C.el, .int .u8 C.st, .int .i64 C.op, .int .i64 C.dy, .int .i64 C.ch, .int .i64 C.lv, .int .i64 C.due, .bool C.hd, .int .i64 C.sn, .slice p3 C.held.length c3]
    go_upto_region 5 with (refine wpList_store_row rfl 39 _ _ rfl _ _ rfl rfl 39 _ hB (by kernel_rfl) (by rfl) (by simp [Value.oneCell']) ?_; generalize wN.setRow b #[.bool C.el, .int .u8 C.st, .int .i64 C.op, .int .i64 C.dy, .int .i64 C.ch, .int .i64 C.lv, .int .i64 C.due, .bool C.hd, .int .i64 C.sn, .slice p3 C.held.length c3] = W4 at hB3 hC3 hv4 hx3 ⊢; obtain ⟨j0, j1, j2, j3, j4, j5, j6, j7, j8, j9⟩ := cells10 hB3; have hf := frozen_of (j := 6) hB3; have hl := lt_of hB3; clear j0 j1 j2 j4 j5 j7 j8 j9)
    have hB5 := heap_same (j := 6) (u := .int .i64 (C.due + C.dy)) hB3
    have hC5 := heap_other (n := b) (j := 6) (u := .int .i64 (C.due + C.dy)) hC3 (Ne.symm hBB)
    have hv5 := hv4.setPast hbW 6 (.int .i64 (C.due + C.dy))
    have hx5 := hx3.setCell (p := ⟨b, 6, none⟩) (Nat.le_of_eq hb.out) (.int .i64 (C.due + C.dy))
    simp only [List.setIfInBounds_toArray, List.set_cons_succ, List.set_cons_zero] at hB5
    generalize W4.setCell ⟨b, 6, none⟩ (.int .i64 (C.due + C.dy)) = W5 at hB5 hC5 hv5 hx5 ⊢
    clear hB hC hx hB3 hC3 hv4 hx3 j3 j6 hf hl hv3
    go_wp2_with (first
      | (refine wpList_load_row rfl 39 _ rfl _ rfl 39 _ _ _ hB5 Tryd.underlying39 rfl (by kernel_rfl) ?_)
      | (refine wpList_store_row rfl 39 _ _ rfl _ _ rfl rfl 39 _ hC5 (by kernel_rfl) (by rfl) (by simp [Value.oneCell']) ?_))
    refine bodyPost_ret (results_cell_row Tryd.results50 _ _ b2 39 _ (0, 0) _ rfl (setRow_heap _ _ _ _ _ _ hC5) Tryd.underlying39 rfl (by kernel_rfl)) rfl ?_
    rw [HU.out]
    refine ⟨p3, c3, ?_, Owns.mono (hv5.rowPast hbV _) hsz, hx5.setRow hB2 _⟩
    rw [HD.out.1, HD.out.2]
end Go.Proofs.YtalconpcpegmlaaDoor
