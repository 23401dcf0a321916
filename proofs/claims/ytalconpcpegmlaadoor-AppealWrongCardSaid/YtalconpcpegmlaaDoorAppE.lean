import Derived.Test.YtalconpcpegmlaaDoorAppD
/- appeal.on, walked. -/
namespace Go.Proofs.YtalconpcpegmlaaDoor
open Go.RowKit

theorem PB.pass1 {c : Cs} {day : Int} (h : PB c) (hd : day ≤ 1000000) : PB (pass1 c day) := by
  have := h.d
  unfold Go.Proofs.YtalconpcpegmlaaDoor.pass1
  split
  · exact h
  · split
    · exact h.uphold (by omega)
    · exact h.fin (by omega)
theorem PB.pass {c : Cs} {day : Int} (h : PB c) (hd : day ≤ 1000000) : PB (passP c day) := PB.pass1 (PB.pass1 h hd) hd
set_option maxHeartbeats 1600000 in
set_option maxRecDepth 100000 in
theorem on_c (c : Cs) (day : Int) (p : Option Addr) (cap : Nat) (w : World) (hs : Sl 2 enc2 w p c.held) (hp : PB c) (hd : -1000000 ≤ day ∧ day ≤ 1000000) :
    Calls Tryd.prog 32 #[.agg #[.bool c.el, .int .u8 c.st, .int .i64 c.op, .int .i64 c.dy, .int .i64 c.ch, .int .i64 c.lv, .int .i64 c.due, .bool c.hd, .int .i64 c.sn, .slice p c.held.length cap], .int .i64 day] w fun e w' => RdCs w w' (onP c day) e := by
  have HPC := Lib.hid (hp.pass hd.2)
  obtain ⟨C, HC⟩ : ∃ C, Hid (passP c day = C) := ⟨_, rfl⟩
  rw [HC.out] at HPC
  obtain ⟨A, HA⟩ : ∃ A, Hid (heldP C (day + 1) = A) := ⟨_, rfl⟩
  have HO : Hid (onP c day = { C with held := A }) := by unfold Hid onP; rw [HC.out, HA.out]
  have HPc := Lib.hid hp
  have hCm := HPC.out.h
  have hw1 := IntWalk.i64_in (day + 1) (by omega)
  clear hp
  have hB := heap_new w (.cells #[.bool c.el, .int .u8 c.st, .int .i64 c.op, .int .i64 c.dy, .int .i64 c.ch, .int .i64 c.lv, .int .i64 c.due, .bool c.hd, .int .i64 c.sn, .slice p c.held.length cap] 39)
  have hx := (Ext.refl w).alloc (.cells #[.bool c.el, .int .u8 c.st, .int .i64 c.op, .int .i64 c.dy, .int .i64 c.ch, .int .i64 c.lv, .int .i64 c.due, .bool c.hd, .int .i64 c.sn, .slice p c.held.length cap] 39)
  have hz : (w.alloc (.cells #[.bool c.el, .int .u8 c.st, .int .i64 c.op, .int .i64 c.dy, .int .i64 c.ch, .int .i64 c.lv, .int .i64 c.due, .bool c.hd, .int .i64 c.sn, .slice p c.held.length cap] 39)).heap.size = w.heap.size + 1 := by simp
  go_enter Tryd.func32, Tryd.ntmps32
  go_wp2_with fail
  rw [← hz]
  generalize w.alloc (.cells #[.bool c.el, .int .u8 c.st, .int .i64 c.op, .int .i64 c.dy, .int .i64 c.ch, .int .i64 c.lv, .int .i64 c.due, .bool c.hd, .int .i64 c.sn, .slice p c.held.length cap] 39) = W1 at hx hB hz ⊢
  have hC := heap_new W1 (.cells #[.bool false, .int .u8 0, .int .i64 0, .int .i64 0, .int .i64 0, .int .i64 0, .int .i64 0, .bool false, .int .i64 0, .slice none 0 0] 39)
  have hx2 := (Ext.refl W1).alloc (.cells #[.bool false, .int .u8 0, .int .i64 0, .int .i64 0, .int .i64 0, .int .i64 0, .int .i64 0, .bool false, .int .i64 0, .slice none 0 0] 39)
  replace hB := heap_ext hB hx2
  generalize W1.alloc (.cells #[.bool false, .int .u8 0, .int .i64 0, .int .i64 0, .int .i64 0, .int .i64 0, .int .i64 0, .bool false, .int .i64 0, .slice none 0 0] 39) = W2 at hC hx2 hB ⊢
  replace hx := hx.trans hx2
  have hB2 : w.heap.size ≤ W1.heap.size := by omega
  have hBB : w.heap.size ≠ W1.heap.size := by omega
  clear hx2 hz
  obtain ⟨b, hb⟩ : ∃ b, Hid (w.heap.size = b) := ⟨_, rfl⟩
  rw [hb.out] at hB hBB ⊢
  generalize W1.heap.size = b2 at hC hB2 hBB ⊢
  have hbW : b < W2.heap.size := lt_of hB
  have hbV : b2 < W2.heap.size := lt_of hC
  have hsz := hx.size
  go_wp2_with (refine wpList_load_row rfl 39 _ rfl _ rfl 39 _ _ _ hB Tryd.underlying39 rfl (by kernel_rfl) ?_)
  refine (pass_c c day p cap _ (hs.ext hx) HPc.out hd.2).mono ?_
  intro e wN hr
  rw [HC.out] at hr
  obtain ⟨p3, c3, rfl, hk, hN⟩ := hr
  replace hB := heap_ext hB hN
  replace hC := heap_ext hC hN
  replace hx := hx.trans hN
  have hsz2 := hN.size
  have hB3 := setRow_heap wN b _ #[.bool C.el, .int .u8 C.st, .int .i64 C.op, .int .i64 C.dy, .int .i64 C.ch, .int .i64 C.lv, .int .i64 C.due, .bool C.hd, .int .i64 C.sn, .slice p3 C.held.length c3] _ _ hB
  have hC3 := (setRow_other wN b b2 #[.bool C.el, .int .u8 C.st, .int .i64 C.op, .int .i64 C.dy, .int .i64 C.ch, .int .i64 C.lv, .int .i64 C.due, .bool C.hd, .int .i64 C.sn, .slice p3 C.held.length c3] (Ne.symm hBB)).trans hC
  have hx3 := hx.setRow (Nat.le_of_eq hb.out) #[.bool C.el, .int .u8 C.st, .int .i64 C.op, .int .i64 C.dy, .int .i64 C.ch, .int .i64 C.lv, .int .i64 C.due, .bool C.hd, .int .i64 C.sn, .slice p3 C.held.length c3]
  have hz3 : (wN.setRow b #[.bool C.el, .int .u8 C.st, .int .i64 C.op, .int .i64 C.dy, .int .i64 C.ch, .int .i64 C.lv, .int .i64 C.due, .bool C.hd, .int .i64 C.sn, .slice p3 C.held.length c3]).heap.size = wN.heap.size := by simp [World.setRow]
  have hk3 := hk.rowPast hbW #[.bool C.el, .int .u8 C.st, .int .i64 C.op, .int .i64 C.dy, .int .i64 C.ch, .int .i64 C.lv, .int .i64 C.due, .bool C.hd, .int .i64 C.sn, .slice p3 C.held.length c3]
  have hs3 := hk3.sl (hs.ext hx3) (Ext.refl _)
  go_wp2_with (first
    | (refine wpList_store_row rfl 39 _ _ rfl _ _ rfl rfl 39 _ hB (by kernel_rfl) (by rfl) (by simp [Value.oneCell']) ?_; generalize wN.setRow b #[.bool C.el, .int .u8 C.st, .int .i64 C.op, .int .i64 C.dy, .int .i64 C.ch, .int .i64 C.lv, .int .i64 C.due, .bool C.hd, .int .i64 C.sn, .slice p3 C.held.length c3] = W4 at hB3 hC3 hx3 hz3 hk3 hs3 ⊢)
    | (refine wpList_load_row rfl 39 _ rfl _ rfl 39 _ _ _ hB3 Tryd.underlying39 rfl (by kernel_rfl) ?_))
  refine (held_any C.el C.hd C.st C.op C.dy C.ch C.lv C.due C.sn (day + 1) C.held p3 c3 _ hs3 hCm).mono ?_
  rintro e wM ⟨v, rfl, hv, hM⟩
  have e4 : heldP ⟨C.el, C.st, C.op, C.dy, C.ch, C.lv, C.due, C.hd, C.sn, C.held⟩ (day + 1) = A := HA.out
  rw [e4] at hv
  obtain ⟨p5, c5, rfl, _⟩ := hv.read enc2_len
  have hbW4 : b < W4.heap.size := lt_of hB3
  replace hB3 := heap_ext hB3 hM
  replace hC3 := heap_ext hC3 hM
  replace hx3 := hx3.trans hM
  obtain ⟨k0, k1, k2, k3, k4, k5, k6, k7, k8, k9⟩ := cells10 hB3
  have hf := frozen_of (j := 9) hB3
  have hl := lt_of hB3
  clear k0 k1 k2 k3 k4 k5 k6 k7 k8
  go_upto_region 3 with fail
  have hW := heap_same (j := 9) (u := .slice p5 A.length c5) hB3
  have hV := heap_other (n := b) (j := 9) (u := .slice p5 A.length c5) hC3 (Ne.symm hBB)
  simp only [List.setIfInBounds_toArray, List.set_cons_succ, List.set_cons_zero] at hW
  have hxw := hx3.setCell (p := ⟨b, 9, none⟩) (Nat.le_of_eq hb.out) (.slice p5 A.length c5)
  have hv4 := hv.setPast hbW4 9 (.slice p5 A.length c5)
  generalize wM.setCell ⟨b, 9, none⟩ (.slice p5 A.length c5) = W5 at hW hV hxw hv4 ⊢
  clear k9 hf hl hB3 hC3 hx3 hv
  go_wp2_with (first
    | (refine wpList_load_row rfl 39 _ rfl _ rfl 39 _ _ _ hW Tryd.underlying39 rfl (by kernel_rfl) ?_)
    | (refine wpList_store_row rfl 39 _ _ rfl _ _ rfl rfl 39 _ hV (by kernel_rfl) (by rfl) (by simp [Value.oneCell']) ?_))
  refine bodyPost_ret (results_cell_row Tryd.results32 _ _ b2 39 _ (0, 0) _ rfl (setRow_heap _ _ _ _ _ _ hV) Tryd.underlying39 rfl (by kernel_rfl)) rfl ?_
  rw [HO.out]
  exact ⟨p5, c5, rfl, Owns.mono (hv4.rowPast (by omega) _) (by omega), hxw.setRow hB2 _⟩
end Go.Proofs.YtalconpcpegmlaaDoor
