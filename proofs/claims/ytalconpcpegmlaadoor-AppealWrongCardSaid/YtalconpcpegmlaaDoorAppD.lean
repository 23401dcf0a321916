import Derived.Test.YtalconpcpegmlaaDoorAppC
/- appeal.pass, walked. -/
namespace Go.Proofs.YtalconpcpegmlaaDoor
open Go.RowKit

theorem pass1_stop {c : Cs} {day : Int} (h : 4 ≤ c.st ∨ day ≤ c.due) : pass1 c day = c := by unfold pass1; rw [if_pos h]
theorem pass_stop {c : Cs} {day : Int} (h : 4 ≤ c.st ∨ day ≤ c.due) : passP c day = c := by unfold passP; rw [pass1_stop h, pass1_stop h]
theorem upholdP_st (c : Cs) (day : Int) : (upholdP c day).st = 4 ∨ (upholdP c day).st = 2 := by
  unfold upholdP; split
  · exact .inl rfl
  · exact .inr rfl
theorem pass1_st {c : Cs} {day : Int} (h : ¬ (4 ≤ c.st ∨ day ≤ c.due)) : (pass1 c day).st = 4 ∨ (pass1 c day).st = 2 := by
  unfold pass1; rw [if_neg h]; split
  · exact upholdP_st _ _
  · exact .inl rfl
theorem pass1_twice {c : Cs} {day : Int} (h : c.st ≠ 3) : pass1 (pass1 c day) day = pass1 c day := by
  by_cases hs : 4 ≤ c.st ∨ day ≤ c.due
  · rw [pass1_stop hs, pass1_stop hs]
  · refine pass1_stop (.inl ?_)
    unfold pass1; rw [if_neg hs, if_neg h]; exact Int.le_refl 4
theorem pass_step {c : Cs} {day : Int} (h : ¬ (4 ≤ c.st ∨ day ≤ c.due)) : passP (pass1 c day) day = passP c day := by
  unfold passP
  refine pass1_twice ?_
  rcases pass1_st h with h | h <;> omega
def rkOf (w : World) (b : Nat) : Nat := let s := intOf ((w.cell? ⟨b, 1, none⟩).getD undef); if 4 ≤ s then 0 else if s = 3 then 2 else 1
theorem rk_row {w : World} {b : Nat} {T : TypeId} {fr : Nat × Nat} {x0 x2 x3 x4 x5 x6 x7 x8 x9 : Value} {s : Int} (h : w.heap[b]? = some (.cells #[x0, .int .u8 s, x2, x3, x4, x5, x6, x7, x8, x9] T fr)) : rkOf w b = if 4 ≤ s then 0 else if s = 3 then 2 else 1 := by
  unfold rkOf; rw [(cells10 h).2.1]; rfl
/-- Where a case's held days lie: as they came in, or owned by the call. -/
def Kept (N : Nat) (w' : World) (c0 C : Cs) (p0 p : Option Addr) (cap0 cap : Nat) : Prop := (p = p0 ∧ cap = cap0 ∧ C = c0) ∨ Owns N 57 2 enc2 w' (.slice p C.held.length cap) C.held
def RdP (w w' : World) (c0 C : Cs) (p0 : Option Addr) (cap0 : Nat) (e : Ending) : Prop := ∃ p cap, e = .returned (.agg #[.bool C.el, .int .u8 C.st, .int .i64 C.op, .int .i64 C.dy, .int .i64 C.ch, .int .i64 C.lv, .int .i64 C.due, .bool C.hd, .int .i64 C.sn, .slice p C.held.length cap]) ∧ Kept w.heap.size w' c0 C p0 p cap0 cap ∧ Ext w w'
section
variable {N : Nat} {w w' : World} {c0 C : Cs} {p0 p : Option Addr} {cap0 cap : Nat}
theorem Kept.sl (h : Kept N w' c0 C p0 p cap0 cap) (hs : Sl 2 enc2 w p0 c0.held) (hx : Ext w w') : Sl 2 enc2 w' p C.held := by
  rcases h with ⟨rfl, _, rfl⟩ | h
  · exact hs.ext hx
  · exact h.slOf enc2_len
theorem Kept.ext (h : Kept N w c0 C p0 p cap0 cap) (hx : Ext w w') : Kept N w' c0 C p0 p cap0 cap := by
  rcases h with h | h
  · exact .inl h
  · exact .inr (Owns.ext h hx)
theorem Kept.rowPast {b : Nat} (h : Kept N w c0 C p0 p cap0 cap) (hb : b < N) (cs : Array Value) : Kept N (w.setRow b cs) c0 C p0 p cap0 cap := by
  rcases h with h | h
  · exact .inl h
  · exact .inr (h.rowPast hb cs)
theorem Kept.mono {M : Nat} (h : Kept N w c0 C p0 p cap0 cap) (hM : M ≤ N) : Kept M w c0 C p0 p cap0 cap := by
  rcases h with h | h
  · exact .inl h
  · exact .inr (Owns.mono h hM)
end
structure PB (c : Cs) : Prop where
  h : c.held.length ≤ 1000000
  d : 0 ≤ c.due ∧ c.due ≤ 3000000
  y : 0 ≤ c.dy ∧ c.dy ≤ 1000000
theorem PB.fin {c : Cs} {st day : Int} (h : PB c) (hd : 0 ≤ day ∧ day ≤ 1000000) : PB (endP c st day) := ⟨heldP_le c day h.h, ⟨hd.1, by show day ≤ 3000000; omega⟩, h.y⟩
theorem PB.uphold {c : Cs} {day : Int} (h : PB c) (hd : 0 ≤ day ∧ day ≤ 1000000) : PB (upholdP c day) := by
  unfold upholdP; split
  · exact h.fin hd
  · have := h.y
    exact ⟨heldP_le c day h.h, ⟨by show 0 ≤ day + c.dy; omega, by show day + c.dy ≤ 3000000; omega⟩, h.y⟩
set_option maxHeartbeats 3200000 in
set_option maxRecDepth 100000 in
theorem pass_c (c : Cs) (day : Int) (p : Option Addr) (cap : Nat) (w : World) (hs : Sl 2 enc2 w p c.held) (hp : PB c) (hd : day ≤ 1000000) :
    Calls Tryd.prog 37 #[.agg #[.bool c.el, .int .u8 c.st, .int .i64 c.op, .int .i64 c.dy, .int .i64 c.ch, .int .i64 c.lv, .int .i64 c.due, .bool c.hd, .int .i64 c.sn, .slice p c.held.length cap], .int .i64 day] w fun e w' => RdP w w' c (passP c day) p cap e := by
  have HP := Lib.hid hp
  clear hp
  have hB := heap_new w (.cells #[.bool c.el, .int .u8 c.st, .int .i64 c.op, .int .i64 c.dy, .int .i64 c.ch, .int .i64 c.lv, .int .i64 c.due, .bool c.hd, .int .i64 c.sn, .slice p c.held.length cap] 39)
  have hx := (Ext.refl w).alloc (.cells #[.bool c.el, .int .u8 c.st, .int .i64 c.op, .int .i64 c.dy, .int .i64 c.ch, .int .i64 c.lv, .int .i64 c.due, .bool c.hd, .int .i64 c.sn, .slice p c.held.length cap] 39)
  have hz : (w.alloc (.cells #[.bool c.el, .int .u8 c.st, .int .i64 c.op, .int .i64 c.dy, .int .i64 c.ch, .int .i64 c.lv, .int .i64 c.due, .bool c.hd, .int .i64 c.sn, .slice p c.held.length cap] 39)).heap.size = w.heap.size + 1 := by simp
  go_enter Tryd.func37, Tryd.ntmps37
  go_wp2_with fail
  rw [← hz]
  generalize w.alloc (.cells #[.bool c.el, .int .u8 c.st, .int .i64 c.op, .int .i64 c.dy, .int .i64 c.ch, .int .i64 c.lv, .int .i64 c.due, .bool c.hd, .int .i64 c.sn, .slice p c.held.length cap] 39) = W1 at hx hB hz ⊢
  have hC := heap_new W1 (.cells #[.bool false, .int .u8 0, .int .i64 0, .int .i64 0, .int .i64 0, .int .i64 0, .int .i64 0, .bool false, .int .i64 0, .slice none 0 0] 39)
  have hx2 := (Ext.refl W1).alloc (.cells #[.bool false, .int .u8 0, .int .i64 0, .int .i64 0, .int .i64 0, .int .i64 0, .int .i64 0, .bool false, .int .i64 0, .slice none 0 0] 39)
  replace hB := heap_ext hB hx2
  generalize W1.alloc (.cells #[.bool false, .int .u8 0, .int .i64 0, .int .i64 0, .int .i64 0, .int .i64 0, .int .i64 0, .bool false, .int .i64 0, .slice none 0 0] 39) = W2 at hC hx2 hB ⊢
  replace hx := hx.trans hx2
  have hB2 : w.heap.size ≤ W1.heap.size := by omega
  have hBB : w.heap.size ≠ W1.heap.size := by omega
  clear hx2 hz
  obtain ⟨b, hb⟩ : ∃ b, Hid (w.heap.size = b) := ⟨_, rfl⟩
  rw [hb.out] at hB hBB ⊢
  generalize W1.heap.size = b2 at hC hB2 hBB ⊢
  have hbW : b < W2.heap.size := lt_of hB
  have hbV : b2 < W2.heap.size := lt_of hC
  have hsz := hx.size
  go_loopw [5] (fun _ wr => ∃ C p1 c1, wr.heap[b]? = some (.cells #[.bool C.el, .int .u8 C.st, .int .i64 C.op, .int .i64 C.dy, .int .i64 C.ch, .int .i64 C.lv, .int .i64 C.due, .bool C.hd, .int .i64 C.sn, .slice p1 C.held.length c1] 39 (0, 0)) ∧ wr.heap[b2]? = some (.cells #[.bool false, .int .u8 0, .int .i64 0, .int .i64 0, .int .i64 0, .int .i64 0, .int .i64 0, .bool false, .int .i64 0, .slice none 0 0] 39 (0, 0)) ∧ Kept W2.heap.size wr c C p p1 cap c1 ∧ Ext w wr ∧ W2.heap.size ≤ wr.heap.size ∧ Hid (PB C) ∧ Hid (passP C day = passP c day)) (fun _ wr => rkOf wr b)
  case atStart => exact ⟨c, p, cap, hB, hC, .inl ⟨rfl, rfl, rfl⟩, hx, Nat.le_refl _, HP, rfl⟩
  case round =>
    obtain ⟨C, p1, c1, hB, hC, hk, hx2, hsz2, HPC, HF⟩ := hrel
    have hs2 := hk.sl hs hx2
    have HK := Lib.hid hk
    clear hk
    have hbW2 : b < wr.heap.size := lt_of hB
    have hRK := Lib.hid (rk_row hB)
    go_wp2_with (refine wpList_load_row rfl 39 _ rfl _ rfl 39 _ _ _ hB Tryd.underlying39 rfl (by kernel_rfl) ?_)
    refine (over_c C p1 c1 _).mono ?_
    rintro e wA ⟨he, hxA⟩
    replace hB := heap_ext hB hxA
    replace hC := heap_ext hC hxA
    replace hx2 := hx2.trans hxA
    replace hs2 := hs2.ext hxA
    replace hsz2 := Nat.le_trans hsz2 hxA.size
    replace HK := Lib.hid (HK.out.ext hxA)
    clear hbW2
    obtain ⟨k0, k1, k2, k3, k4, k5, k6, k7, k8, k9⟩ := cells10 hB
    have hl := lt_of hB
    clear k0 k2 k3 k4 k5 k7 k8 k9
    by_cases h4 : 4 ≤ C.st
    · rw [decide_eq_true h4] at he
      subst he
      have HST : Hid (4 ≤ C.st ∨ day ≤ C.due) := .inl h4
      have HE : Hid (passP c day = C) := by unfold Hid; rw [← HF.out, pass_stop HST.out]
      go_wp2_with (first
        | (refine wpList_load_row rfl 39 _ rfl _ rfl 39 _ _ _ hB Tryd.underlying39 rfl (by kernel_rfl) ?_)
        | (refine wpList_store_row rfl 39 _ _ rfl _ _ rfl rfl 39 _ hC (by kernel_rfl) (by rfl) (by simp [Value.oneCell']) ?_))
      refine bodyPost_ret (results_cell_row Tryd.results37 _ _ b2 39 _ (0, 0) _ rfl (setRow_heap _ _ _ _ _ _ hC) Tryd.underlying39 rfl (by kernel_rfl)) rfl ?_
      rw [HE.out]
      exact ⟨p1, c1, rfl, (HK.out.rowPast hbV _).mono hsz, hx2.setRow hB2 _⟩
    · rw [decide_eq_false h4] at he
      subst he
      by_cases hdd : C.due < day
      · have hde : decide (C.due < day) = true := by simpa using hdd
        have HNS : Hid (¬ (4 ≤ C.st ∨ day ≤ C.due)) := by unfold Hid; omega
        have hpd := HPC.out.d
        have hpy := HPC.out.y
        have hph := HPC.out.h
        by_cases h3 : C.st = 3
        · have h3b : (C.st == 3) = true := by simp [h3]
          obtain ⟨D, HC2⟩ : ∃ D, Hid (upholdP C (C.due + 1) = D) := ⟨_, rfl⟩
          have HP1 : Hid (pass1 C day = D) := by unfold Hid pass1; rw [if_neg HNS.out, if_pos h3]; exact HC2.out
          have HDS : Hid (D.st = 4 ∨ (D.st = 2 ∧ C.st = 3)) := by
            unfold Hid; rw [← HC2.out]
            rcases upholdP_st C (C.due + 1) with h | h
            · exact .inl h
            · exact .inr ⟨h, h3⟩
          clear h3
          go_wp2_with (refine wpList_load_row rfl 39 _ rfl _ rfl 39 _ _ _ hB Tryd.underlying39 rfl (by kernel_rfl) ?_)
          refine (uphold_c C (C.due + 1) p1 c1 _ hs2 hph (by omega) hpy).mono ?_
          intro e wN hr
          rw [HC2.out] at hr
          obtain ⟨p3, c3, rfl, hv3, hN⟩ := hr
          replace hv3 := Owns.mono hv3 hsz2
          replace hC := heap_ext hC hN
          replace hB := heap_ext hB hN
          replace hx2 := hx2.trans hN
          replace hsz2 := Nat.le_trans hsz2 hN.size
          have hB3 := setRow_heap wN b _ #[.bool D.el, .int .u8 D.st, .int .i64 D.op, .int .i64 D.dy, .int .i64 D.ch, .int .i64 D.lv, .int .i64 D.due, .bool D.hd, .int .i64 D.sn, .slice p3 D.held.length c3] _ _ hB
          have hC3 := (setRow_other wN b b2 #[.bool D.el, .int .u8 D.st, .int .i64 D.op, .int .i64 D.dy, .int .i64 D.ch, .int .i64 D.lv, .int .i64 D.due, .bool D.hd, .int .i64 D.sn, .slice p3 D.held.length c3] (Ne.symm hBB)).trans hC
          have hv4 := hv3.rowPast hbW #[.bool D.el, .int .u8 D.st, .int .i64 D.op, .int .i64 D.dy, .int .i64 D.ch, .int .i64 D.lv, .int .i64 D.due, .bool D.hd, .int .i64 D.sn, .slice p3 D.held.length c3]
          have hx3 := hx2.setRow (Nat.le_of_eq hb.out) #[.bool D.el, .int .u8 D.st, .int .i64 D.op, .int .i64 D.dy, .int .i64 D.ch, .int .i64 D.lv, .int .i64 D.due, .bool D.hd, .int .i64 D.sn, .slice p3 D.held.length c3]
          have hz3 : (wN.setRow b #[.bool D.el, .int .u8 D.st, .int .i64 D.op, .int .i64 D.dy, .int .i64 D.ch, .int .i64 D.lv, .int .i64 D.due, .bool D.hd, .int .i64 D.sn, .slice p3 D.held.length c3]).heap.size = wN.heap.size := by simp [World.setRow]
          go_wp2_with (refine wpList_store_row rfl 39 _ _ rfl _ _ rfl rfl 39 _ hB (by kernel_rfl) (by rfl) (by simp [Value.oneCell']) ?_; generalize wN.setRow b #[.bool D.el, .int .u8 D.st, .int .i64 D.op, .int .i64 D.dy, .int .i64 D.ch, .int .i64 D.lv, .int .i64 D.due, .bool D.hd, .int .i64 D.sn, .slice p3 D.held.length c3] = W4 at hB3 hC3 hv4 hx3 hz3 ⊢)
          go_roundw
          case rel =>
            repeat apply Exists.intro
            exact ⟨⟨D, p3, c3, hB3, hC3, .inr hv4, hx3, by omega, by (unfold Hid; rw [← HC2.out]; exact HPC.out.uphold (by omega)), by (unfold Hid; rw [← HF.out, ← pass_step (fun h => HNS.out h), HP1.out])⟩, rfl⟩
          case measure =>
            have h4 := HNS.out
            rw [hRK.out, rk_row hB3]
            rcases HDS.out with h | ⟨h, h3⟩
            · rw [if_pos (by omega), if_neg (by omega : ¬ 4 ≤ C.st)]; split <;> omega
            · rw [if_neg (by omega), if_neg (by omega), if_neg (by omega : ¬ 4 ≤ C.st), if_pos h3]; omega
        · have h3b : (C.st == 3) = false := by simp [h3]
          obtain ⟨D, HC2⟩ : ∃ D, Hid (endP C 4 (C.due + 1) = D) := ⟨_, rfl⟩
          have HP1 : Hid (pass1 C day = D) := by unfold Hid pass1; rw [if_neg HNS.out, if_neg h3]; exact HC2.out
          have HDS : Hid (D.st = 4 ∨ (D.st = 2 ∧ C.st = 3)) := .inl (by rw [← HC2.out]; rfl)
          clear h3
          go_wp2_with (refine wpList_load_row rfl 39 _ rfl _ rfl 39 _ _ _ hB Tryd.underlying39 rfl (by kernel_rfl) ?_)
          refine (end_c C 4 (C.due + 1) p1 c1 _ hs2 hph).mono ?_
          intro e wN hr
          rw [HC2.out] at hr
          obtain ⟨p3, c3, rfl, hv3, hN⟩ := hr
          replace hv3 := Owns.mono hv3 hsz2
          replace hC := heap_ext hC hN
          replace hB := heap_ext hB hN
          replace hx2 := hx2.trans hN
          replace hsz2 := Nat.le_trans hsz2 hN.size
          have hB3 := setRow_heap wN b _ #[.bool D.el, .int .u8 D.st, .int .i64 D.op, .int .i64 D.dy, .int .i64 D.ch, .int .i64 D.lv, .int .i64 D.due, .bool D.hd, .int .i64 D.sn, .slice p3 D.held.length c3] _ _ hB
          have hC3 := (setRow_other wN b b2 #[.bool D.el, .int .u8 D.st, .int .i64 D.op, .int .i64 D.dy, .int .i64 D.ch, .int .i64 D.lv, .int .i64 D.due, .bool D.hd, .int .i64 D.sn, .slice p3 D.held.length c3] (Ne.symm hBB)).trans hC
          have hv4 := hv3.rowPast hbW #[.bool D.el, .int .u8 D.st, .int .i64 D.op, .int .i64 D.dy, .int .i64 D.ch, .int .i64 D.lv, .int .i64 D.due, .bool D.hd, .int .i64 D.sn, .slice p3 D.held.length c3]
          have hx3 := hx2.setRow (Nat.le_of_eq hb.out) #[.bool D.el, .int .u8 D.st, .int .i64 D.op, .int .i64 D.dy, .int .i64 D.ch, .int .i64 D.lv, .int .i64 D.due, .bool D.hd, .int .i64 D.sn, .slice p3 D.held.length c3]
          have hz3 : (wN.setRow b #[.bool D.el, .int .u8 D.st, .int .i64 D.op, .int .i64 D.dy, .int .i64 D.ch, .int .i64 D.lv, .int .i64 D.due, .bool D.hd, .int .i64 D.sn, .slice p3 D.held.length c3]).heap.size = wN.heap.size := by simp [World.setRow]
          go_wp2_with (refine wpList_store_row rfl 39 _ _ rfl _ _ rfl rfl 39 _ hB (by kernel_rfl) (by rfl) (by simp [Value.oneCell']) ?_; generalize wN.setRow b #[.bool D.el, .int .u8 D.st, .int .i64 D.op, .int .i64 D.dy, .int .i64 D.ch, .int .i64 D.lv, .int .i64 D.due, .bool D.hd, .int .i64 D.sn, .slice p3 D.held.length c3] = W4 at hB3 hC3 hv4 hx3 hz3 ⊢)
          go_roundw
          case rel =>
            repeat apply Exists.intro
            exact ⟨⟨D, p3, c3, hB3, hC3, .inr hv4, hx3, by omega, by (unfold Hid; rw [← HC2.out]; exact HPC.out.fin (by omega)), by (unfold Hid; rw [← HF.out, ← pass_step (fun h => HNS.out h), HP1.out])⟩, rfl⟩
          case measure =>
            have h4 := HNS.out
            rw [hRK.out, rk_row hB3]
            rcases HDS.out with h | ⟨h, h3⟩
            · rw [if_pos (by omega), if_neg (by omega : ¬ 4 ≤ C.st)]; split <;> omega
            · rw [if_neg (by omega), if_neg (by omega), if_neg (by omega : ¬ 4 ≤ C.st), if_pos h3]; omega
      · have hde : decide (C.due < day) = false := by simpa using hdd
        have HST : Hid (4 ≤ C.st ∨ day ≤ C.due) := .inr (by omega)
        have HE : Hid (passP c day = C) := by unfold Hid; rw [← HF.out, pass_stop HST.out]
        go_wp2_with (first
          | (refine wpList_load_row rfl 39 _ rfl _ rfl 39 _ _ _ hB Tryd.underlying39 rfl (by kernel_rfl) ?_)
          | (refine wpList_store_row rfl 39 _ _ rfl _ _ rfl rfl 39 _ hC (by kernel_rfl) (by rfl) (by simp [Value.oneCell']) ?_))
        refine bodyPost_ret (results_cell_row Tryd.results37 _ _ b2 39 _ (0, 0) _ rfl (setRow_heap _ _ _ _ _ _ hC) Tryd.underlying39 rfl (by kernel_rfl)) rfl ?_
        rw [HE.out]
        exact ⟨p1, c1, rfl, (HK.out.rowPast hbV _).mono hsz, hx2.setRow hB2 _⟩
end Go.Proofs.YtalconpcpegmlaaDoor
