import Derived.Test.YtbjhehmglahmpaaSpanWf
import Derived.Test.YtbjhehmglahmpaaSpanAw
import Derived.Test.YtbjhehmglahmpaaSpanGapW
import Derived.Test.YtbjhehmglahmpaaLibQuietTail
/- The law SpanWrong, walked: it returns true; the slice of 16-bit numbers is read. -/
namespace Go.Proofs.Ytbjhehmglahmpaa
open Go.RowKit

theorem idx6_0 (x0 x1 y0 y1 z0 z1 u0 u1 v0 v1 r0 r1 : Int) (w : World) : (Instr.index 81 (.agg #[.int .i64 x0, .int .i64 x1, .int .i64 y0, .int .i64 y1, .int .i64 z0, .int .i64 z1, .int .i64 u0, .int .i64 u1, .int .i64 v0, .int .i64 v1, .int .i64 r0, .int .i64 r1]) (.int .u8 0)).run Try.prog w = .ok (.agg #[.int .i64 x0, .int .i64 x1]) w := by
  have h : Try.prog.underlying 81 = some (.array 6 65) := by kernel_rfl
  simp [Instr.index, asIntOf, run_underlying h]
  go_simp
theorem idx6_1 (x0 x1 y0 y1 z0 z1 u0 u1 v0 v1 r0 r1 : Int) (w : World) : (Instr.index 81 (.agg #[.int .i64 x0, .int .i64 x1, .int .i64 y0, .int .i64 y1, .int .i64 z0, .int .i64 z1, .int .i64 u0, .int .i64 u1, .int .i64 v0, .int .i64 v1, .int .i64 r0, .int .i64 r1]) (.int .u8 1)).run Try.prog w = .ok (.agg #[.int .i64 y0, .int .i64 y1]) w := by
  have h : Try.prog.underlying 81 = some (.array 6 65) := by kernel_rfl
  simp [Instr.index, asIntOf, run_underlying h]
  go_simp
theorem idx6_2 (x0 x1 y0 y1 z0 z1 u0 u1 v0 v1 r0 r1 : Int) (w : World) : (Instr.index 81 (.agg #[.int .i64 x0, .int .i64 x1, .int .i64 y0, .int .i64 y1, .int .i64 z0, .int .i64 z1, .int .i64 u0, .int .i64 u1, .int .i64 v0, .int .i64 v1, .int .i64 r0, .int .i64 r1]) (.int .u8 2)).run Try.prog w = .ok (.agg #[.int .i64 z0, .int .i64 z1]) w := by
  have h : Try.prog.underlying 81 = some (.array 6 65) := by kernel_rfl
  simp [Instr.index, asIntOf, run_underlying h]
  go_simp
theorem idx6_3 (x0 x1 y0 y1 z0 z1 u0 u1 v0 v1 r0 r1 : Int) (w : World) : (Instr.index 81 (.agg #[.int .i64 x0, .int .i64 x1, .int .i64 y0, .int .i64 y1, .int .i64 z0, .int .i64 z1, .int .i64 u0, .int .i64 u1, .int .i64 v0, .int .i64 v1, .int .i64 r0, .int .i64 r1]) (.int .u8 3)).run Try.prog w = .ok (.agg #[.int .i64 u0, .int .i64 u1]) w := by
  have h : Try.prog.underlying 81 = some (.array 6 65) := by kernel_rfl
  simp [Instr.index, asIntOf, run_underlying h]
  go_simp
theorem idx6_4 (x0 x1 y0 y1 z0 z1 u0 u1 v0 v1 r0 r1 : Int) (w : World) : (Instr.index 81 (.agg #[.int .i64 x0, .int .i64 x1, .int .i64 y0, .int .i64 y1, .int .i64 z0, .int .i64 z1, .int .i64 u0, .int .i64 u1, .int .i64 v0, .int .i64 v1, .int .i64 r0, .int .i64 r1]) (.int .u8 4)).run Try.prog w = .ok (.agg #[.int .i64 v0, .int .i64 v1]) w := by
  have h : Try.prog.underlying 81 = some (.array 6 65) := by kernel_rfl
  simp [Instr.index, asIntOf, run_underlying h]
  go_simp
theorem idx6_5 (x0 x1 y0 y1 z0 z1 u0 u1 v0 v1 r0 r1 : Int) (w : World) : (Instr.index 81 (.agg #[.int .i64 x0, .int .i64 x1, .int .i64 y0, .int .i64 y1, .int .i64 z0, .int .i64 z1, .int .i64 u0, .int .i64 u1, .int .i64 v0, .int .i64 v1, .int .i64 r0, .int .i64 r1]) (.int .u8 5)).run Try.prog w = .ok (.agg #[.int .i64 r0, .int .i64 r1]) w := by
  have h : Try.prog.underlying 81 = some (.array 6 65) := by kernel_rfl
  simp [Instr.index, asIntOf, run_underlying h]
  go_simp
attribute [local go_sem] cell?_gr
set_option maxHeartbeats 16000000 in
set_option maxRecDepth 100000 in
theorem spanWrong_any (l : List Int) (way : Int) (p : Option Addr) (c : Nat) (w : World) (hl : Sl 1 encU w p l) (hm : l.length ≤ 9223372036854775807) (hu : ∀ x ∈ l, 0 ≤ x ∧ x ≤ 65535) (hway0 : 0 ≤ way) :
    Calls Try.prog 12 #[.slice p l.length c, .int .u8 way] w fun e w' => e = .returned (.bool true) ∧ Ext w w' := by
  go_enter Try.func12, Try.ntmps12
  go_wp2_with fail
  refine (awake04 _).mono ?_
  rintro e wN ⟨rfl, hx⟩
  go_wp2_with fail
  refine (built_any l p c _ (hl.ext hx) hm hu).mono ?_
  rintro e wN ⟨pa, ca, a, rfl, ha, hoka, h60a, hN⟩
  try replace ha := ha.ext hN
  try replace hb := hb.ext hN
  try replace h6 := heap_ext h6 hN
  replace hx := hx.trans hN
  clear hN
  clear hl hu hm
  have la : a.length ≤ 1000000 := by omega
  rcases nil_or_snoc a with h | ⟨pre, ⟨f, t⟩, h⟩
  · have z1 : (a.length : Int) = 0 := by rw [h]; rfl
    clear h
    go_wp2_with fail
    go_ret
    exact ⟨rfl, hx⟩
  · obtain ⟨n, hna⟩ : ∃ n, a.length = n + 1 := ⟨pre.length, by rw [h]; simp⟩
    have hn : n < a.length := by omega
    have han : a[n] = (f, t) := by
      subst h
      have : n = pre.length := by simpa using hna.symm
      subst this
      simp
    obtain ⟨ba, oa, rfl, hba, c0, c1⟩ := ha.cells2 n hn
    rw [han] at c0 c1
    dsimp only at c0 c1
    have hft := Ok.bounds2 hoka (f, t) (by rw [← han]; exact List.getElem_mem hn)
    dsimp only at hft
    have VA := Lib.hid hoka.valid
    have HPQ : Hid (a = pre ++ [(f, t)]) := h
    have hn60 : (n : Int) ≤ 60 := by omega
    have hw1 := IntWalk.i64_in (n : Int) (by omega)
    have z1 : ¬ ((n : Int) + 1) = 0 := by omega
    have HNA := Lib.hid hna
    clear hna hn han h hoka
    simp only [HNA.out]
    by_cases ht : t > 65533
    · go_wp2_with fail
      go_ret
      exact ⟨rfl, hx⟩
    · have hE : Owns (wN.alloc (.cells #[.int .i64 f, .int .i64 t] 65)).heap.size 65 2 enc2 ((wN.alloc (.cells #[.int .i64 f, .int .i64 t] 65)).alloc (.cells #[] 65)) (.slice (some ⟨wN.heap.size + 1, 0, none⟩) 0 0) ([] : List Sp) := by
        have := Owns.empty (α := Sp) (k := 2) (enc := enc2) (e := 65) (w := wN.alloc (.cells #[.int .i64 f, .int .i64 t] 65)) (B := (wN.alloc (.cells #[.int .i64 f, .int .i64 t] 65)).heap.size) (Nat.le_refl _)
        have e : (wN.alloc (.cells #[.int .i64 f, .int .i64 t] 65)).heap.size = wN.heap.size + 1 := by simp
        rw [e] at this ⊢
        exact this
      go_wp2_with (at_builtin; rw [← HNA.out]; refine wpList_append_many (w0 := (wN.alloc (.cells #[.int .i64 f, .int .i64 t] 65))) rfl _ _ 52 65 16 _ enc2_len enc2_one (by decide) rfl Try.underlying52 infoSp rfl [] a hE ((Ext.refl _).alloc _) _ ca rfl rfl ((ha.ext ((Ext.refl _).alloc _)).ext ((Ext.refl _).alloc _)) (by simp; omega) (by simp; omega) ?_; intro v3 w3 hown3 hx3 _)
      have h6 : w3.heap[wN.heap.size]? = some (.cells #[.int .i64 f, .int .i64 t] 65 (0, 0)) :=
        heap_ext (heap_new wN _) hx3
      rw [List.nil_append] at hown3
      obtain ⟨p3, c3, rfl, _⟩ := hown3.read enc2_len
      have HOWN := Lib.hid hown3
      have HX3 := Lib.hid hx3
      have k0 := cell_of (j := 0) h6
      have k1 := cell_of (j := 1) h6
      simp only [List.getElem?_toArray, List.getElem?_cons_zero, List.getElem?_cons_succ] at k0 k1
      have kl := lt_of h6
      have H6 := Lib.hid h6
      have HT : Hid (∀ f t x, Calls Try.prog 43 #[.int .i64 f, .int .i64 t] (gr w3 x) fun e w'' => e = .returned (.agg #[.int .i64 f, .int .i64 t]) ∧ ∃ y, w'' = gr w3 y) := fun f t x => quiet_gr (to_any f t _)
      have HX := Lib.hid hx
      have HA := Lib.hid ha
      clear hown3 hx3 h6 hE hx ha c0 c1 hba
      go_wp2_with fail
      have hq : way % 6 = 0 ∨ way % 6 = 1 ∨ way % 6 = 2 ∨ way % 6 = 3 ∨ way % 6 = 4 ∨ way % 6 = 5 := by omega
      rcases hq with hk | hk | hk | hk | hk | hk
      · skip
        have hwr0 := IntWalk.i64_in (f) (by omega)
        have hwr1 := IntWalk.i64_in (t + 1) (by omega)
        have hwr2 := IntWalk.i64_in (t - 1) (by omega)
        have hmod : way % 6 = 0 := hk
        have htm : way.tmod 6 = 0 := by rw [Int.tmod_eq_emod_of_nonneg hway0]; exact hk
        have HVB : Hid (validB (-1) (a ++ [(t + 1, t + 1)]) = false) := by
          unfold Hid
          cases hv : validB (-1) (a ++ [(t + 1, t + 1)]) with
          | false => rfl
          | true =>
            have ho := (validB_iff _ _).1 hv
            rw [HPQ.out] at ho
            have h2 := (Ok.snoc.1 ho).2
            dsimp only at h2
            omega
        clear hk
        refine wp_region_move_tail (v := .slice p3 a.length c3) 35 (by kernel_rfl) (by kernel_rfl) (.inl ⟨by rfl, by intro w; go_simp⟩) (fun _ _ _ h => h) ?_
        simp only [List.take_succ_cons, List.take_zero, List.drop_succ_cons, List.drop_zero]
        repeat (go_big_quiet_step (first | (with_reducible exact HT.out _ _ _)))
        refine wpQuiet_step fun K hK => ?_
        rw [if_pos (by rfl)]
        refine ⟨.agg #[.int .i64 (t + 1), .int .i64 (t + 1)], ?_, hK _ (wpQuiet_nil ?_)⟩
        · intro w2 _
          unfold Oper.quietAt
          go_simp
          rw [idx6_0]
          exact ⟨rfl, rfl⟩
        intro w4 hx4
        have hown4 := HOWN.out.ext hx4
        have hxa := HX3.out.trans hx4
        go_wp2_with (at_builtin; refine wpList_append_one (w0 := (wN.alloc (.cells #[.int .i64 f, .int .i64 t] 65))) rfl _ _ 52 65 16 _ enc2_len enc2_one (by decide) rfl Try.underlying52 infoSp rfl a (t + 1, t + 1) hown4 hxa _ 1 rfl rfl (by simp) (by omega) (by omega) ?_; intro v5 w5 hown5 hx5 _)
        have h6 := heap_ext (heap_new wN _) hx5
        obtain ⟨pb, cb, rfl, hb⟩ := hown5.read enc2_len
        generalize hbd : a ++ [(t + 1, t + 1)] = bad at hb HVB ⊢
        have lb : bad.length ≤ 1000000 := by rw [← hbd]; simp; omega
        have hx := HX.out.trans (((Ext.refl wN).alloc _).trans hx5)
        have ha := HA.out.ext (((Ext.refl wN).alloc _).trans hx5)
        have D1 : Hid (∀ keep, combV keep bad a = [] ∧ combV keep a bad = [] ∧ combV keep bad bad = []) := fun keep => by
          unfold combV; rw [HVB.out, Bool.and_false, Bool.false_and, Bool.false_and]; exact ⟨rfl, rfl, rfl⟩
        have D2 : Hid (combE bad a = 2 ∧ combE a bad = 2 ∧ combE bad bad = 2) := by
          unfold Hid combE; rw [HVB.out, Bool.and_false, Bool.false_and, Bool.false_and]; exact ⟨rfl, rfl, rfl⟩
        have nv : ¬ validB (-1) bad = true := by rw [HVB.out]; exact Bool.noConfusion
        have D3 : Hid (bridgeV bad 3 = [] ∧ bridgeE bad 3 = 2 ∧ nthV bad 0 = (0, false) ∧ beforeV bad 65536 = 0 ∧ beforeV bad t = 0) := by
          refine ⟨?_, ?_, ?_, ?_, ?_⟩
          · unfold bridgeV; rw [if_neg fun h => nv h.1]
          · unfold bridgeE; rw [if_neg fun h => nv h.1]
          · unfold nthV; rw [if_neg fun h => nv h.1]
          · unfold beforeV; rw [if_neg nv]
          · unfold beforeV; rw [if_neg nv]
        have D4 : Hid ((validB (-1) bad && memB f bad) = false ∧ withinB bad a = false ∧ withinB a bad = false) := by
          unfold Hid withinB; rw [HVB.out, Bool.and_false, Bool.false_and, Bool.false_and]; exact ⟨rfl, rfl, rfl⟩
        clear hown4 hxa hown5 hx5 hbd hx4 HOWN HX3 k0 k1 kl H6 HT nv HPQ hwr0 hwr1 hwr2 hmod htm
        refine (union_r bad a [] 2 pb (some ⟨ba, oa, none⟩) _ _ _ (D1.out _).1 D2.out.1 hb ha lb la).mono ?_
        rintro e wZ ⟨p6, c6, rfl, _, hN⟩
        try replace ha := ha.ext hN
        try replace hb := hb.ext hN
        try replace h6 := heap_ext h6 hN
        replace hx := hx.trans hN
        clear hN
        go_wp2_with fail
        refine (meet_r a bad [] 2 (some ⟨ba, oa, none⟩) pb _ _ _ (D1.out _).2.1 D2.out.2.1 ha hb la lb).mono ?_
        rintro e wZ ⟨p7, c7, rfl, _, hN⟩
        try replace ha := ha.ext hN
        try replace hb := hb.ext hN
        try replace h6 := heap_ext h6 hN
        replace hx := hx.trans hN
        clear hN
        go_wp2_with fail
        refine (minus_r bad bad [] 2 pb pb _ _ _ (D1.out _).2.2 D2.out.2.2 hb hb lb lb).mono ?_
        rintro e wZ ⟨p8, c8, rfl, _, hN⟩
        try replace ha := ha.ext hN
        try replace hb := hb.ext hN
        try replace h6 := heap_ext h6 hN
        replace hx := hx.trans hN
        clear hN
        go_wp2_with fail
        refine (bridge_r bad [] 2 pb _ _ 3 D3.out.1 D3.out.2.1 hb lb).mono ?_
        rintro e wZ ⟨p9, c9, rfl, _, hN⟩
        try replace ha := ha.ext hN
        try replace hb := hb.ext hN
        try replace h6 := heap_ext h6 hN
        replace hx := hx.trans hN
        clear hN
        go_wp2_with fail
        refine (nth_r bad pb _ _ 0 0 false D3.out.2.2.1 (by omega) hb lb).mono ?_
        rintro e wN ⟨rfl, hN⟩
        try replace ha := ha.ext hN
        try replace hb := hb.ext hN
        try replace h6 := heap_ext h6 hN
        replace hx := hx.trans hN
        clear hN
        go_wp2_with fail
        refine (valid_r bad pb _ _ false HVB.out hb lb).mono ?_
        rintro e wN ⟨rfl, hN⟩
        try replace ha := ha.ext hN
        try replace hb := hb.ext hN
        try replace h6 := heap_ext h6 hN
        replace hx := hx.trans hN
        clear hN
        go_wp2_with fail
        refine (valid_r a (some ⟨ba, oa, none⟩) _ _ true VA.out ha la).mono ?_
        rintro e wN ⟨rfl, hN⟩
        try replace ha := ha.ext hN
        try replace hb := hb.ext hN
        try replace h6 := heap_ext h6 hN
        replace hx := hx.trans hN
        clear hN
        have k0 := cell_of (j := 0) h6
        simp only [List.getElem?_toArray, List.getElem?_cons_zero] at k0
        go_wp2_with fail
        refine (has_r bad pb _ _ f false D4.out.1 hb lb).mono ?_
        rintro e wN ⟨rfl, hN⟩
        try replace ha := ha.ext hN
        try replace hb := hb.ext hN
        try replace h6 := heap_ext h6 hN
        replace hx := hx.trans hN
        clear hN
        go_wp2_with fail
        refine (within_r bad a pb (some ⟨ba, oa, none⟩) _ _ _ false D4.out.2.1 hb ha lb la).mono ?_
        rintro e wN ⟨rfl, hN⟩
        try replace ha := ha.ext hN
        try replace hb := hb.ext hN
        try replace h6 := heap_ext h6 hN
        replace hx := hx.trans hN
        clear hN
        go_wp2_with fail
        refine (within_r a bad (some ⟨ba, oa, none⟩) pb _ _ _ false D4.out.2.2 ha hb la lb).mono ?_
        rintro e wN ⟨rfl, hN⟩
        try replace ha := ha.ext hN
        try replace hb := hb.ext hN
        try replace h6 := heap_ext h6 hN
        replace hx := hx.trans hN
        clear hN
        go_wp2_with fail
        refine (days_r bad pb _ _ 0 D3.out.2.2.2.1 hb lb).mono ?_
        rintro e wN ⟨rfl, hN⟩
        try replace ha := ha.ext hN
        try replace hb := hb.ext hN
        try replace h6 := heap_ext h6 hN
        replace hx := hx.trans hN
        clear hN
        have k1 := cell_of (j := 1) h6
        simp only [List.getElem?_toArray, List.getElem?_cons_zero, List.getElem?_cons_succ] at k1
        go_wp2_with fail
        refine (before_r bad pb _ _ 0 t D3.out.2.2.2.2 hb lb).mono ?_
        rintro e wN ⟨rfl, hN⟩
        try replace ha := ha.ext hN
        try replace hb := hb.ext hN
        try replace h6 := heap_ext h6 hN
        replace hx := hx.trans hN
        clear hN
        go_wp2_with fail
        go_ret
        exact ⟨rfl, hx⟩
      · skip
        have hwr0 := IntWalk.i64_in (f) (by omega)
        have hwr1 := IntWalk.i64_in (t + 1) (by omega)
        have hwr2 := IntWalk.i64_in (t - 1) (by omega)
        have hmod : way % 6 = 1 := hk
        have htm : way.tmod 6 = 1 := by rw [Int.tmod_eq_emod_of_nonneg hway0]; exact hk
        have HVB : Hid (validB (-1) (a ++ [(t, t + 1)]) = false) := by
          unfold Hid
          cases hv : validB (-1) (a ++ [(t, t + 1)]) with
          | false => rfl
          | true =>
            have ho := (validB_iff _ _).1 hv
            rw [HPQ.out] at ho
            have h2 := (Ok.snoc.1 ho).2
            dsimp only at h2
            omega
        clear hk
        refine wp_region_move_tail (v := .slice p3 a.length c3) 35 (by kernel_rfl) (by kernel_rfl) (.inl ⟨by rfl, by intro w; go_simp⟩) (fun _ _ _ h => h) ?_
        simp only [List.take_succ_cons, List.take_zero, List.drop_succ_cons, List.drop_zero]
        repeat (go_big_quiet_step (first | (with_reducible exact HT.out _ _ _)))
        refine wpQuiet_step fun K hK => ?_
        rw [if_pos (by rfl)]
        refine ⟨.agg #[.int .i64 (t), .int .i64 (t + 1)], ?_, hK _ (wpQuiet_nil ?_)⟩
        · intro w2 _
          unfold Oper.quietAt
          go_simp
          rw [idx6_1]
          exact ⟨rfl, rfl⟩
        intro w4 hx4
        have hown4 := HOWN.out.ext hx4
        have hxa := HX3.out.trans hx4
        go_wp2_with (at_builtin; refine wpList_append_one (w0 := (wN.alloc (.cells #[.int .i64 f, .int .i64 t] 65))) rfl _ _ 52 65 16 _ enc2_len enc2_one (by decide) rfl Try.underlying52 infoSp rfl a (t, t + 1) hown4 hxa _ 1 rfl rfl (by simp) (by omega) (by omega) ?_; intro v5 w5 hown5 hx5 _)
        have h6 := heap_ext (heap_new wN _) hx5
        obtain ⟨pb, cb, rfl, hb⟩ := hown5.read enc2_len
        generalize hbd : a ++ [(t, t + 1)] = bad at hb HVB ⊢
        have lb : bad.length ≤ 1000000 := by rw [← hbd]; simp; omega
        have hx := HX.out.trans (((Ext.refl wN).alloc _).trans hx5)
        have ha := HA.out.ext (((Ext.refl wN).alloc _).trans hx5)
        have D1 : Hid (∀ keep, combV keep bad a = [] ∧ combV keep a bad = [] ∧ combV keep bad bad = []) := fun keep => by
          unfold combV; rw [HVB.out, Bool.and_false, Bool.false_and, Bool.false_and]; exact ⟨rfl, rfl, rfl⟩
        have D2 : Hid (combE bad a = 2 ∧ combE a bad = 2 ∧ combE bad bad = 2) := by
          unfold Hid combE; rw [HVB.out, Bool.and_false, Bool.false_and, Bool.false_and]; exact ⟨rfl, rfl, rfl⟩
        have nv : ¬ validB (-1) bad = true := by rw [HVB.out]; exact Bool.noConfusion
        have D3 : Hid (bridgeV bad 3 = [] ∧ bridgeE bad 3 = 2 ∧ nthV bad 0 = (0, false) ∧ beforeV bad 65536 = 0 ∧ beforeV bad t = 0) := by
          refine ⟨?_, ?_, ?_, ?_, ?_⟩
          · unfold bridgeV; rw [if_neg fun h => nv h.1]
          · unfold bridgeE; rw [if_neg fun h => nv h.1]
          · unfold nthV; rw [if_neg fun h => nv h.1]
          · unfold beforeV; rw [if_neg nv]
          · unfold beforeV; rw [if_neg nv]
        have D4 : Hid ((validB (-1) bad && memB f bad) = false ∧ withinB bad a = false ∧ withinB a bad = false) := by
          unfold Hid withinB; rw [HVB.out, Bool.and_false, Bool.false_and, Bool.false_and]; exact ⟨rfl, rfl, rfl⟩
        clear hown4 hxa hown5 hx5 hbd hx4 HOWN HX3 k0 k1 kl H6 HT nv HPQ hwr0 hwr1 hwr2 hmod htm
        refine (union_r bad a [] 2 pb (some ⟨ba, oa, none⟩) _ _ _ (D1.out _).1 D2.out.1 hb ha lb la).mono ?_
        rintro e wZ ⟨p6, c6, rfl, _, hN⟩
        try replace ha := ha.ext hN
        try replace hb := hb.ext hN
        try replace h6 := heap_ext h6 hN
        replace hx := hx.trans hN
        clear hN
        go_wp2_with fail
        refine (meet_r a bad [] 2 (some ⟨ba, oa, none⟩) pb _ _ _ (D1.out _).2.1 D2.out.2.1 ha hb la lb).mono ?_
        rintro e wZ ⟨p7, c7, rfl, _, hN⟩
        try replace ha := ha.ext hN
        try replace hb := hb.ext hN
        try replace h6 := heap_ext h6 hN
        replace hx := hx.trans hN
        clear hN
        go_wp2_with fail
        refine (minus_r bad bad [] 2 pb pb _ _ _ (D1.out _).2.2 D2.out.2.2 hb hb lb lb).mono ?_
        rintro e wZ ⟨p8, c8, rfl, _, hN⟩
        try replace ha := ha.ext hN
        try replace hb := hb.ext hN
        try replace h6 := heap_ext h6 hN
        replace hx := hx.trans hN
        clear hN
        go_wp2_with fail
        refine (bridge_r bad [] 2 pb _ _ 3 D3.out.1 D3.out.2.1 hb lb).mono ?_
        rintro e wZ ⟨p9, c9, rfl, _, hN⟩
        try replace ha := ha.ext hN
        try replace hb := hb.ext hN
        try replace h6 := heap_ext h6 hN
        replace hx := hx.trans hN
        clear hN
        go_wp2_with fail
        refine (nth_r bad pb _ _ 0 0 false D3.out.2.2.1 (by omega) hb lb).mono ?_
        rintro e wN ⟨rfl, hN⟩
        try replace ha := ha.ext hN
        try replace hb := hb.ext hN
        try replace h6 := heap_ext h6 hN
        replace hx := hx.trans hN
        clear hN
        go_wp2_with fail
        refine (valid_r bad pb _ _ false HVB.out hb lb).mono ?_
        rintro e wN ⟨rfl, hN⟩
        try replace ha := ha.ext hN
        try replace hb := hb.ext hN
        try replace h6 := heap_ext h6 hN
        replace hx := hx.trans hN
        clear hN
        go_wp2_with fail
        refine (valid_r a (some ⟨ba, oa, none⟩) _ _ true VA.out ha la).mono ?_
        rintro e wN ⟨rfl, hN⟩
        try replace ha := ha.ext hN
        try replace hb := hb.ext hN
        try replace h6 := heap_ext h6 hN
        replace hx := hx.trans hN
        clear hN
        have k0 := cell_of (j := 0) h6
        simp only [List.getElem?_toArray, List.getElem?_cons_zero] at k0
        go_wp2_with fail
        refine (has_r bad pb _ _ f false D4.out.1 hb lb).mono ?_
        rintro e wN ⟨rfl, hN⟩
        try replace ha := ha.ext hN
        try replace hb := hb.ext hN
        try replace h6 := heap_ext h6 hN
        replace hx := hx.trans hN
        clear hN
        go_wp2_with fail
        refine (within_r bad a pb (some ⟨ba, oa, none⟩) _ _ _ false D4.out.2.1 hb ha lb la).mono ?_
        rintro e wN ⟨rfl, hN⟩
        try replace ha := ha.ext hN
        try replace hb := hb.ext hN
        try replace h6 := heap_ext h6 hN
        replace hx := hx.trans hN
        clear hN
        go_wp2_with fail
        refine (within_r a bad (some ⟨ba, oa, none⟩) pb _ _ _ false D4.out.2.2 ha hb la lb).mono ?_
        rintro e wN ⟨rfl, hN⟩
        try replace ha := ha.ext hN
        try replace hb := hb.ext hN
        try replace h6 := heap_ext h6 hN
        replace hx := hx.trans hN
        clear hN
        go_wp2_with fail
        refine (days_r bad pb _ _ 0 D3.out.2.2.2.1 hb lb).mono ?_
        rintro e wN ⟨rfl, hN⟩
        try replace ha := ha.ext hN
        try replace hb := hb.ext hN
        try replace h6 := heap_ext h6 hN
        replace hx := hx.trans hN
        clear hN
        have k1 := cell_of (j := 1) h6
        simp only [List.getElem?_toArray, List.getElem?_cons_zero, List.getElem?_cons_succ] at k1
        go_wp2_with fail
        refine (before_r bad pb _ _ 0 t D3.out.2.2.2.2 hb lb).mono ?_
        rintro e wN ⟨rfl, hN⟩
        try replace ha := ha.ext hN
        try replace hb := hb.ext hN
        try replace h6 := heap_ext h6 hN
        replace hx := hx.trans hN
        clear hN
        go_wp2_with fail
        go_ret
        exact ⟨rfl, hx⟩
      · skip
        have hwr0 := IntWalk.i64_in (f) (by omega)
        have hwr1 := IntWalk.i64_in (t + 1) (by omega)
        have hwr2 := IntWalk.i64_in (t - 1) (by omega)
        have hmod : way % 6 = 2 := hk
        have htm : way.tmod 6 = 2 := by rw [Int.tmod_eq_emod_of_nonneg hway0]; exact hk
        have HVB : Hid (validB (-1) (a ++ [(t - 1, t + 1)]) = false) := by
          unfold Hid
          cases hv : validB (-1) (a ++ [(t - 1, t + 1)]) with
          | false => rfl
          | true =>
            have ho := (validB_iff _ _).1 hv
            rw [HPQ.out] at ho
            have h2 := (Ok.snoc.1 ho).2
            dsimp only at h2
            omega
        clear hk
        refine wp_region_move_tail (v := .slice p3 a.length c3) 35 (by kernel_rfl) (by kernel_rfl) (.inl ⟨by rfl, by intro w; go_simp⟩) (fun _ _ _ h => h) ?_
        simp only [List.take_succ_cons, List.take_zero, List.drop_succ_cons, List.drop_zero]
        repeat (go_big_quiet_step (first | (with_reducible exact HT.out _ _ _)))
        refine wpQuiet_step fun K hK => ?_
        rw [if_pos (by rfl)]
        refine ⟨.agg #[.int .i64 (t - 1), .int .i64 (t + 1)], ?_, hK _ (wpQuiet_nil ?_)⟩
        · intro w2 _
          unfold Oper.quietAt
          go_simp
          rw [idx6_2]
          exact ⟨rfl, rfl⟩
        intro w4 hx4
        have hown4 := HOWN.out.ext hx4
        have hxa := HX3.out.trans hx4
        go_wp2_with (at_builtin; refine wpList_append_one (w0 := (wN.alloc (.cells #[.int .i64 f, .int .i64 t] 65))) rfl _ _ 52 65 16 _ enc2_len enc2_one (by decide) rfl Try.underlying52 infoSp rfl a (t - 1, t + 1) hown4 hxa _ 1 rfl rfl (by simp) (by omega) (by omega) ?_; intro v5 w5 hown5 hx5 _)
        have h6 := heap_ext (heap_new wN _) hx5
        obtain ⟨pb, cb, rfl, hb⟩ := hown5.read enc2_len
        generalize hbd : a ++ [(t - 1, t + 1)] = bad at hb HVB ⊢
        have lb : bad.length ≤ 1000000 := by rw [← hbd]; simp; omega
        have hx := HX.out.trans (((Ext.refl wN).alloc _).trans hx5)
        have ha := HA.out.ext (((Ext.refl wN).alloc _).trans hx5)
        have D1 : Hid (∀ keep, combV keep bad a = [] ∧ combV keep a bad = [] ∧ combV keep bad bad = []) := fun keep => by
          unfold combV; rw [HVB.out, Bool.and_false, Bool.false_and, Bool.false_and]; exact ⟨rfl, rfl, rfl⟩
        have D2 : Hid (combE bad a = 2 ∧ combE a bad = 2 ∧ combE bad bad = 2) := by
          unfold Hid combE; rw [HVB.out, Bool.and_false, Bool.false_and, Bool.false_and]; exact ⟨rfl, rfl, rfl⟩
        have nv : ¬ validB (-1) bad = true := by rw [HVB.out]; exact Bool.noConfusion
        have D3 : Hid (bridgeV bad 3 = [] ∧ bridgeE bad 3 = 2 ∧ nthV bad 0 = (0, false) ∧ beforeV bad 65536 = 0 ∧ beforeV bad t = 0) := by
          refine ⟨?_, ?_, ?_, ?_, ?_⟩
          · unfold bridgeV; rw [if_neg fun h => nv h.1]
          · unfold bridgeE; rw [if_neg fun h => nv h.1]
          · unfold nthV; rw [if_neg fun h => nv h.1]
          · unfold beforeV; rw [if_neg nv]
          · unfold beforeV; rw [if_neg nv]
        have D4 : Hid ((validB (-1) bad && memB f bad) = false ∧ withinB bad a = false ∧ withinB a bad = false) := by
          unfold Hid withinB; rw [HVB.out, Bool.and_false, Bool.false_and, Bool.false_and]; exact ⟨rfl, rfl, rfl⟩
        clear hown4 hxa hown5 hx5 hbd hx4 HOWN HX3 k0 k1 kl H6 HT nv HPQ hwr0 hwr1 hwr2 hmod htm
        refine (union_r bad a [] 2 pb (some ⟨ba, oa, none⟩) _ _ _ (D1.out _).1 D2.out.1 hb ha lb la).mono ?_
        rintro e wZ ⟨p6, c6, rfl, _, hN⟩
        try replace ha := ha.ext hN
        try replace hb := hb.ext hN
        try replace h6 := heap_ext h6 hN
        replace hx := hx.trans hN
        clear hN
        go_wp2_with fail
        refine (meet_r a bad [] 2 (some ⟨ba, oa, none⟩) pb _ _ _ (D1.out _).2.1 D2.out.2.1 ha hb la lb).mono ?_
        rintro e wZ ⟨p7, c7, rfl, _, hN⟩
        try replace ha := ha.ext hN
        try replace hb := hb.ext hN
        try replace h6 := heap_ext h6 hN
        replace hx := hx.trans hN
        clear hN
        go_wp2_with fail
        refine (minus_r bad bad [] 2 pb pb _ _ _ (D1.out _).2.2 D2.out.2.2 hb hb lb lb).mono ?_
        rintro e wZ ⟨p8, c8, rfl, _, hN⟩
        try replace ha := ha.ext hN
        try replace hb := hb.ext hN
        try replace h6 := heap_ext h6 hN
        replace hx := hx.trans hN
        clear hN
        go_wp2_with fail
        refine (bridge_r bad [] 2 pb _ _ 3 D3.out.1 D3.out.2.1 hb lb).mono ?_
        rintro e wZ ⟨p9, c9, rfl, _, hN⟩
        try replace ha := ha.ext hN
        try replace hb := hb.ext hN
        try replace h6 := heap_ext h6 hN
        replace hx := hx.trans hN
        clear hN
        go_wp2_with fail
        refine (nth_r bad pb _ _ 0 0 false D3.out.2.2.1 (by omega) hb lb).mono ?_
        rintro e wN ⟨rfl, hN⟩
        try replace ha := ha.ext hN
        try replace hb := hb.ext hN
        try replace h6 := heap_ext h6 hN
        replace hx := hx.trans hN
        clear hN
        go_wp2_with fail
        refine (valid_r bad pb _ _ false HVB.out hb lb).mono ?_
        rintro e wN ⟨rfl, hN⟩
        try replace ha := ha.ext hN
        try replace hb := hb.ext hN
        try replace h6 := heap_ext h6 hN
        replace hx := hx.trans hN
        clear hN
        go_wp2_with fail
        refine (valid_r a (some ⟨ba, oa, none⟩) _ _ true VA.out ha la).mono ?_
        rintro e wN ⟨rfl, hN⟩
        try replace ha := ha.ext hN
        try replace hb := hb.ext hN
        try replace h6 := heap_ext h6 hN
        replace hx := hx.trans hN
        clear hN
        have k0 := cell_of (j := 0) h6
        simp only [List.getElem?_toArray, List.getElem?_cons_zero] at k0
        go_wp2_with fail
        refine (has_r bad pb _ _ f false D4.out.1 hb lb).mono ?_
        rintro e wN ⟨rfl, hN⟩
        try replace ha := ha.ext hN
        try replace hb := hb.ext hN
        try replace h6 := heap_ext h6 hN
        replace hx := hx.trans hN
        clear hN
        go_wp2_with fail
        refine (within_r bad a pb (some ⟨ba, oa, none⟩) _ _ _ false D4.out.2.1 hb ha lb la).mono ?_
        rintro e wN ⟨rfl, hN⟩
        try replace ha := ha.ext hN
        try replace hb := hb.ext hN
        try replace h6 := heap_ext h6 hN
        replace hx := hx.trans hN
        clear hN
        go_wp2_with fail
        refine (within_r a bad (some ⟨ba, oa, none⟩) pb _ _ _ false D4.out.2.2 ha hb la lb).mono ?_
        rintro e wN ⟨rfl, hN⟩
        try replace ha := ha.ext hN
        try replace hb := hb.ext hN
        try replace h6 := heap_ext h6 hN
        replace hx := hx.trans hN
        clear hN
        go_wp2_with fail
        refine (days_r bad pb _ _ 0 D3.out.2.2.2.1 hb lb).mono ?_
        rintro e wN ⟨rfl, hN⟩
        try replace ha := ha.ext hN
        try replace hb := hb.ext hN
        try replace h6 := heap_ext h6 hN
        replace hx := hx.trans hN
        clear hN
        have k1 := cell_of (j := 1) h6
        simp only [List.getElem?_toArray, List.getElem?_cons_zero, List.getElem?_cons_succ] at k1
        go_wp2_with fail
        refine (before_r bad pb _ _ 0 t D3.out.2.2.2.2 hb lb).mono ?_
        rintro e wN ⟨rfl, hN⟩
        try replace ha := ha.ext hN
        try replace hb := hb.ext hN
        try replace h6 := heap_ext h6 hN
        replace hx := hx.trans hN
        clear hN
        go_wp2_with fail
        go_ret
        exact ⟨rfl, hx⟩
      · skip
        have hwr0 := IntWalk.i64_in (f) (by omega)
        have hwr1 := IntWalk.i64_in (t + 1) (by omega)
        have hwr2 := IntWalk.i64_in (t - 1) (by omega)
        have hmod : way % 6 = 3 := hk
        have htm : way.tmod 6 = 3 := by rw [Int.tmod_eq_emod_of_nonneg hway0]; exact hk
        have HVB : Hid (validB (-1) (a ++ [(-1, 2)]) = false) := by
          unfold Hid
          cases hv : validB (-1) (a ++ [(-1, 2)]) with
          | false => rfl
          | true =>
            have ho := (validB_iff _ _).1 hv
            rw [HPQ.out] at ho
            have h2 := (Ok.snoc.1 ho).2
            dsimp only at h2
            omega
        clear hk
        refine wp_region_move_tail (v := .slice p3 a.length c3) 35 (by kernel_rfl) (by kernel_rfl) (.inl ⟨by rfl, by intro w; go_simp⟩) (fun _ _ _ h => h) ?_
        simp only [List.take_succ_cons, List.take_zero, List.drop_succ_cons, List.drop_zero]
        repeat (go_big_quiet_step (first | (with_reducible exact HT.out _ _ _)))
        refine wpQuiet_step fun K hK => ?_
        rw [if_pos (by rfl)]
        refine ⟨.agg #[.int .i64 (-1), .int .i64 (2)], ?_, hK _ (wpQuiet_nil ?_)⟩
        · intro w2 _
          unfold Oper.quietAt
          go_simp
          rw [idx6_3]
          exact ⟨rfl, rfl⟩
        intro w4 hx4
        have hown4 := HOWN.out.ext hx4
        have hxa := HX3.out.trans hx4
        go_wp2_with (at_builtin; refine wpList_append_one (w0 := (wN.alloc (.cells #[.int .i64 f, .int .i64 t] 65))) rfl _ _ 52 65 16 _ enc2_len enc2_one (by decide) rfl Try.underlying52 infoSp rfl a (-1, 2) hown4 hxa _ 1 rfl rfl (by simp) (by omega) (by omega) ?_; intro v5 w5 hown5 hx5 _)
        have h6 := heap_ext (heap_new wN _) hx5
        obtain ⟨pb, cb, rfl, hb⟩ := hown5.read enc2_len
        generalize hbd : a ++ [(-1, 2)] = bad at hb HVB ⊢
        have lb : bad.length ≤ 1000000 := by rw [← hbd]; simp; omega
        have hx := HX.out.trans (((Ext.refl wN).alloc _).trans hx5)
        have ha := HA.out.ext (((Ext.refl wN).alloc _).trans hx5)
        have D1 : Hid (∀ keep, combV keep bad a = [] ∧ combV keep a bad = [] ∧ combV keep bad bad = []) := fun keep => by
          unfold combV; rw [HVB.out, Bool.and_false, Bool.false_and, Bool.false_and]; exact ⟨rfl, rfl, rfl⟩
        have D2 : Hid (combE bad a = 2 ∧ combE a bad = 2 ∧ combE bad bad = 2) := by
          unfold Hid combE; rw [HVB.out, Bool.and_false, Bool.false_and, Bool.false_and]; exact ⟨rfl, rfl, rfl⟩
        have nv : ¬ validB (-1) bad = true := by rw [HVB.out]; exact Bool.noConfusion
        have D3 : Hid (bridgeV bad 3 = [] ∧ bridgeE bad 3 = 2 ∧ nthV bad 0 = (0, false) ∧ beforeV bad 65536 = 0 ∧ beforeV bad t = 0) := by
          refine ⟨?_, ?_, ?_, ?_, ?_⟩
          · unfold bridgeV; rw [if_neg fun h => nv h.1]
          · unfold bridgeE; rw [if_neg fun h => nv h.1]
          · unfold nthV; rw [if_neg fun h => nv h.1]
          · unfold beforeV; rw [if_neg nv]
          · unfold beforeV; rw [if_neg nv]
        have D4 : Hid ((validB (-1) bad && memB f bad) = false ∧ withinB bad a = false ∧ withinB a bad = false) := by
          unfold Hid withinB; rw [HVB.out, Bool.and_false, Bool.false_and, Bool.false_and]; exact ⟨rfl, rfl, rfl⟩
        clear hown4 hxa hown5 hx5 hbd hx4 HOWN HX3 k0 k1 kl H6 HT nv HPQ hwr0 hwr1 hwr2 hmod htm
        refine (union_r bad a [] 2 pb (some ⟨ba, oa, none⟩) _ _ _ (D1.out _).1 D2.out.1 hb ha lb la).mono ?_
        rintro e wZ ⟨p6, c6, rfl, _, hN⟩
        try replace ha := ha.ext hN
        try replace hb := hb.ext hN
        try replace h6 := heap_ext h6 hN
        replace hx := hx.trans hN
        clear hN
        go_wp2_with fail
        refine (meet_r a bad [] 2 (some ⟨ba, oa, none⟩) pb _ _ _ (D1.out _).2.1 D2.out.2.1 ha hb la lb).mono ?_
        rintro e wZ ⟨p7, c7, rfl, _, hN⟩
        try replace ha := ha.ext hN
        try replace hb := hb.ext hN
        try replace h6 := heap_ext h6 hN
        replace hx := hx.trans hN
        clear hN
        go_wp2_with fail
        refine (minus_r bad bad [] 2 pb pb _ _ _ (D1.out _).2.2 D2.out.2.2 hb hb lb lb).mono ?_
        rintro e wZ ⟨p8, c8, rfl, _, hN⟩
        try replace ha := ha.ext hN
        try replace hb := hb.ext hN
        try replace h6 := heap_ext h6 hN
        replace hx := hx.trans hN
        clear hN
        go_wp2_with fail
        refine (bridge_r bad [] 2 pb _ _ 3 D3.out.1 D3.out.2.1 hb lb).mono ?_
        rintro e wZ ⟨p9, c9, rfl, _, hN⟩
        try replace ha := ha.ext hN
        try replace hb := hb.ext hN
        try replace h6 := heap_ext h6 hN
        replace hx := hx.trans hN
        clear hN
        go_wp2_with fail
        refine (nth_r bad pb _ _ 0 0 false D3.out.2.2.1 (by omega) hb lb).mono ?_
        rintro e wN ⟨rfl, hN⟩
        try replace ha := ha.ext hN
        try replace hb := hb.ext hN
        try replace h6 := heap_ext h6 hN
        replace hx := hx.trans hN
        clear hN
        go_wp2_with fail
        refine (valid_r bad pb _ _ false HVB.out hb lb).mono ?_
        rintro e wN ⟨rfl, hN⟩
        try replace ha := ha.ext hN
        try replace hb := hb.ext hN
        try replace h6 := heap_ext h6 hN
        replace hx := hx.trans hN
        clear hN
        go_wp2_with fail
        refine (valid_r a (some ⟨ba, oa, none⟩) _ _ true VA.out ha la).mono ?_
        rintro e wN ⟨rfl, hN⟩
        try replace ha := ha.ext hN
        try replace hb := hb.ext hN
        try replace h6 := heap_ext h6 hN
        replace hx := hx.trans hN
        clear hN
        have k0 := cell_of (j := 0) h6
        simp only [List.getElem?_toArray, List.getElem?_cons_zero] at k0
        go_wp2_with fail
        refine (has_r bad pb _ _ f false D4.out.1 hb lb).mono ?_
        rintro e wN ⟨rfl, hN⟩
        try replace ha := ha.ext hN
        try replace hb := hb.ext hN
        try replace h6 := heap_ext h6 hN
        replace hx := hx.trans hN
        clear hN
        go_wp2_with fail
        refine (within_r bad a pb (some ⟨ba, oa, none⟩) _ _ _ false D4.out.2.1 hb ha lb la).mono ?_
        rintro e wN ⟨rfl, hN⟩
        try replace ha := ha.ext hN
        try replace hb := hb.ext hN
        try replace h6 := heap_ext h6 hN
        replace hx := hx.trans hN
        clear hN
        go_wp2_with fail
        refine (within_r a bad (some ⟨ba, oa, none⟩) pb _ _ _ false D4.out.2.2 ha hb la lb).mono ?_
        rintro e wN ⟨rfl, hN⟩
        try replace ha := ha.ext hN
        try replace hb := hb.ext hN
        try replace h6 := heap_ext h6 hN
        replace hx := hx.trans hN
        clear hN
        go_wp2_with fail
        refine (days_r bad pb _ _ 0 D3.out.2.2.2.1 hb lb).mono ?_
        rintro e wN ⟨rfl, hN⟩
        try replace ha := ha.ext hN
        try replace hb := hb.ext hN
        try replace h6 := heap_ext h6 hN
        replace hx := hx.trans hN
        clear hN
        have k1 := cell_of (j := 1) h6
        simp only [List.getElem?_toArray, List.getElem?_cons_zero, List.getElem?_cons_succ] at k1
        go_wp2_with fail
        refine (before_r bad pb _ _ 0 t D3.out.2.2.2.2 hb lb).mono ?_
        rintro e wN ⟨rfl, hN⟩
        try replace ha := ha.ext hN
        try replace hb := hb.ext hN
        try replace h6 := heap_ext h6 hN
        replace hx := hx.trans hN
        clear hN
        go_wp2_with fail
        go_ret
        exact ⟨rfl, hx⟩
      · skip
        have hwr0 := IntWalk.i64_in (f) (by omega)
        have hwr1 := IntWalk.i64_in (t + 1) (by omega)
        have hwr2 := IntWalk.i64_in (t - 1) (by omega)
        have hmod : way % 6 = 4 := hk
        have htm : way.tmod 6 = 4 := by rw [Int.tmod_eq_emod_of_nonneg hway0]; exact hk
        have HVB : Hid (validB (-1) (a ++ [(t + 1, 65537)]) = false) := by
          unfold Hid
          cases hv : validB (-1) (a ++ [(t + 1, 65537)]) with
          | false => rfl
          | true =>
            have ho := (validB_iff _ _).1 hv
            rw [HPQ.out] at ho
            have h2 := (Ok.snoc.1 ho).2
            dsimp only at h2
            omega
        clear hk
        refine wp_region_move_tail (v := .slice p3 a.length c3) 35 (by kernel_rfl) (by kernel_rfl) (.inl ⟨by rfl, by intro w; go_simp⟩) (fun _ _ _ h => h) ?_
        simp only [List.take_succ_cons, List.take_zero, List.drop_succ_cons, List.drop_zero]
        repeat (go_big_quiet_step (first | (with_reducible exact HT.out _ _ _)))
        refine wpQuiet_step fun K hK => ?_
        rw [if_pos (by rfl)]
        refine ⟨.agg #[.int .i64 (t + 1), .int .i64 (65537)], ?_, hK _ (wpQuiet_nil ?_)⟩
        · intro w2 _
          unfold Oper.quietAt
          go_simp
          rw [idx6_4]
          exact ⟨rfl, rfl⟩
        intro w4 hx4
        have hown4 := HOWN.out.ext hx4
        have hxa := HX3.out.trans hx4
        go_wp2_with (at_builtin; refine wpList_append_one (w0 := (wN.alloc (.cells #[.int .i64 f, .int .i64 t] 65))) rfl _ _ 52 65 16 _ enc2_len enc2_one (by decide) rfl Try.underlying52 infoSp rfl a (t + 1, 65537) hown4 hxa _ 1 rfl rfl (by simp) (by omega) (by omega) ?_; intro v5 w5 hown5 hx5 _)
        have h6 := heap_ext (heap_new wN _) hx5
        obtain ⟨pb, cb, rfl, hb⟩ := hown5.read enc2_len
        generalize hbd : a ++ [(t + 1, 65537)] = bad at hb HVB ⊢
        have lb : bad.length ≤ 1000000 := by rw [← hbd]; simp; omega
        have hx := HX.out.trans (((Ext.refl wN).alloc _).trans hx5)
        have ha := HA.out.ext (((Ext.refl wN).alloc _).trans hx5)
        have D1 : Hid (∀ keep, combV keep bad a = [] ∧ combV keep a bad = [] ∧ combV keep bad bad = []) := fun keep => by
          unfold combV; rw [HVB.out, Bool.and_false, Bool.false_and, Bool.false_and]; exact ⟨rfl, rfl, rfl⟩
        have D2 : Hid (combE bad a = 2 ∧ combE a bad = 2 ∧ combE bad bad = 2) := by
          unfold Hid combE; rw [HVB.out, Bool.and_false, Bool.false_and, Bool.false_and]; exact ⟨rfl, rfl, rfl⟩
        have nv : ¬ validB (-1) bad = true := by rw [HVB.out]; exact Bool.noConfusion
        have D3 : Hid (bridgeV bad 3 = [] ∧ bridgeE bad 3 = 2 ∧ nthV bad 0 = (0, false) ∧ beforeV bad 65536 = 0 ∧ beforeV bad t = 0) := by
          refine ⟨?_, ?_, ?_, ?_, ?_⟩
          · unfold bridgeV; rw [if_neg fun h => nv h.1]
          · unfold bridgeE; rw [if_neg fun h => nv h.1]
          · unfold nthV; rw [if_neg fun h => nv h.1]
          · unfold beforeV; rw [if_neg nv]
          · unfold beforeV; rw [if_neg nv]
        have D4 : Hid ((validB (-1) bad && memB f bad) = false ∧ withinB bad a = false ∧ withinB a bad = false) := by
          unfold Hid withinB; rw [HVB.out, Bool.and_false, Bool.false_and, Bool.false_and]; exact ⟨rfl, rfl, rfl⟩
        clear hown4 hxa hown5 hx5 hbd hx4 HOWN HX3 k0 k1 kl H6 HT nv HPQ hwr0 hwr1 hwr2 hmod htm
        refine (union_r bad a [] 2 pb (some ⟨ba, oa, none⟩) _ _ _ (D1.out _).1 D2.out.1 hb ha lb la).mono ?_
        rintro e wZ ⟨p6, c6, rfl, _, hN⟩
        try replace ha := ha.ext hN
        try replace hb := hb.ext hN
        try replace h6 := heap_ext h6 hN
        replace hx := hx.trans hN
        clear hN
        go_wp2_with fail
        refine (meet_r a bad [] 2 (some ⟨ba, oa, none⟩) pb _ _ _ (D1.out _).2.1 D2.out.2.1 ha hb la lb).mono ?_
        rintro e wZ ⟨p7, c7, rfl, _, hN⟩
        try replace ha := ha.ext hN
        try replace hb := hb.ext hN
        try replace h6 := heap_ext h6 hN
        replace hx := hx.trans hN
        clear hN
        go_wp2_with fail
        refine (minus_r bad bad [] 2 pb pb _ _ _ (D1.out _).2.2 D2.out.2.2 hb hb lb lb).mono ?_
        rintro e wZ ⟨p8, c8, rfl, _, hN⟩
        try replace ha := ha.ext hN
        try replace hb := hb.ext hN
        try replace h6 := heap_ext h6 hN
        replace hx := hx.trans hN
        clear hN
        go_wp2_with fail
        refine (bridge_r bad [] 2 pb _ _ 3 D3.out.1 D3.out.2.1 hb lb).mono ?_
        rintro e wZ ⟨p9, c9, rfl, _, hN⟩
        try replace ha := ha.ext hN
        try replace hb := hb.ext hN
        try replace h6 := heap_ext h6 hN
        replace hx := hx.trans hN
        clear hN
        go_wp2_with fail
        refine (nth_r bad pb _ _ 0 0 false D3.out.2.2.1 (by omega) hb lb).mono ?_
        rintro e wN ⟨rfl, hN⟩
        try replace ha := ha.ext hN
        try replace hb := hb.ext hN
        try replace h6 := heap_ext h6 hN
        replace hx := hx.trans hN
        clear hN
        go_wp2_with fail
        refine (valid_r bad pb _ _ false HVB.out hb lb).mono ?_
        rintro e wN ⟨rfl, hN⟩
        try replace ha := ha.ext hN
        try replace hb := hb.ext hN
        try replace h6 := heap_ext h6 hN
        replace hx := hx.trans hN
        clear hN
        go_wp2_with fail
        refine (valid_r a (some ⟨ba, oa, none⟩) _ _ true VA.out ha la).mono ?_
        rintro e wN ⟨rfl, hN⟩
        try replace ha := ha.ext hN
        try replace hb := hb.ext hN
        try replace h6 := heap_ext h6 hN
        replace hx := hx.trans hN
        clear hN
        have k0 := cell_of (j := 0) h6
        simp only [List.getElem?_toArray, List.getElem?_cons_zero] at k0
        go_wp2_with fail
        refine (has_r bad pb _ _ f false D4.out.1 hb lb).mono ?_
        rintro e wN ⟨rfl, hN⟩
        try replace ha := ha.ext hN
        try replace hb := hb.ext hN
        try replace h6 := heap_ext h6 hN
        replace hx := hx.trans hN
        clear hN
        go_wp2_with fail
        refine (within_r bad a pb (some ⟨ba, oa, none⟩) _ _ _ false D4.out.2.1 hb ha lb la).mono ?_
        rintro e wN ⟨rfl, hN⟩
        try replace ha := ha.ext hN
        try replace hb := hb.ext hN
        try replace h6 := heap_ext h6 hN
        replace hx := hx.trans hN
        clear hN
        go_wp2_with fail
        refine (within_r a bad (some ⟨ba, oa, none⟩) pb _ _ _ false D4.out.2.2 ha hb la lb).mono ?_
        rintro e wN ⟨rfl, hN⟩
        try replace ha := ha.ext hN
        try replace hb := hb.ext hN
        try replace h6 := heap_ext h6 hN
        replace hx := hx.trans hN
        clear hN
        go_wp2_with fail
        refine (days_r bad pb _ _ 0 D3.out.2.2.2.1 hb lb).mono ?_
        rintro e wN ⟨rfl, hN⟩
        try replace ha := ha.ext hN
        try replace hb := hb.ext hN
        try replace h6 := heap_ext h6 hN
        replace hx := hx.trans hN
        clear hN
        have k1 := cell_of (j := 1) h6
        simp only [List.getElem?_toArray, List.getElem?_cons_zero, List.getElem?_cons_succ] at k1
        go_wp2_with fail
        refine (before_r bad pb _ _ 0 t D3.out.2.2.2.2 hb lb).mono ?_
        rintro e wN ⟨rfl, hN⟩
        try replace ha := ha.ext hN
        try replace hb := hb.ext hN
        try replace h6 := heap_ext h6 hN
        replace hx := hx.trans hN
        clear hN
        go_wp2_with fail
        go_ret
        exact ⟨rfl, hx⟩
      · skip
        have hwr0 := IntWalk.i64_in (f) (by omega)
        have hwr1 := IntWalk.i64_in (t + 1) (by omega)
        have hwr2 := IntWalk.i64_in (t - 1) (by omega)
        have hmod : way % 6 = 5 := hk
        have htm : way.tmod 6 = 5 := by rw [Int.tmod_eq_emod_of_nonneg hway0]; exact hk
        have HVB : Hid (validB (-1) (a ++ [(f, t)]) = false) := by
          unfold Hid
          cases hv : validB (-1) (a ++ [(f, t)]) with
          | false => rfl
          | true =>
            have ho := (validB_iff _ _).1 hv
            rw [HPQ.out] at ho
            have h2 := (Ok.snoc.1 ho).2
            dsimp only at h2
            omega
        clear hk
        refine wp_region_move_tail (v := .slice p3 a.length c3) 35 (by kernel_rfl) (by kernel_rfl) (.inl ⟨by rfl, by intro w; go_simp⟩) (fun _ _ _ h => h) ?_
        simp only [List.take_succ_cons, List.take_zero, List.drop_succ_cons, List.drop_zero]
        repeat (go_big_quiet_step (first | (with_reducible exact HT.out _ _ _)))
        refine wpQuiet_step fun K hK => ?_
        rw [if_pos (by rfl)]
        refine ⟨.agg #[.int .i64 (f), .int .i64 (t)], ?_, hK _ (wpQuiet_nil ?_)⟩
        · intro w2 _
          unfold Oper.quietAt
          go_simp
          rw [idx6_5]
          exact ⟨rfl, rfl⟩
        intro w4 hx4
        have hown4 := HOWN.out.ext hx4
        have hxa := HX3.out.trans hx4
        go_wp2_with (at_builtin; refine wpList_append_one (w0 := (wN.alloc (.cells #[.int .i64 f, .int .i64 t] 65))) rfl _ _ 52 65 16 _ enc2_len enc2_one (by decide) rfl Try.underlying52 infoSp rfl a (f, t) hown4 hxa _ 1 rfl rfl (by simp) (by omega) (by omega) ?_; intro v5 w5 hown5 hx5 _)
        have h6 := heap_ext (heap_new wN _) hx5
        obtain ⟨pb, cb, rfl, hb⟩ := hown5.read enc2_len
        generalize hbd : a ++ [(f, t)] = bad at hb HVB ⊢
        have lb : bad.length ≤ 1000000 := by rw [← hbd]; simp; omega
        have hx := HX.out.trans (((Ext.refl wN).alloc _).trans hx5)
        have ha := HA.out.ext (((Ext.refl wN).alloc _).trans hx5)
        have D1 : Hid (∀ keep, combV keep bad a = [] ∧ combV keep a bad = [] ∧ combV keep bad bad = []) := fun keep => by
          unfold combV; rw [HVB.out, Bool.and_false, Bool.false_and, Bool.false_and]; exact ⟨rfl, rfl, rfl⟩
        have D2 : Hid (combE bad a = 2 ∧ combE a bad = 2 ∧ combE bad bad = 2) := by
          unfold Hid combE; rw [HVB.out, Bool.and_false, Bool.false_and, Bool.false_and]; exact ⟨rfl, rfl, rfl⟩
        have nv : ¬ validB (-1) bad = true := by rw [HVB.out]; exact Bool.noConfusion
        have D3 : Hid (bridgeV bad 3 = [] ∧ bridgeE bad 3 = 2 ∧ nthV bad 0 = (0, false) ∧ beforeV bad 65536 = 0 ∧ beforeV bad t = 0) := by
          refine ⟨?_, ?_, ?_, ?_, ?_⟩
          · unfold bridgeV; rw [if_neg fun h => nv h.1]
          · unfold bridgeE; rw [if_neg fun h => nv h.1]
          · unfold nthV; rw [if_neg fun h => nv h.1]
          · unfold beforeV; rw [if_neg nv]
          · unfold beforeV; rw [if_neg nv]
        have D4 : Hid ((validB (-1) bad && memB f bad) = false ∧ withinB bad a = false ∧ withinB a bad = false) := by
          unfold Hid withinB; rw [HVB.out, Bool.and_false, Bool.false_and, Bool.false_and]; exact ⟨rfl, rfl, rfl⟩
        clear hown4 hxa hown5 hx5 hbd hx4 HOWN HX3 k0 k1 kl H6 HT nv HPQ hwr0 hwr1 hwr2 hmod htm
        refine (union_r bad a [] 2 pb (some ⟨ba, oa, none⟩) _ _ _ (D1.out _).1 D2.out.1 hb ha lb la).mono ?_
        rintro e wZ ⟨p6, c6, rfl, _, hN⟩
        try replace ha := ha.ext hN
        try replace hb := hb.ext hN
        try replace h6 := heap_ext h6 hN
        replace hx := hx.trans hN
        clear hN
        go_wp2_with fail
        refine (meet_r a bad [] 2 (some ⟨ba, oa, none⟩) pb _ _ _ (D1.out _).2.1 D2.out.2.1 ha hb la lb).mono ?_
        rintro e wZ ⟨p7, c7, rfl, _, hN⟩
        try replace ha := ha.ext hN
        try replace hb := hb.ext hN
        try replace h6 := heap_ext h6 hN
        replace hx := hx.trans hN
        clear hN
        go_wp2_with fail
        refine (minus_r bad bad [] 2 pb pb _ _ _ (D1.out _).2.2 D2.out.2.2 hb hb lb lb).mono ?_
        rintro e wZ ⟨p8, c8, rfl, _, hN⟩
        try replace ha := ha.ext hN
        try replace hb := hb.ext hN
        try replace h6 := heap_ext h6 hN
        replace hx := hx.trans hN
        clear hN
        go_wp2_with fail
        refine (bridge_r bad [] 2 pb _ _ 3 D3.out.1 D3.out.2.1 hb lb).mono ?_
        rintro e wZ ⟨p9, c9, rfl, _, hN⟩
        try replace ha := ha.ext hN
        try replace hb := hb.ext hN
        try replace h6 := heap_ext h6 hN
        replace hx := hx.trans hN
        clear hN
        go_wp2_with fail
        refine (nth_r bad pb _ _ 0 0 false D3.out.2.2.1 (by omega) hb lb).mono ?_
        rintro e wN ⟨rfl, hN⟩
        try replace ha := ha.ext hN
        try replace hb := hb.ext hN
        try replace h6 := heap_ext h6 hN
        replace hx := hx.trans hN
        clear hN
        go_wp2_with fail
        refine (valid_r bad pb _ _ false HVB.out hb lb).mono ?_
        rintro e wN ⟨rfl, hN⟩
        try replace ha := ha.ext hN
        try replace hb := hb.ext hN
        try replace h6 := heap_ext h6 hN
        replace hx := hx.trans hN
        clear hN
        go_wp2_with fail
        refine (valid_r a (some ⟨ba, oa, none⟩) _ _ true VA.out ha la).mono ?_
        rintro e wN ⟨rfl, hN⟩
        try replace ha := ha.ext hN
        try replace hb := hb.ext hN
        try replace h6 := heap_ext h6 hN
        replace hx := hx.trans hN
        clear hN
        have k0 := cell_of (j := 0) h6
        simp only [List.getElem?_toArray, List.getElem?_cons_zero] at k0
        go_wp2_with fail
        refine (has_r bad pb _ _ f false D4.out.1 hb lb).mono ?_
        rintro e wN ⟨rfl, hN⟩
        try replace ha := ha.ext hN
        try replace hb := hb.ext hN
        try replace h6 := heap_ext h6 hN
        replace hx := hx.trans hN
        clear hN
        go_wp2_with fail
        refine (within_r bad a pb (some ⟨ba, oa, none⟩) _ _ _ false D4.out.2.1 hb ha lb la).mono ?_
        rintro e wN ⟨rfl, hN⟩
        try replace ha := ha.ext hN
        try replace hb := hb.ext hN
        try replace h6 := heap_ext h6 hN
        replace hx := hx.trans hN
        clear hN
        go_wp2_with fail
        refine (within_r a bad (some ⟨ba, oa, none⟩) pb _ _ _ false D4.out.2.2 ha hb la lb).mono ?_
        rintro e wN ⟨rfl, hN⟩
        try replace ha := ha.ext hN
        try replace hb := hb.ext hN
        try replace h6 := heap_ext h6 hN
        replace hx := hx.trans hN
        clear hN
        go_wp2_with fail
        refine (days_r bad pb _ _ 0 D3.out.2.2.2.1 hb lb).mono ?_
        rintro e wN ⟨rfl, hN⟩
        try replace ha := ha.ext hN
        try replace hb := hb.ext hN
        try replace h6 := heap_ext h6 hN
        replace hx := hx.trans hN
        clear hN
        have k1 := cell_of (j := 1) h6
        simp only [List.getElem?_toArray, List.getElem?_cons_zero, List.getElem?_cons_succ] at k1
        go_wp2_with fail
        refine (before_r bad pb _ _ 0 t D3.out.2.2.2.2 hb lb).mono ?_
        rintro e wN ⟨rfl, hN⟩
        try replace ha := ha.ext hN
        try replace hb := hb.ext hN
        try replace h6 := heap_ext h6 hN
        replace hx := hx.trans hN
        clear hN
        go_wp2_with fail
        go_ret
        exact ⟨rfl, hx⟩
end Go.Proofs.Ytbjhehmglahmpaa
