import Derived.Test.YtalconpcpegmlaaDoorAppP
import Derived.Test.YtalconpcpegmlaaDoorSpanWe
import Derived.Test.YtalconpcpegmlaaDoorLibStep
/- appeal.held, walked. -/
namespace Go.Proofs.YtalconpcpegmlaaDoor
open Go.RowKit

theorem cells10 {w : World} {b : Nat} {T : TypeId} {fr : Nat × Nat} {x0 x1 x2 x3 x4 x5 x6 x7 x8 x9 : Value} (h : w.heap[b]? = some (.cells #[x0, x1, x2, x3, x4, x5, x6, x7, x8, x9] T fr)) :
    w.cell? ⟨b, 0, none⟩ = some x0 ∧ w.cell? ⟨b, 1, none⟩ = some x1 ∧ w.cell? ⟨b, 2, none⟩ = some x2 ∧ w.cell? ⟨b, 3, none⟩ = some x3 ∧ w.cell? ⟨b, 4, none⟩ = some x4 ∧ w.cell? ⟨b, 5, none⟩ = some x5 ∧
    w.cell? ⟨b, 6, none⟩ = some x6 ∧ w.cell? ⟨b, 7, none⟩ = some x7 ∧ w.cell? ⟨b, 8, none⟩ = some x8 ∧ w.cell? ⟨b, 9, none⟩ = some x9 :=
  ⟨(cell_of h).trans rfl, (cell_of h).trans rfl, (cell_of h).trans rfl, (cell_of h).trans rfl, (cell_of h).trans rfl, (cell_of h).trans rfl, (cell_of h).trans rfl, (cell_of h).trans rfl, (cell_of h).trans rfl, (cell_of h).trans rfl⟩
set_option maxHeartbeats 1600000 in
set_option maxRecDepth 100000 in
theorem held_any (el hd : Bool) (st op dy ch lv due sn day : Int) (held : List Sp) (p : Option Addr) (cap : Nat) (w : World) (hs : Sl 2 enc2 w p held) (hm : held.length ≤ 1000000) :
    Calls Tryd.prog 47 #[.agg #[.bool el, .int .u8 st, .int .i64 op, .int .i64 dy, .int .i64 ch, .int .i64 lv, .int .i64 due, .bool hd, .int .i64 sn, .slice p held.length cap], .int .i64 day] w
      fun e w' => ∃ v, e = .returned v ∧ OwnS w w' v (heldP ⟨el, st, op, dy, ch, lv, due, hd, sn, held⟩ day) ∧ Ext w w' := by
  cases hd with
  | false =>
    have hx := (Ext.refl w).alloc (.cells #[.bool el, .int .u8 st, .int .i64 op, .int .i64 dy, .int .i64 ch, .int .i64 lv, .int .i64 due, .bool false, .int .i64 sn, .slice p held.length cap] 39)
    go_enter Tryd.func47, Tryd.ntmps47
    go_wp2_with fail
    refine (clone_any held p cap _ (hs.ext hx) (by omega)).mono ?_
    rintro e wN ⟨v, rfl, hv, hN⟩
    go_wp2_with fail
    go_ret
    exact ⟨v, rfl, Owns.mono hv hx.size, hx.trans hN⟩
  | true =>
    have hx := (Ext.refl w).alloc (.cells #[.bool el, .int .u8 st, .int .i64 op, .int .i64 dy, .int .i64 ch, .int .i64 lv, .int .i64 due, .bool true, .int .i64 sn, .slice p held.length cap] 39)
    have hB := heap_new w (.cells #[.bool el, .int .u8 st, .int .i64 op, .int .i64 dy, .int .i64 ch, .int .i64 lv, .int .i64 due, .bool true, .int .i64 sn, .slice p held.length cap] 39)
    go_enter Tryd.func47, Tryd.ntmps47
    go_upto_region 4 with fail
    generalize w.alloc (.cells #[.bool el, .int .u8 st, .int .i64 op, .int .i64 dy, .int .i64 ch, .int .i64 lv, .int .i64 due, .bool true, .int .i64 sn, .slice p held.length cap] 39) = W0 at hx hB ⊢
    have hBl := lt_of hB
    obtain ⟨_, _, _, _, _, _, _, _, k8, k9⟩ := cells10 hB
    clear hB
    generalize w.heap.size = B at hBl k8 k9 ⊢
    have hs0 := hs.ext hx
    go_region_held3 (fun w' => w'.cell? ⟨B, 8, none⟩ = some (.int .i64 sn) ∧ w'.cell? ⟨B, 9, none⟩ = some (.slice p held.length cap)) (go_keep)
      (first
        | (go_at_call 64; refine (clone_any held p cap _ (hs0.ext ((Ext.refl W0).drew)) (by omega)).mono ?_; rintro e w1 ⟨v1, rfl, hv1, hx1⟩; have X1 : Ext W0 w1 := ((Ext.refl W0).drew).trans hx1; have V1 : Owns W0.heap.size 57 2 enc2 w1 v1 held := hv1; have q8 : w1.cell? ⟨B, 8, none⟩ = some (.int .i64 sn) := (X1.cells.1 B 8 hBl).trans k8; have q9 : w1.cell? ⟨B, 9, none⟩ = some (.slice p held.length cap) := (X1.cells.1 B 9 hBl).trans k9)
        | (go_at_call 64; refine (clone_any held p cap _ (hs0.ext (((Ext.refl W0).drew).alloc _)) (by omega)).mono ?_; rintro e w1 ⟨v1, rfl, hv1, hx1⟩; have X1 : Ext W0 w1 := (((Ext.refl W0).drew).alloc _).trans hx1; have V1 : Owns W0.heap.size 57 2 enc2 w1 v1 held := Owns.mono hv1 (((Ext.refl W0).drew).alloc _).size; have Y1 := (Sl.lit (w := W0.drew) (T := 57) [(sn, max (min day 65536) sn)] rfl).ext hx1; have q8 : w1.cell? ⟨B, 8, none⟩ = some (.int .i64 sn) := (X1.cells.1 B 8 hBl).trans k8; have q9 : w1.cell? ⟨B, 9, none⟩ = some (.slice p held.length cap) := (X1.cells.1 B 9 hBl).trans k9)
        | (refine step_append_sl (w0 := W0) rfl _ _ 37 57 16 _ enc2_len enc2_one (by decide) rfl Tryd.underlying37 infoSp rfl held [(sn, max (min day 65536) sn)] (Owns.alloc V1 _) (X1.alloc _) _ 1 rfl rfl (Sl.lit [(sn, max (min day 65536) sn)] rfl) Nat.one_pos (by simp only [List.length_singleton]; omega) (by simp only [List.length_singleton]; omega) ?_; intro p3 c3 w3 hown3 hs3 X3 hg3; obtain ⟨L, HL⟩ : ∃ L, Hid (held ++ [(sn, max (min day 65536) sn)] = L) := ⟨_, rfl⟩; have hLl : L.length ≤ 1000001 := (have e := congrArg List.length HL.out; (by rw [List.length_append, List.length_singleton] at e; omega)); rw [HL.out] at hs3 ⊢; clear hown3 hg3; have q8 : w3.cell? ⟨B, 8, none⟩ = some (.int .i64 sn) := (X3.cells.1 B 8 hBl).trans k8; have q9 : w3.cell? ⟨B, 9, none⟩ = some (.slice p held.length cap) := (X3.cells.1 B 9 hBl).trans k9)
        | (refine step_append_sl (w0 := W0) rfl _ _ 37 57 16 _ enc2_len enc2_one (by decide) rfl Tryd.underlying37 infoSp rfl held [(sn, max (min day 65536) sn)] V1 X1 _ 1 rfl rfl Y1 Nat.one_pos (by simp only [List.length_singleton]; omega) (by simp only [List.length_singleton]; omega) ?_; intro p3 c3 w3 hown3 hs3 X3 hg3; obtain ⟨L, HL⟩ : ∃ L, Hid (held ++ [(sn, max (min day 65536) sn)] = L) := ⟨_, rfl⟩; have hLl : L.length ≤ 1000001 := (have e := congrArg List.length HL.out; (by rw [List.length_append, List.length_singleton] at e; omega)); rw [HL.out] at hs3 ⊢; clear hown3 hg3; have q8 : w3.cell? ⟨B, 8, none⟩ = some (.int .i64 sn) := (X3.cells.1 B 8 hBl).trans k8; have q9 : w3.cell? ⟨B, 9, none⟩ = some (.slice p held.length cap) := (X3.cells.1 B 9 hBl).trans k9)
        | (go_at_call 65; refine (make_any L p3 c3 _ hs3 (by omega)).mono ?_; rintro e w4 ⟨v4, rfl, hv4, hx4⟩; have X4 := X3.trans hx4; have q8 : w4.cell? ⟨B, 8, none⟩ = some (.int .i64 sn) := (X4.cells.1 B 8 hBl).trans k8; have q9 : w4.cell? ⟨B, 9, none⟩ = some (.slice p held.length cap) := (X4.cells.1 B 9 hBl).trans k9))
    all_goals
      go_wp2_with fail
      go_ret
      refine ⟨v4, rfl, ?_, hx.trans X4⟩
      unfold heldP
      rw [if_pos rfl, HL.out]
      exact Owns.mono hv4 (Nat.le_trans hx.size X3.size)
end Go.Proofs.YtalconpcpegmlaaDoor
