import Derived.Test.YtalconpcpegmlaaDoorSpanW5
namespace Go.Proofs.YtalconpcpegmlaaDoor
open Go.RowKit Go.Shelf

/-! ### slices.ContainsFunc at spans; span.Has -/
set_option maxHeartbeats 400000 in
theorem indexNone_sp (p : Option Addr) (c : Nat) (fv : Value) (w : World) :
    Calls Tryd.prog 66 #[.slice p 0 c, fv] w fun e w' => e = .returned (.int .i64 (-1)) ∧ w = w' := by
  go_enter Tryd.func66, Tryd.ntmps66
  go_wp2
  go_loop [8] (fun i => i = .int .i64 0) (fun _ => 0)
  case atStart => rfl
  case round =>
    subst hrel
    go_wp2
    go_ret
    exact ⟨rfl, rfl⟩
set_option maxHeartbeats 400000 in
theorem containsFunc_sp (l : List Sp) (p : Option Addr) (c g : Nat) (lb : Array Value) (pr : Sp → Bool) (w : World) (hl : Sl 2 enc2 w p l) (hm : l.length ≤ 9223372036854775807)
    (hp : PredBelow Tryd.prog g lb (fun x => .agg (enc2 x).toArray) pr w) (eg : ∀ args w, (callFunc g args).run Tryd.prog w = .ok (.enter g args) w) :
    Calls Tryd.prog 48 #[.slice p l.length c, .func (.func g) #[] lb] w fun e w' => e = .returned (.bool (l.any pr)) ∧ Ext w w' := by
  by_cases hne : l = []
  · subst hne
    simp only [List.length_nil, List.any_nil]
    go_enter Tryd.func48, Tryd.ntmps48
    go_wp2_with (go_at_call 66; refine (indexNone_sp _ _ _ _).mono ?_; rintro e w2 ⟨rfl, rfl⟩)
    go_ret
    exact ⟨rfl, Ext.refl _⟩
  · obtain ⟨b, off, rfl, hb, hc⟩ := hl.addr hne
    have hcon := AnyQ.slices_ContainsFunc Tryd.laysConSp 2 Tryd.isAgg57 Tryd.sizeOf57 enc2 enc2_len pr g lb eg b off l.length c l w hp (Nat.le_refl _) hm hb (fun j hj i v hi => by
      rw [getElem!_pos l j hj] at hi
      exact hc j hj i v hi)
    change Calls Tryd.prog 48 _ _ _ at hcon
    rw [List.take_length] at hcon
    exact hcon
set_option maxHeartbeats 400000 in
theorem has1_any (f t day : Int) (B : Nat) (w : World) (hc : w.cell? ⟨B, 0, none⟩ = some (.int .i64 day)) (hB : B < w.heap.size) :
    Calls Tryd.prog 49 #[.agg #[.int .i64 f, .int .i64 t], .pointer (some ⟨B, 0, none⟩)] w fun e w' => e = .returned (.bool (inS day (f, t))) ∧ Ext w w' := by
  have hne : B ≠ w.heap.size := by omega
  by_cases h1 : f ≤ day
  · have hd : decide (f ≤ day) = true := by simpa using h1
    go_enter Tryd.func49, Tryd.ntmps49
    go_wp2
    all_goals (go_ret; exact ⟨ret_bool (by simp [inS, *]), (Ext.refl w).alloc _⟩)
  · have hd : decide (f ≤ day) = false := by simpa using h1
    go_enter Tryd.func49, Tryd.ntmps49
    go_wp2
    all_goals (go_ret; exact ⟨ret_bool (by simp [inS, *]), (Ext.refl w).alloc _⟩)
theorem has1_pred (day : Int) (B : Nat) (w : World) (hc : w.cell? ⟨B, 0, none⟩ = some (.int .i64 day)) (hB : B < w.heap.size) :
    PredBelow Tryd.prog 49 #[.pointer (some ⟨B, 0, none⟩)] (fun x => .agg (enc2 x).toArray) (inS day) w := fun W x hb =>
  (has1_any x.1 x.2 day B W ((hb.cell (p := ⟨B, 0, none⟩) hB).trans hc) (Nat.lt_of_lt_of_le hB hb.size)).mono fun _ _ ⟨he, hx⟩ => ⟨he, hb.trans (hx.out.mono hb.size)⟩
set_option maxHeartbeats 400000 in
theorem has_any (l : List Sp) (day : Int) (p : Option Addr) (c : Nat) (w : World) (hl : Sl 2 enc2 w p l) (hm : l.length ≤ 9223372036854775807) :
    Calls Tryd.prog 34 #[.slice p l.length c, .int .i64 day] w fun e w' => e = .returned (.bool (validB (-1) l && memB day l)) ∧ Ext w w' := by
  have eg : ∀ args w, (callFunc 49 args).run Tryd.prog w = .ok (.enter 49 args) w := enters_of Tryd.func49 (by kernel_rfl) rfl
  have hl2 := hl.ext ((Ext.refl w).alloc (.cells #[.int .i64 day] 3))
  cases hv : validB (-1) l with
  | false =>
    go_enter Tryd.func34, Tryd.ntmps34
    go_wp2_with (go_at_call 22; refine (valid_any l _ _ _ hl2 hm).mono ?_; rintro e w2 ⟨rfl, hb2⟩)
    go_ret
    exact ⟨rfl, ((Ext.refl w).alloc _).trans hb2⟩
  | true =>
    go_enter Tryd.func34, Tryd.ntmps34
    go_wp2_with (first
      | (go_at_call 22; refine (valid_any l _ _ _ hl2 hm).mono ?_; rintro e w2 ⟨rfl, hb2⟩; have hp := has1_pred day w.heap.size w2 ((hb2.cells.1 w.heap.size 0 (by simp)).trans (by go_simp)) (Nat.lt_of_lt_of_le (by simp) hb2.size))
      | (go_at_call 48; refine (containsFunc_sp l _ _ 49 #[.pointer (some ⟨w.heap.size, 0, none⟩)] (inS day) _ (hl2.ext hb2) hm hp eg).mono ?_; rintro e w3 ⟨rfl, hb3⟩))
    go_ret
    exact ⟨rfl, (((Ext.refl w).alloc _).trans hb2).trans hb3⟩
end Go.Proofs.YtalconpcpegmlaaDoor
