import Derived.Test.YtbjhehmglahmpaaSpanWf
import Derived.Test.YtbjhehmglahmpaaSpanAw
import Derived.Test.YtbjhehmglahmpaaSpanLawP
/- The closure inside the law SpanLaws: it calls one of the operations and adds its error to a variable that stays zero. -/
namespace Go.Proofs.Ytbjhehmglahmpaa
open Go.RowKit

def RdC (w w' : World) (r : List Sp) (e : Ending) : Prop := ∃ p c, e = .returned (.slice p r.length c) ∧ Sl 2 enc2 w' p r ∧ Ext w w'
theorem set_zero {w : World} {b : Nat} {e : TypeId} {fr : Nat × Nat} (h : w.heap[b]? = some (.cells #[.int .i64 0] e fr)) : w.setCell ⟨b, 0, none⟩ (.int .i64 0) = w := by
  obtain ⟨heap, tape, drawn, os, output⟩ := w
  simp only at h
  simp only [World.setCell, World.mk.injEq, and_true]
  apply Array.ext_getElem?
  intro i
  rw [Array.getElem?_modify]
  split
  · rename_i hi; subst hi; rw [h]; rfl
  · rfl
set_option maxHeartbeats 1600000 in
theorem do_u (x y r : List Sp) (px py : Option Addr) (cx cy bk : Nat) (w : World) (hr : uS x y = r) (ox : Ok (-1) x) (oy : Ok (-1) y) (hsx : Sl 2 enc2 w px x) (hsy : Sl 2 enc2 w py y) (hbk : w.heap[bk]? = some (.cells #[.int .i64 0] 53 (0, 0))) :
    Calls Try.prog 28 #[.func (.func 29) #[] #[], .slice px x.length cx, .slice py y.length cy, .pointer (some ⟨bk, 0, none⟩)] w fun e w' => RdC w w' r e := by
  have HR := Lib.hid ((combV_ok _ ox oy).trans hr)
  have HE := Lib.hid (combE_ok ox oy)
  have lx := ox.len6
  have ly := oy.len6
  clear hr ox oy
  go_enter Try.func28, Try.ntmps28
  go_wp2_with fail
  refine (union_r x y r 0 px py _ _ _ HR.out HE.out hsx hsy lx ly).mono ?_
  rintro e wN ⟨p, c, rfl, hs, hx⟩
  have h0 := heap_ext hbk hx
  have k0 := cell_of (j := 0) h0
  have kf := frozen_of (j := 0) h0
  have kl := lt_of h0
  simp only [List.getElem?_toArray, List.getElem?_cons_zero] at k0
  have hsame := set_zero h0
  go_wp2_with fail
  go_ret
  exact ⟨p, c, rfl, hs, hx⟩
set_option maxHeartbeats 1600000 in
theorem do_m (x y r : List Sp) (px py : Option Addr) (cx cy bk : Nat) (w : World) (hr : mS x y = r) (ox : Ok (-1) x) (oy : Ok (-1) y) (hsx : Sl 2 enc2 w px x) (hsy : Sl 2 enc2 w py y) (hbk : w.heap[bk]? = some (.cells #[.int .i64 0] 53 (0, 0))) :
    Calls Try.prog 28 #[.func (.func 30) #[] #[], .slice px x.length cx, .slice py y.length cy, .pointer (some ⟨bk, 0, none⟩)] w fun e w' => RdC w w' r e := by
  have HR := Lib.hid ((combV_ok _ ox oy).trans hr)
  have HE := Lib.hid (combE_ok ox oy)
  have lx := ox.len6
  have ly := oy.len6
  clear hr ox oy
  go_enter Try.func28, Try.ntmps28
  go_wp2_with fail
  refine (meet_r x y r 0 px py _ _ _ HR.out HE.out hsx hsy lx ly).mono ?_
  rintro e wN ⟨p, c, rfl, hs, hx⟩
  have h0 := heap_ext hbk hx
  have k0 := cell_of (j := 0) h0
  have kf := frozen_of (j := 0) h0
  have kl := lt_of h0
  simp only [List.getElem?_toArray, List.getElem?_cons_zero] at k0
  have hsame := set_zero h0
  go_wp2_with fail
  go_ret
  exact ⟨p, c, rfl, hs, hx⟩
set_option maxHeartbeats 1600000 in
theorem do_d (x y r : List Sp) (px py : Option Addr) (cx cy bk : Nat) (w : World) (hr : dS x y = r) (ox : Ok (-1) x) (oy : Ok (-1) y) (hsx : Sl 2 enc2 w px x) (hsy : Sl 2 enc2 w py y) (hbk : w.heap[bk]? = some (.cells #[.int .i64 0] 53 (0, 0))) :
    Calls Try.prog 28 #[.func (.func 31) #[] #[], .slice px x.length cx, .slice py y.length cy, .pointer (some ⟨bk, 0, none⟩)] w fun e w' => RdC w w' r e := by
  have HR := Lib.hid ((combV_ok _ ox oy).trans hr)
  have HE := Lib.hid (combE_ok ox oy)
  have lx := ox.len6
  have ly := oy.len6
  clear hr ox oy
  go_enter Try.func28, Try.ntmps28
  go_wp2_with fail
  refine (minus_r x y r 0 px py _ _ _ HR.out HE.out hsx hsy lx ly).mono ?_
  rintro e wN ⟨p, c, rfl, hs, hx⟩
  have h0 := heap_ext hbk hx
  have k0 := cell_of (j := 0) h0
  have kf := frozen_of (j := 0) h0
  have kl := lt_of h0
  simp only [List.getElem?_toArray, List.getElem?_cons_zero] at k0
  have hsame := set_zero h0
  go_wp2_with fail
  go_ret
  exact ⟨p, c, rfl, hs, hx⟩
end Go.Proofs.Ytbjhehmglahmpaa
