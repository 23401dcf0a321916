import Derived.Test.YtalconpcpegmlaaDoorSpanWb
namespace Go.Proofs.YtalconpcpegmlaaDoor
open Go.RowKit

/-! ### Union, Meet, Minus, Within -/
set_option maxHeartbeats 800000 in
theorem combine_bad (gk : Nat) (a b : List Sp) (pa pb : Option Addr) (ca cb : Nat) (w : World) (ha : Sl 2 enc2 w pa a) (hb : Sl 2 enc2 w pb b) (hma : a.length ≤ 1000000) (hmb : b.length ≤ 1000000) (hv : (validB (-1) a && validB (-1) b) = false) :
    Calls Tryd.prog 38 #[.slice pa a.length ca, .slice pb b.length cb, .func (.func gk) #[] #[]] w fun e w' => e = .returned (.tuple #[.slice none 0 0, .int .i64 2]) ∧ Ext w w' := by
  cases va : validB (-1) a with
  | false =>
    clear hv
    go_enter Tryd.func38, Tryd.ntmps38
    go_wp2_with (go_at_call 22; refine (valid_any a _ _ _ (ha.ext ((Ext.refl w).alloc _)) (by omega)).mono ?_; rintro e w2 ⟨rfl, hb2⟩)
    go_ret2
    exact ⟨rfl, ((Ext.refl w).alloc _).trans hb2⟩
  | true =>
    have vb : validB (-1) b = false := by simpa [va] using hv
    clear hv
    go_enter Tryd.func38, Tryd.ntmps38
    go_wp2_with fail
    refine (valid_any a _ _ _ (ha.ext ((Ext.refl w).alloc _)) (by omega)).mono ?_
    rintro e w1 ⟨rfl, hx1⟩
    go_wp2_with fail
    refine (valid_any b _ _ _ (hb.ext (((Ext.refl w).alloc _).trans hx1)) (by omega)).mono ?_
    rintro e w2 ⟨rfl, hx2⟩
    rw [vb]
    go_wp2_with fail
    go_ret2
    exact ⟨rfl, (((Ext.refl w).alloc _).trans hx1).trans hx2⟩
/-- What a call of one of the three leaves: the error number and what is owned. -/
def combV (keep : Bool → Bool → Bool) (a b : List Sp) : List Sp := if validB (-1) a && validB (-1) b then combS keep a b else []
def combE (a b : List Sp) : Int := if validB (-1) a && validB (-1) b then 0 else 2
theorem combine_any (keep : Bool → Bool → Bool) (gk : Nat) (hk : ∀ x y W, Calls Tryd.prog gk #[.bool x, .bool y] W fun e W' => e = .returned (.bool (keep x y)) ∧ W = W')
    (ek : ∀ args w, (callFunc gk args).run Tryd.prog w = .ok (.enter gk args) w)
    (a b : List Sp) (pa pb : Option Addr) (ca cb : Nat) (w : World) (ha : Sl 2 enc2 w pa a) (hb : Sl 2 enc2 w pb b) (hma : a.length ≤ 1000000) (hmb : b.length ≤ 1000000) :
    Calls Tryd.prog 38 #[.slice pa a.length ca, .slice pb b.length cb, .func (.func gk) #[] #[]] w fun e w' => ∃ v, e = .returned (.tuple #[v, .int .i64 (combE a b)]) ∧ OwnS w w' v (combV keep a b) ∧ Ext w w' := by
  unfold combV combE
  cases hv : validB (-1) a && validB (-1) b with
  | true =>
    have := hv; rw [Bool.and_eq_true] at this
    exact combine_ok keep gk hk ek a b pa pb ca cb w ha hb hma hmb this.1 this.2
  | false =>
    exact (combine_bad gk a b pa pb ca cb w ha hb hma hmb hv).mono fun e w' ⟨h1, h2⟩ => ⟨_, h1, Owns.nil, h2⟩
theorem union1 (x y : Bool) (W : World) : Calls Tryd.prog 39 #[.bool x, .bool y] W fun e W' => e = .returned (.bool (x || y)) ∧ W = W' := by
  cases x <;> (go_enter Tryd.func39, Tryd.ntmps39; go_wp2; go_ret; exact ⟨rfl, rfl⟩)
section
variable (a b : List Sp) (pa pb : Option Addr) (ca cb : Nat) (w : World) (ha : Sl 2 enc2 w pa a) (hb : Sl 2 enc2 w pb b) (hma : a.length ≤ 1000000) (hmb : b.length ≤ 1000000)
include ha hb hma hmb
set_option maxHeartbeats 400000 in
theorem union_any : Calls Tryd.prog 25 #[.slice pa a.length ca, .slice pb b.length cb] w fun e w' => ∃ v, e = .returned (.tuple #[v, .int .i64 (combE a b)]) ∧ OwnS w w' v (combV (fun x y => x || y) a b) ∧ Ext w w' := by
  have hcon := combine_any (fun x y => x || y) 39 union1 (enters_of Tryd.func39 (by kernel_rfl) rfl) a b pa pb ca cb w ha hb hma hmb
  clear ha hb hma hmb
  go_enter Tryd.func25, Tryd.ntmps25
  go_wp2_with (go_at_call 38; refine hcon.mono ?_; rintro e w2 ⟨v, rfl, ho, hx⟩)
  go_ret2
  exact ⟨v, rfl, ho, hx⟩
def withinB (a b : List Sp) : Bool := validB (-1) a && validB (-1) b && (combV (fun x y => x && !y) a b).isEmpty
end
end Go.Proofs.YtalconpcpegmlaaDoor
