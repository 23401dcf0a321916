import Derived.Test.YtalconpcpegmlaaDoorSpanWd
namespace Go.Proofs.YtalconpcpegmlaaDoor
open Go.RowKit

theorem make_ex : makeV [(5, 8), (3, 5), (9, 9)] = [(3, 8)] := by
  rw [← merge_unique (l := [(5, 8), (3, 5), (9, 9)]) (l' := [(3, 5), (5, 8), (9, 9)]) (by decide) (by decide) ⟨3, by simp [Asc]⟩]
  decide
/-! ### the calls, their results read as lists -/
def RdS (w w' : World) (r : List Sp) (en : Int) (e : Ending) : Prop := ∃ p c, e = .returned (.tuple #[.slice p r.length c, .int .i64 en]) ∧ Sl 2 enc2 w' p r ∧ Ext w w'
theorem RdS.of {w w' : World} {r r' : List Sp} {en en' : Int} {e : Ending} (h : ∃ v, e = .returned (.tuple #[v, .int .i64 en]) ∧ OwnS w w' v r ∧ Ext w w') (hr : r = r') (he : en = en') : RdS w w' r' en' e := by
  subst hr; subst he
  obtain ⟨v, he, ho, hx⟩ := h
  obtain ⟨p, c, rfl, hs⟩ := ho.read enc2_len
  exact ⟨p, c, he, hs, hx⟩
section
variable (a b r : List Sp) (en : Int) (pa pb : Option Addr) (ca cb : Nat) (w : World) (ha : Sl 2 enc2 w pa a) (hb : Sl 2 enc2 w pb b) (hma : a.length ≤ 1000000) (hmb : b.length ≤ 1000000)
theorem union_r (hr : combV (fun x y => x || y) a b = r) (he : combE a b = en) (ha : Sl 2 enc2 w pa a) (hb : Sl 2 enc2 w pb b) (hma : a.length ≤ 1000000) (hmb : b.length ≤ 1000000) : Calls Tryd.prog 25 #[.slice pa a.length ca, .slice pb b.length cb] w fun e w' => RdS w w' r en e :=
  (union_any a b pa pb ca cb w ha hb hma hmb).mono fun _ _ h => RdS.of h hr he
theorem make_r (hr : makeV a = r) (he : makeE a = en) (ha : Sl 2 enc2 w pa a) (hma : a.length ≤ 1000000) : Calls Tryd.prog 65 #[.slice pa a.length ca] w fun e w' => RdS w w' r en e :=
  (make_any a pa ca w ha (by omega)).mono fun _ _ h => RdS.of h hr he
theorem valid_r (x : Bool) (hr : validB (-1) a = x) (ha : Sl 2 enc2 w pa a) (hma : a.length ≤ 1000000) : Calls Tryd.prog 22 #[.slice pa a.length ca] w fun e w' => e = .returned (.bool x) ∧ Ext w w' :=
  (valid_any a pa ca w ha (by omega)).mono fun _ _ ⟨h1, h2⟩ => ⟨by rw [h1, hr], h2⟩
theorem has_r (day : Int) (x : Bool) (hr : (validB (-1) a && memB day a) = x) (ha : Sl 2 enc2 w pa a) (hma : a.length ≤ 1000000) : Calls Tryd.prog 34 #[.slice pa a.length ca, .int .i64 day] w fun e w' => e = .returned (.bool x) ∧ Ext w w' :=
  (has_any a day pa ca w ha (by omega)).mono fun _ _ ⟨h1, h2⟩ => ⟨by rw [h1, hr], h2⟩
theorem same_r (x : Bool) (hr : sameB a b = x) (ha : Sl 2 enc2 w pa a) (hb : Sl 2 enc2 w pb b) (hma : a.length ≤ 1000000) : Calls Tryd.prog 30 #[.slice pa a.length ca, .slice pb b.length cb] w fun e w' => e = .returned (.bool x) ∧ Ext w w' :=
  (same_any a b pa pb ca cb w ha hb (by omega)).mono fun _ _ ⟨h1, h2⟩ => ⟨by rw [h1, hr], h2⟩
end
end Go.Proofs.YtalconpcpegmlaaDoor
