import Derived.Test.YtalconpcpegmlaaDoorSpanW4
import Derived.Test.YtalconpcpegmlaaDoorLibSort
import Derived.Test.YtalconpcpegmlaaDoorShelfSpan
import Derived.Shelf.SlSortCmp.NoneTotal
import Derived.Lib.SliceRun
namespace Go.Proofs.YtalconpcpegmlaaDoor
open Go.RowKit Go.Shelf

/-! ### slices.Clone, slices.ContainsFunc at spans -/
set_option maxHeartbeats 400000 in
theorem clone_any (l : List Sp) (p : Option Addr) (c : Nat) (w : World) (hl : Sl 2 enc2 w p l) (hm : l.length ≤ 4398046511104) :
    Calls Tryd.prog 64 #[.slice p l.length c] w fun e w' => ∃ v, e = .returned v ∧ OwnS w w' v l ∧ Ext w w' := by
  have hnil := fun w a n c => Lib.run_eql_slice_nil (P := Tryd.prog) w 37 57 a n c 0 0 Tryd.underlying37
  cases p with
  | none =>
    obtain rfl := hl.of_none
    go_enter Tryd.func64, Tryd.ntmps64
    go_wp2
    go_ret
    exact ⟨_, rfl, Owns.nil, Ext.refl _⟩
  | some a =>
    have hl2 := hl.ext ((Ext.refl w).alloc (.cells #[] 57))
    clear hl
    go_enter Tryd.func64, Tryd.ntmps64
    go_wp2_with (at_builtin; refine wpList_append_many (w0 := w) rfl _ _ 37 57 16 _ enc2_len enc2_one (by decide) rfl Tryd.underlying37 infoSp rfl [] l (Owns.empty (Nat.le_refl _)) ((Ext.refl w).alloc _) a c rfl rfl hl2 (by simp; omega) (by simp; omega) ?_; intro v3 w3 hown3 hb3 _)
    go_ret
    exact ⟨_, rfl, hown3, hb3⟩
end Go.Proofs.YtalconpcpegmlaaDoor
