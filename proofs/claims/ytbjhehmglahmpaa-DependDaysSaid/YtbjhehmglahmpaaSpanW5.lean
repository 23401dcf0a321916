import Derived.Test.YtbjhehmglahmpaaSpanW4
import Derived.Test.YtbjhehmglahmpaaLibSort
import Derived.Test.YtbjhehmglahmpaaShelfSpan
import Derived.Shelf.SlSortCmp.NoneTotal
import Derived.Lib.SliceRun
namespace Go.Proofs.Ytbjhehmglahmpaa
open Go.RowKit Go.Shelf

/-! ### slices.Clone, slices.ContainsFunc at spans -/
set_option maxHeartbeats 400000 in
theorem clone_any (l : List Sp) (p : Option Addr) (c : Nat) (w : World) (hl : Sl 2 enc2 w p l) (hm : l.length ≤ 4398046511104) :
    Calls Try.prog 70 #[.slice p l.length c] w fun e w' => ∃ v, e = .returned v ∧ OwnS w w' v l ∧ Ext w w' := by
  have hnil := fun w a n c => Lib.run_eql_slice_nil (P := Try.prog) w 52 65 a n c 0 0 Try.underlying52
  cases p with
  | none =>
    obtain rfl := hl.of_none
    go_enter Try.func70, Try.ntmps70
    go_wp2
    go_ret
    exact ⟨_, rfl, Owns.nil, Ext.refl _⟩
  | some a =>
    have hl2 := hl.ext ((Ext.refl w).alloc (.cells #[] 65))
    clear hl
    go_enter Try.func70, Try.ntmps70
    go_wp2_with (at_builtin; refine wpList_append_many (w0 := w) rfl _ _ 52 65 16 _ enc2_len enc2_one (by decide) rfl Try.underlying52 infoSp rfl [] l (Owns.empty (Nat.le_refl _)) ((Ext.refl w).alloc _) a c rfl rfl hl2 (by simp; omega) (by simp; omega) ?_; intro v3 w3 hown3 hb3 _)
    go_ret
    exact ⟨_, rfl, hown3, hb3⟩
end Go.Proofs.Ytbjhehmglahmpaa
