import Derived.Test.YtalconpcpegmlaaDoorProg
import Derived.Test.YtalconpcpegmlaaDoorLib
import Derived.Test.YtalconpcpegmlaaDoorSpanP
namespace Go.Proofs.YtalconpcpegmlaaDoor
open Go.RowKit

/-! ### span.right, annuitantref04.Right -/
set_option maxHeartbeats 400000 in
theorem right_any (f t : Int) (w : World) :
    Calls Tryd.prog 35 #[.agg #[.int .i64 f, .int .i64 t]] w fun e w' => e = .returned (.bool (rightB (f, t))) ∧ Ext w w' := by
  go_enter Tryd.func35, Tryd.ntmps35
  go_wp2
  all_goals
    go_ret
    refine ⟨ret_bool ?_, (Ext.refl w).alloc _⟩
    simp [rightB, *]
    try omega

/-! ### span.Valid -/
set_option maxHeartbeats 400000 in
theorem valid_any (l : List Sp) (p : Option Addr) (c : Nat) (w : World) (hl : Sl 2 enc2 w p l) (hm : l.length ≤ 9223372036854775807) :
    Calls Tryd.prog 22 #[.slice p l.length c] w fun e w' => e = .returned (.bool (validB (-1) l)) ∧ Ext w w' := by
  go_enter Tryd.func22, Tryd.ntmps22
  go_wp2
  go_loopw [3, 8] (fun e i wr => ∃ (k : Nat) (z : Int), k ≤ l.length ∧ i = .int .i64 k ∧ e = .int .i64 z ∧ Hid (validB (-1) l = validB z (l.drop k)) ∧ Ext w wr) (fun _ i _ => l.length - (intOf i).toNat)
  case atStart => exact ⟨0, -1, Nat.zero_le _, rfl, rfl, rfl, Ext.refl _⟩
  case round =>
    obtain ⟨k, z, hk, rfl, rfl, hv, hb⟩ := hrel
    by_cases hlt : k < l.length
    · obtain ⟨b, off, f, t, rfl, hbl, h0, h1, HD, _⟩ := (hl.ext hb).at2 k hlt
      clear hl
      go_wp2_with (go_at_call 35; refine (right_any _ _ _).mono ?_; rintro e w2 ⟨rfl, hb2⟩; obtain ⟨hc2, hf2⟩ := hb2.cells; have hB := (hb.alloc _).trans hb2)
      all_goals first
        | (go_ret
           refine ⟨ret_bool ?_, hB⟩
           rw [hv.out, HD.out, validB, if_pos (by simp_all)])
        | (go_roundw
           case rel => exact ⟨k + 1, t, by omega, by go_num, rfl, by (unfold Hid; rw [hv.out, HD.out, validB, if_neg (by simp_all)]), hB⟩
           case measure => simp [intOf]; omega)
    · go_wp2
      go_ret
      exact ⟨ret_bool (by rw [hv.out, drop_end hlt]; rfl), hb⟩

end Go.Proofs.YtalconpcpegmlaaDoor
