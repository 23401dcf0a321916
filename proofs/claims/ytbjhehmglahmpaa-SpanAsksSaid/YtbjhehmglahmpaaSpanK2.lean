import Derived.Test.YtbjhehmglahmpaaSpanK1
import Derived.Test.YtbjhehmglahmpaaLibQuiet
/- The kit's check that lent spans are as they were, walked. -/
namespace Go.Proofs.Ytbjhehmglahmpaa
open Go.RowKit

attribute [local go_sem] cell?_gr
set_option maxHeartbeats 1600000 in
set_option maxRecDepth 100000 in
theorem kept_any (l : List Sp) (p : Option Addr) (c g : Nat) (w : World) (hl : Sl 2 enc2 w p l) (hm : l.length ≤ 1000) (ho : Sl 2 enc2 w (some ⟨g, 0, none⟩) (l ++ marks 1 12)) :
    Calls Try.prog 61 #[.slice (some ⟨g, 0, none⟩) l.length (l.length + 12), .slice p l.length c] w fun e w' => e = .returned (.bool true) ∧ Ext w w' := by
  have hn := eqSp
  have hg := egSp
  have hL : (l ++ marks 1 12).length = l.length + 12 := by simp [marks_len]
  have HL := Lib.hid hL
  clear hL
  go_enter Try.func61, Try.ntmps61
  go_wp2_with fail
  go_loopw [6] (fun i wr => ∃ (k : Nat), k ≤ l.length + 12 ∧ i = .int .i64 k ∧ Ext w wr) (fun i _ => l.length + 12 - (intOf i).toNat)
  case atStart => exact ⟨0, by omega, rfl, Ext.refl _⟩
  case round =>
    obtain ⟨k, hk, rfl, hx⟩ := hrel
    by_cases hlt : k < l.length + 12
    · obtain ⟨gl, c0, c1⟩ := (ho.ext hx).at2b k (by rw [HL.out]; exact hlt)
      rw [Nat.zero_add] at c0 c1
      by_cases hkl : k < l.length
      · have hde : decide ((k : Int) < (l.length : Int)) = true := by simpa using hkl
        have hge : decide (l.length ≤ k) = false := decide_eq_false (by omega)
        have hge2 : decide (k < l.length) = true := decide_eq_true hkl
        have hkl2 : (k : Int) < (l.length : Int) := by omega
        obtain ⟨b, off, f, t, rfl, hbl, d0, d1, HD, HG⟩ := (hl.ext hx).at2 k hkl
        rw [List.getElem_append_left hkl, HG.out] at c0 c1
        dsimp only at c0 c1
        go_wp2_with fail
        refine wp_region_ext (by kernel_rfl) (by kernel_rfl) ?_
        repeat (go_big_quiet_step (fail))
        refine wpQuiet_nil ?_
        intro w2 hx2
        go_wp2_with fail
        go_roundw
        case rel => exact ⟨k + 1, by omega, by go_num, hx.trans hx2⟩
        case measure => simp [intOf]; omega
      · obtain ⟨m, rfl⟩ : ∃ m, k = l.length + m := ⟨k - l.length, by omega⟩
        rw [List.getElem_append_right (by omega), marks_at] at c0 c1
        dsimp only at c0 c1
        have e1 : (1000003 * (1 + 7) + ((l.length + m - l.length : Nat) : Int)) = 8000024 + (m : Int) := by omega
        rw [e1] at c0
        have hde : decide (((l.length : Int) + (m : Int)) < (l.length : Int)) = false := decide_eq_false (by omega)
        have hge : decide (((l.length : Int) + (m : Int)) ≥ (l.length : Int)) = true := decide_eq_true (by omega)
        have hw1 := IntWalk.i64_in ((l.length : Int) + (m : Int) - (l.length : Int)) (by omega)
        have HT : Hid (∀ x, Calls Try.prog 88 #[.int .i64 1, .int .i64 ((l.length : Int) + (m : Int) - (l.length : Int))] (gr wr x) fun e w'' => e = .returned (.agg #[.int .i64 (8000024 + (m : Int)), .int .i64 0]) ∧ ∃ y, w'' = gr wr y) := fun x => quiet_gr (markSpan_any 1 _ _ _ (by omega) (by omega) (by omega))
        go_wp2_with fail
        refine wp_region_ext (by kernel_rfl) (by kernel_rfl) ?_
        repeat (go_big_quiet_step (with_reducible exact HT.out _))
        refine wpQuiet_nil ?_
        intro w2 hx2
        go_wp2_with fail
        go_roundw
        case rel => exact ⟨l.length + m + 1, by omega, by go_num, hx.trans hx2⟩
        case measure => simp [intOf]; omega
    · obtain rfl : k = l.length + 12 := by omega
      go_wp2_with fail
      go_ret
      exact ⟨rfl, hx⟩
end Go.Proofs.Ytbjhehmglahmpaa
