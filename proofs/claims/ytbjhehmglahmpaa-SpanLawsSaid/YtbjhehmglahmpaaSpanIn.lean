import Derived.Test.YtbjhehmglahmpaaSpanWe
/- The law's own 'in', walked. -/
namespace Go.Proofs.Ytbjhehmglahmpaa
open Go.RowKit

/-! ### annuitantlaw04.in -/
set_option maxHeartbeats 400000 in
theorem in_any (l : List Sp) (day : Int) (p : Option Addr) (c : Nat) (w : World) (hl : Sl 2 enc2 w p l) (hm : l.length ≤ 9223372036854775807) :
    Calls Try.prog 36 #[.slice p l.length c, .int .i64 day] w fun e w' => e = .returned (.bool (memB day l)) ∧ w = w' := by
  go_enter Try.func36, Try.ntmps36
  go_wp2
  go_loop [5] (fun i => ∃ (k : Nat), k ≤ l.length ∧ i = .int .i64 k ∧ Hid (memB day l = memB day (l.drop k))) (fun i => l.length - (intOf i).toNat)
  case atStart => exact ⟨0, Nat.zero_le _, rfl, rfl⟩
  case round =>
    obtain ⟨k, hk, rfl, hv⟩ := hrel
    by_cases hlt : k < l.length
    · obtain ⟨b, off, f, t, rfl, hbl, h0, h1, HD, _⟩ := hl.at2 k hlt
      clear hl
      go_wp2
      all_goals first
        | (go_ret
           refine ⟨ret_bool ?_, rfl⟩
           rw [hv.out, HD.out, memB_cons, (inS_iff day (f, t)).2 (by simp_all)]; rfl)
        | (go_round
           case rel => exact ⟨k + 1, by omega, by go_num, by (unfold Hid; rw [hv.out, HD.out, memB_cons, (inS_false day (f, t)).2 (by simp_all <;> omega)]; rfl)⟩
           case measure => simp [intOf]; omega)
    · go_wp2
      go_ret
      exact ⟨ret_bool (by rw [hv.out, drop_end hlt]; rfl), rfl⟩
section
variable (a : List Sp) (pa : Option Addr) (ca : Nat) (w : World)
theorem in_r (day : Int) (x : Bool) (hr : memB day a = x) (ha : Sl 2 enc2 w pa a) (hma : a.length ≤ 1000000) : Calls Try.prog 36 #[.slice pa a.length ca, .int .i64 day] w fun e w' => e = .returned (.bool x) ∧ w = w' :=
  (in_any a day pa ca w ha (by omega)).mono fun _ _ ⟨h1, h2⟩ => ⟨by rw [h1, hr], h2⟩
end
end Go.Proofs.Ytbjhehmglahmpaa
