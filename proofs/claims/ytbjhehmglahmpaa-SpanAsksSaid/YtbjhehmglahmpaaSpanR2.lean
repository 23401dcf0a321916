import Derived.Test.YtbjhehmglahmpaaSpanR1
/- The reference for spans, walked: Make. -/
namespace Go.Proofs.Ytbjhehmglahmpaa
open Go.RowKit

set_option maxHeartbeats 1600000 in
theorem rmake_any (l : List Sp) (p : Option Addr) (c : Nat) (w : World) (hl : Sl 2 enc2 w p l) (hm : l.length ≤ 1000000) :
    Calls Try.prog 59 #[.slice p l.length c] w fun e w' => ∃ v, e = .returned (.tuple #[v, .int .i64 (makeE l)]) ∧ OwnS w w' v (makeV l) ∧ Ext w w' := by
  obtain ⟨N, HN⟩ : ∃ N, Hid (N = 65536) := ⟨65536, rfl⟩
  go_enter Try.func59, Try.ntmps59
  go_wp2_with fail
  go_loopw [4] (fun i wr => ∃ (k : Nat), k ≤ l.length ∧ i = .int .i64 k ∧ Hid (l.all rightB = (l.drop k).all rightB) ∧ Ext w wr) (fun i _ => l.length - (intOf i).toNat)
  case atStart => exact ⟨0, by omega, rfl, rfl, Ext.refl _⟩
  case round =>
    obtain ⟨k, hk, rfl, HA, hx⟩ := hrel
    by_cases hlt : k < l.length
    · have hde : decide ((k : Int) < (l.length : Int)) = true := by simpa using hlt
      obtain ⟨b, off, f, t, rfl, hbl, c0, c1, HD, HG⟩ := (hl.ext hx).at2 k hlt
      obtain ⟨y, hy⟩ : ∃ y, rightB (f, t) = y := ⟨_, rfl⟩
      have HY := Lib.hid hy
      clear hy
      go_wp2_with fail
      refine (rright_any f t _).mono ?_
      rintro e w2 ⟨he, hx2⟩
      rw [HY.out] at he
      subst he
      cases y with
      | false =>
        have e1 : l.all rightB = false := by rw [HA.out, HD.out, List.all_cons, HY.out]; rfl
        have ev : Hid (makeV l = [] ∧ makeE l = 2) := by unfold Hid makeV makeE; rw [e1]; exact ⟨rfl, rfl⟩
        clear e1
        go_wp2_with fail
        go_ret2
        rw [ev.out.2, ev.out.1]
        exact ⟨_, rfl, Owns.nil, hx.trans hx2⟩
      | true =>
        go_wp2_with fail
        go_roundw
        case rel => exact ⟨k + 1, by omega, by go_num, (by unfold Hid; rw [HA.out, HD.out, List.all_cons, HY.out]; rfl), hx.trans hx2⟩
        case measure => simp [intOf]; omega
    · have hde : decide ((k : Int) < (l.length : Int)) = false := by simpa using hlt
      have e1 : l.all rightB = true := by rw [HA.out, List.drop_of_length_le (by omega)]; rfl
      have HR := Lib.hid e1
      have ev : Hid (makeV l = runs (fun d => memB d l) N ∧ makeE l = 0) := by unfold Hid; rw [HN.out, runs_make e1]; unfold makeE; rw [if_pos e1]; exact ⟨rfl, rfl⟩
      clear e1 HA
      go_wp2_with fail
      refine (marks_any l p _ _ (hl.ext hx) hm HR.out).mono ?_
      rintro e w2 ⟨g, rfl, hrow, _, hx2⟩
      go_wp2_with fail
      refine (rset_any N g _ w2 HN hrow).mono ?_
      rintro e w3 ⟨v, rfl, hown, hx3⟩
      go_wp2_with fail
      go_ret2
      rw [ev.out.2, ev.out.1]
      exact ⟨v, rfl, Owns.mono hown (hx.trans hx2).size, (hx.trans hx2).trans hx3⟩
end Go.Proofs.Ytbjhehmglahmpaa
