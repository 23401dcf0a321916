import Derived.Test.YtbjhehmglahmpaaSpanR0
import Derived.Test.YtbjhehmglahmpaaLibQuiet
/- The reference for spans, walked: Valid. -/
namespace Go.Proofs.Ytbjhehmglahmpaa
open Go.RowKit

attribute [local go_sem] cell?_gr
set_option maxHeartbeats 1600000 in
set_option maxRecDepth 100000 in
theorem rvalid_any (l : List Sp) (p : Option Addr) (c : Nat) (w : World) (hl : Sl 2 enc2 w p l) (hm : l.length ≤ 1000000) :
    Calls Try.prog 60 #[.slice p l.length c] w fun e w' => e = .returned (.bool (validB (-1) l)) ∧ Ext w w' := by
  go_enter Try.func60, Try.ntmps60
  go_wp2_with fail
  go_loopw [3] (fun i wr => ∃ (k : Nat) (z : Int), k ≤ l.length ∧ i = .int .i64 k ∧ Hid (validB (-1) l = validB z (l.drop k)) ∧ Hid (k = 0 → z = -1) ∧ Hid (∀ m (h : m < l.length), k = m + 1 → z = (l[m]).2) ∧ Ext w wr) (fun i _ => l.length - (intOf i).toNat)
  case atStart => exact ⟨0, -1, by omega, rfl, rfl, fun _ => rfl, (fun m h e => by omega), Ext.refl _⟩
  case round =>
    obtain ⟨k, z, hk, rfl, HA, H0, HS, hx⟩ := hrel
    by_cases hlt : k < l.length
    · have hde : decide ((k : Int) < (l.length : Int)) = true := by simpa using hlt
      have hlt2 : (k : Int) < (l.length : Int) := by omega
      obtain ⟨b, off, f, t, rfl, hbl, c0, c1, HD, HG⟩ := (hl.ext hx).at2 k hlt
      have HS2 : Hid (∀ m (h : m < l.length), k + 1 = m + 1 → t = (l[m]).2) := by
        intro m h e
        obtain rfl : m = k := by omega
        rw [HG.out]
      obtain ⟨y, hy⟩ : ∃ y, rightB (f, t) = y := ⟨_, rfl⟩
      have HY := Lib.hid hy
      have HT : Hid (∀ x, Calls Try.prog 89 #[.agg #[.int .i64 f, .int .i64 t]] (gr wr x) fun e w'' => e = .returned (.bool y) ∧ ∃ y, w'' = gr wr y) := fun x => hy ▸ quiet_gr (rright_any f t _)
      clear hy
      cases y with
      | false =>
        have HB : Hid (rightB (f, t) = false ∨ (f, t).1 = (f, t).2 ∨ (f, t).1 ≤ z) := .inl HY.out
        go_wp2_with fail
        refine wp_region_ext (by kernel_rfl) (by kernel_rfl) ?_
        repeat (go_big_quiet_step (first | (with_reducible exact HT.out _)))
        refine wpQuiet_nil ?_
        intro w2 hx2
        go_wp2_with fail
        go_ret
        exact ⟨ret_bool (by rw [HA.out, HD.out, validB, if_pos HB.out]), hx.trans hx2⟩
      | true =>
        have hr := (rightB_iff _).1 HY.out
        dsimp only at hr
        by_cases hft : f = t
        · have HB : Hid (rightB (f, t) = false ∨ (f, t).1 = (f, t).2 ∨ (f, t).1 ≤ z) := .inr (.inl hft)
          have heq : (f == t) = true := by simpa using hft
          have heq2 : decide (f = t) = true := by simpa using hft
          clear hft
          go_wp2_with fail
          refine wp_region_ext (by kernel_rfl) (by kernel_rfl) ?_
          repeat (go_big_quiet_step (first | (with_reducible exact HT.out _)))
          refine wpQuiet_nil ?_
          intro w2 hx2
          go_wp2_with fail
          go_ret
          exact ⟨ret_bool (by rw [HA.out, HD.out, validB, if_pos HB.out]), hx.trans hx2⟩
        · have heq : (f == t) = false := by simpa using hft
          have heq2 : decide (f = t) = false := by simpa using hft
          have HFT := Lib.hid hft
          clear hft
          by_cases h0 : k = 0
          · subst h0
            simp only [Nat.zero_mul, Nat.add_zero] at c0 c1
            have HB : Hid (¬ (rightB (f, t) = false ∨ (f, t).1 = (f, t).2 ∨ (f, t).1 ≤ z)) := by
              have h1 := H0.out rfl
              have h2 := HFT.out
              rintro (h | h | h)
              · rw [HY.out] at h; exact Bool.noConfusion h
              · exact h2 h
              · dsimp only at h; omega
            have HZ : Hid (validB (-1) l = validB t (l.drop (0 + 1))) := by unfold Hid; rw [HA.out, HD.out, validB, if_neg HB.out]
            go_wp2_with fail
            refine wp_region_ext (by kernel_rfl) (by kernel_rfl) ?_
            repeat (go_big_quiet_step (first | (with_reducible exact HT.out _)))
            refine wpQuiet_nil ?_
            intro w2 hx2
            go_wp2_with fail
            go_roundw
            case rel => exact ⟨1, t, by omega, by go_num, HZ, (fun h => by omega), HS2, hx.trans hx2⟩
            case measure => simp [intOf]; omega
          · obtain ⟨m, rfl⟩ : ∃ m, k = m + 1 := ⟨k - 1, by omega⟩
            have hw1 := IntWalk.i64_in (m : Int) (by omega)
            have hp0 : (m : Int) + 1 > 0 := by omega
            obtain ⟨_, d0, d1⟩ := (hl.ext hx).at2b m (by omega)
            have hz := HS.out m (by omega) rfl
            rw [← hz] at d1
            have HZ2 := Lib.hid hz
            clear hz
            by_cases hzf : z ≥ f
            · have HB : Hid (rightB (f, t) = false ∨ (f, t).1 = (f, t).2 ∨ (f, t).1 ≤ z) := .inr (.inr hzf)
              have hde3 : decide (z ≥ f) = true := by simpa using hzf
              go_wp2_with fail
              refine wp_region_ext (by kernel_rfl) (by kernel_rfl) ?_
              repeat (go_big_quiet_step (first | (with_reducible exact HT.out _)))
              refine wpQuiet_nil ?_
              intro w2 hx2
              go_wp2_with fail
              go_ret
              exact ⟨ret_bool (by rw [HA.out, HD.out, validB, if_pos HB.out]), hx.trans hx2⟩
            · have HB : Hid (¬ (rightB (f, t) = false ∨ (f, t).1 = (f, t).2 ∨ (f, t).1 ≤ z)) := by
                have h2 := HFT.out
                rintro (h | h | h)
                · rw [HY.out] at h; exact Bool.noConfusion h
                · exact h2 h
                · exact hzf h
              have HZ : Hid (validB (-1) l = validB t (l.drop (m + 1 + 1))) := by unfold Hid; rw [HA.out, HD.out, validB, if_neg HB.out]
              have hde3 : decide (z ≥ f) = false := by simpa using hzf
              go_wp2_with fail
              refine wp_region_ext (by kernel_rfl) (by kernel_rfl) ?_
              repeat (go_big_quiet_step (first | (with_reducible exact HT.out _)))
              refine wpQuiet_nil ?_
              intro w2 hx2
              go_wp2_with fail
              go_roundw
              case rel => exact ⟨m + 1 + 1, t, by omega, by go_num, HZ, (fun h => by omega), HS2, hx.trans hx2⟩
              case measure => simp [intOf]; omega
    · have hde : decide ((k : Int) < (l.length : Int)) = false := by simpa using hlt
      go_wp2_with fail
      go_ret
      exact ⟨ret_bool (by rw [HA.out, drop_end hlt]; rfl), hx⟩
end Go.Proofs.Ytbjhehmglahmpaa
