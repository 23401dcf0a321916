import Derived.Test.YtbjhehmglahmpaaSpanWf
import Derived.Test.YtbjhehmglahmpaaSpanAw
import Derived.Test.YtbjhehmglahmpaaSpanQ
namespace Go.Proofs.Ytbjhehmglahmpaa
open Go.RowKit

/-! ### annuitantkit.Pick -/
set_option maxHeartbeats 400000 in
theorem pick_any (x n : Int) (w : World) (h1 : 1 ≤ n) (h2 : n ≤ 9223372036854775807) :
    Calls Try.prog 38 #[.int .i64 x, .int .i64 n] w fun e w' => (∃ m, e = .returned (.int .i64 m) ∧ 0 ≤ m ∧ m < n) ∧ Ext w w' := by
  have hlo := Int.lt_tmod_of_pos x (show (0 : Int) < n by omega)
  have hhi := Int.tmod_lt_of_pos x (show (0 : Int) < n by omega)
  have hwr := IntWalk.i64_in (x.tmod n) (by omega)
  by_cases hp : x.tmod n < 0
  · have hw2 := IntWalk.i64_in (x.tmod n + n) (by omega)
    have HH := Lib.hid (show 0 ≤ x.tmod n + n ∧ x.tmod n + n < n by omega)
    go_enter Try.func38, Try.ntmps38
    go_wp2
    go_ret
    exact ⟨⟨_, rfl, HH.out.1, HH.out.2⟩, Ext.refl w⟩
  · have HH := Lib.hid (show 0 ≤ x.tmod n ∧ x.tmod n < n by omega)
    go_enter Try.func38, Try.ntmps38
    go_wp2
    go_ret
    exact ⟨⟨_, rfl, HH.out.1, HH.out.2⟩, Ext.refl w⟩
/-! ### the law -/
set_option maxHeartbeats 16000000 in
set_option maxRecDepth 100000 in
theorem spanNumbers_any (l : List Int) (n day : Int) (p : Option Addr) (c : Nat) (w : World) (hl : Sl 1 encU w p l) (hm : l.length ≤ 9223372036854775807) (hu : ∀ x ∈ l, 0 ≤ x ∧ x ≤ 65535) :
    Calls Try.prog 9 #[.slice p l.length c, .int .i64 n, .int .i64 day] w fun e w' => e = .returned (.bool true) ∧ Ext w w' := by
  go_enter Try.func9, Try.ntmps9
  go_wp2_with fail
  refine (awake04 _).mono ?_
  rintro e wN ⟨rfl, hx⟩
  go_wp2_with fail
  refine (built_any l p c _ (hl.ext hx) hm hu).mono ?_
  rintro e wN ⟨q, d, xs, rfl, hs, hok, h60, hN⟩
  replace hx := hx.trans hN
  clear hN hl hu hm
  have hv : validB (-1) xs = true := (validB_iff _ _).2 hok
  have hlen : xs.length ≤ 1000000 := by omega
  have hb : ∀ day, beforeV xs day = beforeS xs day := fun day => by unfold beforeV; rw [if_pos hv]
  have hall0 := before_nonneg 65536 hok
  have hall1 := before_le 65536 (by omega) (by omega) hok
  have HOK := Lib.hid hok
  have HV := Lib.hid hv
  obtain ⟨all, HA⟩ : ∃ all, Hid (beforeS xs 65536 = all) := ⟨_, rfl⟩
  rw [HA.out] at hall0 hall1
  have HB := Lib.hid hb
  clear hok hv hb
  go_wp2_with fail
  refine (days_r xs q d _ all (by rw [HB.out, HA.out]) hs hlen).mono ?_
  rintro e wN ⟨rfl, hN⟩
  replace hs := hs.ext hN
  replace hx := hx.trans hN
  clear hN
  go_wp2_with fail
  refine (pick_any n (all + 2) _ (by omega) (by omega)).mono ?_
  rintro e wN ⟨⟨m, rfl, hm0, hm1⟩, hN⟩
  replace hs := hs.ext hN
  replace hx := hx.trans hN
  clear hN
  have n6 : ∀ day, beforeS xs day ≤ 9223372036854775807 := fun day => by have := before_le day (by omega) (by omega) HOK.out; omega
  have N6 := Lib.hid n6
  have hb0 := before_nonneg day HOK.out
  have HNV : Hid (∀ k, 0 ≤ k → nthV xs k = nthS xs k) := fun k hk => by unfold nthV; rw [if_pos ⟨HV.out, hk⟩]
  obtain ⟨bd, HBD⟩ : ∃ bd, Hid (beforeS xs day = bd) := ⟨_, rfl⟩
  rw [HBD.out] at hb0
  have hbd6 : bd ≤ 9223372036854775807 := by rw [← HBD.out]; exact n6 day
  clear n6
  have HT : Hid (∃ x was has, nthV xs bd = (x, was) ∧ (validB (-1) xs && memB day xs) = has ∧ (has = true ∧ was = true ∧ x = day ∨ has = false ∧ was = true ∧ day ≤ x ∨ has = false ∧ was = false)) := by
    unfold Hid
    rw [HV.out, Bool.true_and, HNV.out bd hb0]
    cases hmem : memB day xs with
    | true =>
      have := nth_mem HOK.out hmem
      rw [HBD.out] at this
      exact ⟨day, true, true, this, rfl, .inl ⟨rfl, rfl, rfl⟩⟩
    | false =>
      cases hnn : nthS xs bd with | mk x was =>
      cases was with
      | true => exact ⟨x, true, false, rfl, rfl, .inr (.inl ⟨rfl, rfl, nth_ge HOK.out (by rw [HBD.out]; exact hnn)⟩)⟩
      | false => exact ⟨x, false, false, rfl, rfl, .inr (.inr ⟨rfl, rfl⟩)⟩
  obtain ⟨x, was, has, hT1, hT2, hT3⟩ := HT.out
  have HT1 := Lib.hid hT1
  have HT2 := Lib.hid hT2
  clear hT1 hT2
  have H0 : Hid (beforeV xs 0 = 0 ∧ beforeV xs 65536 = all ∧ beforeV xs (-9223372036854775808) = 0 ∧ beforeV xs 9223372036854775807 = all) := by
    unfold Hid
    rw [HB.out, HB.out, HB.out, HB.out, HA.out, before_neg HOK.out (by omega), before_neg HOK.out (by omega), before_big HOK.out (by omega), HA.out]
    exact ⟨rfl, rfl, rfl, rfl⟩
  have HM1 : Hid (nthV xs (-1) = (0, false)) := by unfold Hid nthV; rw [if_neg (fun h => by omega)]
  by_cases hma : m < all
  · have HN : Hid (∃ d0, nthV xs m = (d0, true) ∧ (validB (-1) xs && memB d0 xs) = true ∧ beforeV xs d0 = m) := by
      obtain ⟨d0, g1, g2, g3⟩ := nth_yes HOK.out hm0 (by rw [HA.out]; exact hma)
      exact ⟨d0, by rw [HNV.out m hm0]; exact g1, by rw [HV.out, g2]; rfl, by rw [HB.out]; exact g3⟩
    obtain ⟨d0, hn1, hn2, hn3⟩ := HN.out
    have HN1 := Lib.hid hn1
    have HN2 := Lib.hid hn2
    have HN3 := Lib.hid hn3
    have hde : decide (m < all) = true := by simpa using hma
    clear hn1 hn2 hn3
    rcases hT3 with ⟨rfl, rfl, hxd⟩ | ⟨rfl, rfl, hxd⟩ | ⟨rfl, rfl⟩
    · subst hxd
      go_wp2_with fail
      refine (nth_r xs q d _ m d0 true HN1.out (by omega) hs hlen).mono ?_
      rintro e wN ⟨rfl, hN⟩
      replace hs := hs.ext hN
      replace hx := hx.trans hN
      clear hN
      go_wp2_with fail
      refine (before_r xs q d _ m d0 HN3.out hs hlen).mono ?_
      rintro e wN ⟨rfl, hN⟩
      replace hs := hs.ext hN
      replace hx := hx.trans hN
      clear hN
      go_wp2_with fail
      refine (has_r xs q d _ d0 true HN2.out hs hlen).mono ?_
      rintro e wN ⟨rfl, hN⟩
      replace hs := hs.ext hN
      replace hx := hx.trans hN
      clear hN
      go_wp2_with fail
      refine (before_r xs q d _ bd _ (by rw [HB.out, HBD.out]) hs hlen).mono ?_
      rintro e wN ⟨rfl, hN⟩
      replace hs := hs.ext hN
      replace hx := hx.trans hN
      clear hN
      go_wp2_with fail
      refine (nth_r xs q d _ bd _ true HT1.out (by omega) hs hlen).mono ?_
      rintro e wN ⟨rfl, hN⟩
      replace hs := hs.ext hN
      replace hx := hx.trans hN
      clear hN
      go_wp2_with fail
      refine (has_r xs q d _ _ true HT2.out hs hlen).mono ?_
      rintro e wN ⟨rfl, hN⟩
      replace hs := hs.ext hN
      replace hx := hx.trans hN
      clear hN
      go_wp2_with fail
      refine (nth_r xs q d _ (-1) 0 false HM1.out (by omega) hs hlen).mono ?_
      rintro e wN ⟨rfl, hN⟩
      replace hs := hs.ext hN
      replace hx := hx.trans hN
      clear hN
      go_wp2_with fail
      refine (before_r xs q d _ 0 0 H0.out.1 hs hlen).mono ?_
      rintro e wN ⟨rfl, hN⟩
      replace hs := hs.ext hN
      replace hx := hx.trans hN
      clear hN
      go_wp2_with fail
      refine (before_r xs q d _ all 65536 H0.out.2.1 hs hlen).mono ?_
      rintro e wN ⟨rfl, hN⟩
      replace hs := hs.ext hN
      replace hx := hx.trans hN
      clear hN
      go_wp2_with fail
      refine (before_r xs q d _ 0 (-9223372036854775808) H0.out.2.2.1 hs hlen).mono ?_
      rintro e wN ⟨rfl, hN⟩
      replace hs := hs.ext hN
      replace hx := hx.trans hN
      clear hN
      go_wp2_with fail
      refine (before_r xs q d _ all 9223372036854775807 H0.out.2.2.2 hs hlen).mono ?_
      rintro e wN ⟨rfl, hN⟩
      replace hs := hs.ext hN
      replace hx := hx.trans hN
      clear hN
      go_wp2_with fail
      go_ret
      exact ⟨rfl, hx⟩
    · have hx2 : ¬ x < day := by omega
      go_wp2_with fail
      refine (nth_r xs q d _ m d0 true HN1.out (by omega) hs hlen).mono ?_
      rintro e wN ⟨rfl, hN⟩
      replace hs := hs.ext hN
      replace hx := hx.trans hN
      clear hN
      go_wp2_with fail
      refine (before_r xs q d _ m d0 HN3.out hs hlen).mono ?_
      rintro e wN ⟨rfl, hN⟩
      replace hs := hs.ext hN
      replace hx := hx.trans hN
      clear hN
      go_wp2_with fail
      refine (has_r xs q d _ d0 true HN2.out hs hlen).mono ?_
      rintro e wN ⟨rfl, hN⟩
      replace hs := hs.ext hN
      replace hx := hx.trans hN
      clear hN
      go_wp2_with fail
      refine (before_r xs q d _ bd _ (by rw [HB.out, HBD.out]) hs hlen).mono ?_
      rintro e wN ⟨rfl, hN⟩
      replace hs := hs.ext hN
      replace hx := hx.trans hN
      clear hN
      go_wp2_with fail
      refine (nth_r xs q d _ bd _ true HT1.out (by omega) hs hlen).mono ?_
      rintro e wN ⟨rfl, hN⟩
      replace hs := hs.ext hN
      replace hx := hx.trans hN
      clear hN
      go_wp2_with fail
      refine (has_r xs q d _ _ false HT2.out hs hlen).mono ?_
      rintro e wN ⟨rfl, hN⟩
      replace hs := hs.ext hN
      replace hx := hx.trans hN
      clear hN
      go_wp2_with fail
      refine (nth_r xs q d _ (-1) 0 false HM1.out (by omega) hs hlen).mono ?_
      rintro e wN ⟨rfl, hN⟩
      replace hs := hs.ext hN
      replace hx := hx.trans hN
      clear hN
      go_wp2_with fail
      refine (before_r xs q d _ 0 0 H0.out.1 hs hlen).mono ?_
      rintro e wN ⟨rfl, hN⟩
      replace hs := hs.ext hN
      replace hx := hx.trans hN
      clear hN
      go_wp2_with fail
      refine (before_r xs q d _ all 65536 H0.out.2.1 hs hlen).mono ?_
      rintro e wN ⟨rfl, hN⟩
      replace hs := hs.ext hN
      replace hx := hx.trans hN
      clear hN
      go_wp2_with fail
      refine (before_r xs q d _ 0 (-9223372036854775808) H0.out.2.2.1 hs hlen).mono ?_
      rintro e wN ⟨rfl, hN⟩
      replace hs := hs.ext hN
      replace hx := hx.trans hN
      clear hN
      go_wp2_with fail
      refine (before_r xs q d _ all 9223372036854775807 H0.out.2.2.2 hs hlen).mono ?_
      rintro e wN ⟨rfl, hN⟩
      replace hs := hs.ext hN
      replace hx := hx.trans hN
      clear hN
      go_wp2_with fail
      go_ret
      exact ⟨rfl, hx⟩
    · skip
      go_wp2_with fail
      refine (nth_r xs q d _ m d0 true HN1.out (by omega) hs hlen).mono ?_
      rintro e wN ⟨rfl, hN⟩
      replace hs := hs.ext hN
      replace hx := hx.trans hN
      clear hN
      go_wp2_with fail
      refine (before_r xs q d _ m d0 HN3.out hs hlen).mono ?_
      rintro e wN ⟨rfl, hN⟩
      replace hs := hs.ext hN
      replace hx := hx.trans hN
      clear hN
      go_wp2_with fail
      refine (has_r xs q d _ d0 true HN2.out hs hlen).mono ?_
      rintro e wN ⟨rfl, hN⟩
      replace hs := hs.ext hN
      replace hx := hx.trans hN
      clear hN
      go_wp2_with fail
      refine (before_r xs q d _ bd _ (by rw [HB.out, HBD.out]) hs hlen).mono ?_
      rintro e wN ⟨rfl, hN⟩
      replace hs := hs.ext hN
      replace hx := hx.trans hN
      clear hN
      go_wp2_with fail
      refine (nth_r xs q d _ bd _ false HT1.out (by omega) hs hlen).mono ?_
      rintro e wN ⟨rfl, hN⟩
      replace hs := hs.ext hN
      replace hx := hx.trans hN
      clear hN
      go_wp2_with fail
      refine (has_r xs q d _ _ false HT2.out hs hlen).mono ?_
      rintro e wN ⟨rfl, hN⟩
      replace hs := hs.ext hN
      replace hx := hx.trans hN
      clear hN
      go_wp2_with fail
      refine (nth_r xs q d _ (-1) 0 false HM1.out (by omega) hs hlen).mono ?_
      rintro e wN ⟨rfl, hN⟩
      replace hs := hs.ext hN
      replace hx := hx.trans hN
      clear hN
      go_wp2_with fail
      refine (before_r xs q d _ 0 0 H0.out.1 hs hlen).mono ?_
      rintro e wN ⟨rfl, hN⟩
      replace hs := hs.ext hN
      replace hx := hx.trans hN
      clear hN
      go_wp2_with fail
      refine (before_r xs q d _ all 65536 H0.out.2.1 hs hlen).mono ?_
      rintro e wN ⟨rfl, hN⟩
      replace hs := hs.ext hN
      replace hx := hx.trans hN
      clear hN
      go_wp2_with fail
      refine (before_r xs q d _ 0 (-9223372036854775808) H0.out.2.2.1 hs hlen).mono ?_
      rintro e wN ⟨rfl, hN⟩
      replace hs := hs.ext hN
      replace hx := hx.trans hN
      clear hN
      go_wp2_with fail
      refine (before_r xs q d _ all 9223372036854775807 H0.out.2.2.2 hs hlen).mono ?_
      rintro e wN ⟨rfl, hN⟩
      replace hs := hs.ext hN
      replace hx := hx.trans hN
      clear hN
      go_wp2_with fail
      go_ret
      exact ⟨rfl, hx⟩
  · have HN1 : Hid (nthV xs m = (0, false)) := by unfold Hid; rw [HNV.out m hm0]; exact nth_no HOK.out hm0 (by rw [HA.out]; omega)
    have hde : decide (m < all) = false := by simpa using hma
    rcases hT3 with ⟨rfl, rfl, hxd⟩ | ⟨rfl, rfl, hxd⟩ | ⟨rfl, rfl⟩
    · subst hxd
      go_wp2_with fail
      refine (nth_r xs q d _ m 0 false HN1.out (by omega) hs hlen).mono ?_
      rintro e wN ⟨rfl, hN⟩
      replace hs := hs.ext hN
      replace hx := hx.trans hN
      clear hN
      go_wp2_with fail
      refine (before_r xs q d _ bd _ (by rw [HB.out, HBD.out]) hs hlen).mono ?_
      rintro e wN ⟨rfl, hN⟩
      replace hs := hs.ext hN
      replace hx := hx.trans hN
      clear hN
      go_wp2_with fail
      refine (nth_r xs q d _ bd _ true HT1.out (by omega) hs hlen).mono ?_
      rintro e wN ⟨rfl, hN⟩
      replace hs := hs.ext hN
      replace hx := hx.trans hN
      clear hN
      go_wp2_with fail
      refine (has_r xs q d _ _ true HT2.out hs hlen).mono ?_
      rintro e wN ⟨rfl, hN⟩
      replace hs := hs.ext hN
      replace hx := hx.trans hN
      clear hN
      go_wp2_with fail
      refine (nth_r xs q d _ (-1) 0 false HM1.out (by omega) hs hlen).mono ?_
      rintro e wN ⟨rfl, hN⟩
      replace hs := hs.ext hN
      replace hx := hx.trans hN
      clear hN
      go_wp2_with fail
      refine (before_r xs q d _ 0 0 H0.out.1 hs hlen).mono ?_
      rintro e wN ⟨rfl, hN⟩
      replace hs := hs.ext hN
      replace hx := hx.trans hN
      clear hN
      go_wp2_with fail
      refine (before_r xs q d _ all 65536 H0.out.2.1 hs hlen).mono ?_
      rintro e wN ⟨rfl, hN⟩
      replace hs := hs.ext hN
      replace hx := hx.trans hN
      clear hN
      go_wp2_with fail
      refine (before_r xs q d _ 0 (-9223372036854775808) H0.out.2.2.1 hs hlen).mono ?_
      rintro e wN ⟨rfl, hN⟩
      replace hs := hs.ext hN
      replace hx := hx.trans hN
      clear hN
      go_wp2_with fail
      refine (before_r xs q d _ all 9223372036854775807 H0.out.2.2.2 hs hlen).mono ?_
      rintro e wN ⟨rfl, hN⟩
      replace hs := hs.ext hN
      replace hx := hx.trans hN
      clear hN
      go_wp2_with fail
      go_ret
      exact ⟨rfl, hx⟩
    · have hx2 : ¬ x < day := by omega
      go_wp2_with fail
      refine (nth_r xs q d _ m 0 false HN1.out (by omega) hs hlen).mono ?_
      rintro e wN ⟨rfl, hN⟩
      replace hs := hs.ext hN
      replace hx := hx.trans hN
      clear hN
      go_wp2_with fail
      refine (before_r xs q d _ bd _ (by rw [HB.out, HBD.out]) hs hlen).mono ?_
      rintro e wN ⟨rfl, hN⟩
      replace hs := hs.ext hN
      replace hx := hx.trans hN
      clear hN
      go_wp2_with fail
      refine (nth_r xs q d _ bd _ true HT1.out (by omega) hs hlen).mono ?_
      rintro e wN ⟨rfl, hN⟩
      replace hs := hs.ext hN
      replace hx := hx.trans hN
      clear hN
      go_wp2_with fail
      refine (has_r xs q d _ _ false HT2.out hs hlen).mono ?_
      rintro e wN ⟨rfl, hN⟩
      replace hs := hs.ext hN
      replace hx := hx.trans hN
      clear hN
      go_wp2_with fail
      refine (nth_r xs q d _ (-1) 0 false HM1.out (by omega) hs hlen).mono ?_
      rintro e wN ⟨rfl, hN⟩
      replace hs := hs.ext hN
      replace hx := hx.trans hN
      clear hN
      go_wp2_with fail
      refine (before_r xs q d _ 0 0 H0.out.1 hs hlen).mono ?_
      rintro e wN ⟨rfl, hN⟩
      replace hs := hs.ext hN
      replace hx := hx.trans hN
      clear hN
      go_wp2_with fail
      refine (before_r xs q d _ all 65536 H0.out.2.1 hs hlen).mono ?_
      rintro e wN ⟨rfl, hN⟩
      replace hs := hs.ext hN
      replace hx := hx.trans hN
      clear hN
      go_wp2_with fail
      refine (before_r xs q d _ 0 (-9223372036854775808) H0.out.2.2.1 hs hlen).mono ?_
      rintro e wN ⟨rfl, hN⟩
      replace hs := hs.ext hN
      replace hx := hx.trans hN
      clear hN
      go_wp2_with fail
      refine (before_r xs q d _ all 9223372036854775807 H0.out.2.2.2 hs hlen).mono ?_
      rintro e wN ⟨rfl, hN⟩
      replace hs := hs.ext hN
      replace hx := hx.trans hN
      clear hN
      go_wp2_with fail
      go_ret
      exact ⟨rfl, hx⟩
    · skip
      go_wp2_with fail
      refine (nth_r xs q d _ m 0 false HN1.out (by omega) hs hlen).mono ?_
      rintro e wN ⟨rfl, hN⟩
      replace hs := hs.ext hN
      replace hx := hx.trans hN
      clear hN
      go_wp2_with fail
      refine (before_r xs q d _ bd _ (by rw [HB.out, HBD.out]) hs hlen).mono ?_
      rintro e wN ⟨rfl, hN⟩
      replace hs := hs.ext hN
      replace hx := hx.trans hN
      clear hN
      go_wp2_with fail
      refine (nth_r xs q d _ bd _ false HT1.out (by omega) hs hlen).mono ?_
      rintro e wN ⟨rfl, hN⟩
      replace hs := hs.ext hN
      replace hx := hx.trans hN
      clear hN
      go_wp2_with fail
      refine (has_r xs q d _ _ false HT2.out hs hlen).mono ?_
      rintro e wN ⟨rfl, hN⟩
      replace hs := hs.ext hN
      replace hx := hx.trans hN
      clear hN
      go_wp2_with fail
      refine (nth_r xs q d _ (-1) 0 false HM1.out (by omega) hs hlen).mono ?_
      rintro e wN ⟨rfl, hN⟩
      replace hs := hs.ext hN
      replace hx := hx.trans hN
      clear hN
      go_wp2_with fail
      refine (before_r xs q d _ 0 0 H0.out.1 hs hlen).mono ?_
      rintro e wN ⟨rfl, hN⟩
      replace hs := hs.ext hN
      replace hx := hx.trans hN
      clear hN
      go_wp2_with fail
      refine (before_r xs q d _ all 65536 H0.out.2.1 hs hlen).mono ?_
      rintro e wN ⟨rfl, hN⟩
      replace hs := hs.ext hN
      replace hx := hx.trans hN
      clear hN
      go_wp2_with fail
      refine (before_r xs q d _ 0 (-9223372036854775808) H0.out.2.2.1 hs hlen).mono ?_
      rintro e wN ⟨rfl, hN⟩
      replace hs := hs.ext hN
      replace hx := hx.trans hN
      clear hN
      go_wp2_with fail
      refine (before_r xs q d _ all 9223372036854775807 H0.out.2.2.2 hs hlen).mono ?_
      rintro e wN ⟨rfl, hN⟩
      replace hs := hs.ext hN
      replace hx := hx.trans hN
      clear hN
      go_wp2_with fail
      go_ret
      exact ⟨rfl, hx⟩
end Go.Proofs.Ytbjhehmglahmpaa
