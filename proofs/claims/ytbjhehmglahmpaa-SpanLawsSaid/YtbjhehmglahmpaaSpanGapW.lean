import Derived.Test.YtbjhehmglahmpaaSpanWf
import Derived.Test.YtbjhehmglahmpaaSpanAw
import Derived.Test.YtbjhehmglahmpaaSpanGapP
/- The law SpanGaps, walked: it returns true; the slice of 16-bit numbers is read. -/
namespace Go.Proofs.Ytbjhehmglahmpaa
open Go.RowKit

set_option maxHeartbeats 16000000 in
set_option maxRecDepth 100000 in
theorem spanGaps_any (l : List Int) (days : Int) (p : Option Addr) (c : Nat) (w : World) (hl : Sl 1 encU w p l) (hm : l.length ≤ 9223372036854775807) (hu : ∀ x ∈ l, 0 ≤ x ∧ x ≤ 65535) :
    Calls Try.prog 11 #[.slice p l.length c, .int .i64 days] w fun e w' => e = .returned (.bool true) ∧ Ext w w' := by
  go_enter Try.func11, Try.ntmps11
  go_wp2_with fail
  refine (awake04 _).mono ?_
  rintro e wN ⟨rfl, hx⟩
  go_wp2_with fail
  refine (built_any l p c _ (hl.ext hx) hm hu).mono ?_
  rintro e wN ⟨pa, ca, a, rfl, ha, hoka, h60a, hN⟩
  try replace ha := ha.ext hN
  try replace hB := hB.ext hN
  try replace hC := hC.ext hN
  try replace hR := hR.ext hN
  replace hx := hx.trans hN
  clear hN
  clear hl hu hm
  have la : a.length ≤ 1000000 := by omega
  by_cases hneg : days < 0
  · have HV : Hid (bridgeV a days = []) := by unfold Hid bridgeV; rw [if_neg (by omega)]
    have HE : Hid (bridgeE a days = 2) := by unfold Hid bridgeE; rw [if_neg (by omega)]
    go_wp2_with fail
    refine (bridge_r a [] 2 pa _ _ days HV.out HE.out ha la).mono ?_
    rintro e wN ⟨pB, cB, rfl, hB, hN⟩
    try replace ha := ha.ext hN
    try replace hB := hB.ext hN
    try replace hC := hC.ext hN
    try replace hR := hR.ext hN
    replace hx := hx.trans hN
    clear hN
    go_wp2_with fail
    go_ret
    exact ⟨rfl, hx⟩
  · obtain ⟨B, eB⟩ : ∃ B, bridgeS days a = B := ⟨_, rfl⟩
    obtain ⟨R, eR⟩ : ∃ B', dS B a = B' := ⟨_, rfl⟩
    obtain ⟨okB, okR, hW, hBB, hnil, hfar, hG, hhead, hlast⟩ := gaps_facts hoka B R eB eR
    have LB := okB.len6
    have LR := okR.len6
    have VB := Lib.hid okB.valid
    have HV : Hid (bridgeV a days = B) := by unfold Hid bridgeV; rw [if_pos ⟨hoka.valid, by omega⟩]; exact eB
    have HE : Hid (bridgeE a days = 0) := by unfold Hid bridgeE; rw [if_pos ⟨hoka.valid, by omega⟩]
    have HV2 : Hid (bridgeV B days = B) := by unfold Hid bridgeV; rw [if_pos ⟨okB.valid, by omega⟩]; exact hBB
    have HE2 : Hid (bridgeE B days = 0) := by unfold Hid bridgeE; rw [if_pos ⟨okB.valid, by omega⟩]
    have HR2 : Hid (combV (fun x y => x && !y) B a = R) := (combV_ok _ okB hoka).trans eR
    have HRE : Hid (combE B a = 0) := combE_ok okB hoka
    have HW := Lib.hid hW
    have HS : Hid (sameB B B = true) := (sameB_iff _ _).2 rfl
    have FB := Lib.hid (Far.at days B hfar)
    have BB := Lib.hid (Ok.bounds2 okB)
    have HG := Lib.hid hG
    have HN := Lib.hid hnil
    have HH := Lib.hid hhead
    have HL := Lib.hid hlast
    clear okB okR hoka eB eR hW hBB hnil hfar hG hhead hlast
    go_wp2_with fail
    refine (bridge_r a B 0 pa _ _ days HV.out HE.out ha la).mono ?_
    rintro e wN ⟨pB, cB, rfl, hB, hN⟩
    try replace ha := ha.ext hN
    try replace hB := hB.ext hN
    try replace hC := hC.ext hN
    try replace hR := hR.ext hN
    replace hx := hx.trans hN
    clear hN
    go_wp2_with fail
    refine (bridge_r B B 0 pB _ _ days HV2.out HE2.out hB LB).mono ?_
    rintro e wN ⟨pC, cC, rfl, hC, hN⟩
    try replace ha := ha.ext hN
    try replace hB := hB.ext hN
    try replace hC := hC.ext hN
    try replace hR := hR.ext hN
    replace hx := hx.trans hN
    clear hN
    go_wp2_with fail
    refine (minus_r B a R 0 pB pa _ _ _ HR2.out HRE.out hB ha LB la).mono ?_
    rintro e wN ⟨pR, cR, rfl, hR, hN⟩
    try replace ha := ha.ext hN
    try replace hB := hB.ext hN
    try replace hC := hC.ext hN
    try replace hR := hR.ext hN
    replace hx := hx.trans hN
    clear hN
    clear HV HE HV2 HE2 HR2 HRE
    by_cases hn : a = []
    · have hnB := HN.out.1 hn
      have z1 : (a.length : Int) = 0 := by rw [hn]; rfl
      have z2 : (B.length : Int) = 0 := by rw [hnB]; rfl
      have z3 : ((a.length : Int) == 0) = true := by simpa using z1
      have z4 : ((B.length : Int) == 0) = true := by simpa using z2
      clear hn hnB
      go_wp2_with fail
      refine (valid_r B pB _ _ true VB.out hB LB).mono ?_
      rintro e wN ⟨rfl, hN⟩
      try replace ha := ha.ext hN
      try replace hB := hB.ext hN
      try replace hC := hC.ext hN
      try replace hR := hR.ext hN
      replace hx := hx.trans hN
      clear hN
      go_wp2_with fail
      refine (within_r a B pa pB _ _ _ true HW.out ha hB la LB).mono ?_
      rintro e wN ⟨rfl, hN⟩
      try replace ha := ha.ext hN
      try replace hB := hB.ext hN
      try replace hC := hC.ext hN
      try replace hR := hR.ext hN
      replace hx := hx.trans hN
      clear hN
      go_wp2_with fail
      refine (same_r B B pC pB _ _ _ true HS.out hC hB LB).mono ?_
      rintro e wN ⟨rfl, hN⟩
      try replace ha := ha.ext hN
      try replace hB := hB.ext hN
      try replace hC := hC.ext hN
      try replace hR := hR.ext hN
      replace hx := hx.trans hN
      clear hN
      go_wp2_with fail
      go_loopw [12] (fun i wr => ∃ (k : Nat), (k + 1 ≤ B.length ∨ k = 0) ∧ i = .int .i64 ((k : Int) + 1) ∧ Ext wN wr) (fun i _ => B.length + 1 - (intOf i).toNat)
      case atStart => exact ⟨0, .inr rfl, rfl, Ext.refl _⟩
      case round =>
        obtain ⟨k, hk, rfl, hx2⟩ := hrel
        by_cases hkB : (k : Int) + 1 < (B.length : Int)
        · exfalso; omega
        · go_wp2_with fail
          go_loopw [100] (fun i wq => ∃ (j : Nat), j ≤ R.length ∧ i = .int .i64 j ∧ Ext wN wq) (fun i _ => R.length - (intOf i).toNat)
          case atStart => exact ⟨0, by omega, rfl, hx2⟩
          case round =>
            obtain ⟨j, hj, rfl, hx3⟩ := hrel
            by_cases hjR : j < R.length
            · obtain ⟨bb, off, rfl, hbl, c0, c1⟩ := (hR.ext hx3).cells2 j hjR
              have b0 := HG.out _ (List.getElem_mem hjR)
              generalize R[j] = s0 at c0 c1 b0
              obtain ⟨f, t⟩ := s0
              dsimp only at c0 c1 b0
              obtain ⟨b1, b2, b3, b4, b5, b6⟩ := b0
              have B5 := Lib.hid b5
              have B6 := Lib.hid b6
              clear b5 b6
              have hw2 := IntWalk.i64_in (t - f) (by omega)
              have hw3 := IntWalk.i64_in (f - 1) (by omega)
              have hnd : ¬ t - f > days := by omega
              have hx5 := (hx3.alloc (.cells #[.int .i64 f, .int .i64 t] 65))
              go_wp2_with fail
              refine (in_r a pa _ _ (f - 1) true B5.out (ha.ext hx5) la).mono ?_
              rintro e wN ⟨rfl, rfl⟩
              go_wp2_with fail
              refine (in_r a pa _ _ t true B6.out (ha.ext hx5) la).mono ?_
              rintro e wN ⟨rfl, rfl⟩
              go_wp2_with fail
              go_roundw
              case rel => exact ⟨j + 1, by omega, by go_num, hx5⟩
              case measure => simp [intOf]; omega
            · go_wp2_with fail
              go_quiet (fail)
              go_wp2_with fail
              go_ret
              exact ⟨rfl, (hx.trans hx3).drewN nq⟩
    · have hnB : B ≠ [] := fun h => hn (HN.out.2 h)
      obtain ⟨n, hna⟩ : ∃ n, a.length = n + 1 := ⟨a.length - 1, by have := List.length_pos_iff.2 hn; omega⟩
      obtain ⟨m, hmB⟩ : ∃ m, B.length = m + 1 := ⟨B.length - 1, by have := List.length_pos_iff.2 hnB; omega⟩
      have z1 : ¬ (a.length : Int) = 0 := by omega
      have z2 : ¬ (B.length : Int) = 0 := by omega
      have z3 : ((a.length : Int) == 0) = false := by simpa using z1
      have z4 : ((B.length : Int) == 0) = false := by simpa using z2
      have F : Hid (∃ f0 e0 : Int, (∀ h : 0 < a.length, a[0].1 = f0) ∧ (∀ h : 0 < B.length, B[0].1 = f0) ∧ (∀ h : n < a.length, a[n].2 = e0) ∧ (∀ h : m < B.length, B[m].2 = e0)) := by
        unfold Hid
        have g1 : ∃ f0, (∀ h : 0 < a.length, a[0].1 = f0) ∧ (∀ h : 0 < B.length, B[0].1 = f0) := by
          cases a with
          | nil => exact absurd rfl hn
          | cons q a' =>
            obtain ⟨z, r, hz⟩ := HH.out q a' rfl
            subst hz; exact ⟨q.1, fun _ => rfl, fun _ => rfl⟩
        have g2 : ∃ e0, (∀ h : n < a.length, a[n].2 = e0) ∧ (∀ h : m < B.length, B[m].2 = e0) := by
          rcases nil_or_snoc a with h | ⟨pre, ⟨y, e⟩, h⟩
          · exact absurd h hn
          · obtain ⟨p', z', hB'⟩ := HL.out pre y e h
            subst h; subst hB'
            simp only [List.length_append, List.length_singleton, Nat.add_right_cancel_iff] at hna hmB
            subst hna; subst hmB
            exact ⟨e, fun _ => by simp, fun _ => by simp⟩
        obtain ⟨f0, q1, q2⟩ := g1
        obtain ⟨e0, q3, q4⟩ := g2
        exact ⟨f0, e0, q1, q2, q3, q4⟩
      have hn60 : (n : Int) ≤ 60 := by omega
      have hm60 : (m : Int) ≤ 1000000 := by omega
      clear hn hnB
      have HNA := Lib.hid hna
      have HMB := Lib.hid hmB
      clear hna hmB
      go_wp2_with fail
      refine (valid_r B pB _ _ true VB.out hB LB).mono ?_
      rintro e wN ⟨rfl, hN⟩
      try replace ha := ha.ext hN
      try replace hB := hB.ext hN
      try replace hC := hC.ext hN
      try replace hR := hR.ext hN
      replace hx := hx.trans hN
      clear hN
      go_wp2_with fail
      refine (within_r a B pa pB _ _ _ true HW.out ha hB la LB).mono ?_
      rintro e wN ⟨rfl, hN⟩
      try replace ha := ha.ext hN
      try replace hB := hB.ext hN
      try replace hC := hC.ext hN
      try replace hR := hR.ext hN
      replace hx := hx.trans hN
      clear hN
      go_wp2_with fail
      refine (same_r B B pC pB _ _ _ true HS.out hC hB LB).mono ?_
      rintro e wN ⟨rfl, hN⟩
      try replace ha := ha.ext hN
      try replace hB := hB.ext hN
      try replace hC := hC.ext hN
      try replace hR := hR.ext hN
      replace hx := hx.trans hN
      clear hN
      go_wp2_with fail
      go_loopw [12] (fun i wr => ∃ (k : Nat), (k + 1 ≤ B.length ∨ k = 0) ∧ i = .int .i64 ((k : Int) + 1) ∧ Ext wN wr) (fun i _ => B.length + 1 - (intOf i).toNat)
      case atStart => exact ⟨0, .inr rfl, rfl, Ext.refl _⟩
      case round =>
        obtain ⟨k, hk, rfl, hx2⟩ := hrel
        by_cases hkB : (k : Int) + 1 < (B.length : Int)
        · skip
          obtain ⟨bb, off, rfl, hbl, c0, c1⟩ := (hB.ext hx2).cells2 k (by omega)
          obtain ⟨c2, c3⟩ := (hB.ext hx2).cells2' (k + 1) (by omega)
          have hfar := FB.out k (by omega)
          have b0 := BB.out _ (List.getElem_mem (show k < B.length by omega))
          have b1 := BB.out _ (List.getElem_mem (show k + 1 < B.length by omega))
          generalize B[k] = s0 at c0 c1 hfar b0
          generalize B[k + 1] = s1 at c2 c3 hfar b1
          obtain ⟨f0, t0⟩ := s0
          obtain ⟨f1, t1⟩ := s1
          dsimp only at c0 c1 c2 c3 hfar b0 b1
          have hw1 := IntWalk.i64_in ((k : Int) + 1 - 1) (by omega)
          have hw2 := IntWalk.i64_in (f1 - t0) (by omega)
          have hnd : ¬ f1 - t0 ≤ days := by omega
          have hdd : decide (f1 - t0 ≤ days) = false := by simpa using hnd
          go_wp2_with fail
          go_quiet (fail)
          go_wp2_with fail
          go_roundw
          case rel => exact ⟨k + 1, by omega, by go_num, hx2.drewN nq⟩
          case measure => simp [intOf]; omega
        · go_wp2_with fail
          go_loopw [100] (fun i wq => ∃ (j : Nat), j ≤ R.length ∧ i = .int .i64 j ∧ Ext wN wq) (fun i _ => R.length - (intOf i).toNat)
          case atStart => exact ⟨0, by omega, rfl, hx2⟩
          case round =>
            obtain ⟨j, hj, rfl, hx3⟩ := hrel
            by_cases hjR : j < R.length
            · obtain ⟨bb, off, rfl, hbl, c0, c1⟩ := (hR.ext hx3).cells2 j hjR
              have b0 := HG.out _ (List.getElem_mem hjR)
              generalize R[j] = s0 at c0 c1 b0
              obtain ⟨f, t⟩ := s0
              dsimp only at c0 c1 b0
              obtain ⟨b1, b2, b3, b4, b5, b6⟩ := b0
              have B5 := Lib.hid b5
              have B6 := Lib.hid b6
              clear b5 b6
              have hw2 := IntWalk.i64_in (t - f) (by omega)
              have hw3 := IntWalk.i64_in (f - 1) (by omega)
              have hnd : ¬ t - f > days := by omega
              have hx5 := (hx3.alloc (.cells #[.int .i64 f, .int .i64 t] 65))
              go_wp2_with fail
              refine (in_r a pa _ _ (f - 1) true B5.out (ha.ext hx5) la).mono ?_
              rintro e wN ⟨rfl, rfl⟩
              go_wp2_with fail
              refine (in_r a pa _ _ t true B6.out (ha.ext hx5) la).mono ?_
              rintro e wN ⟨rfl, rfl⟩
              go_wp2_with fail
              go_roundw
              case rel => exact ⟨j + 1, by omega, by go_num, hx5⟩
              case measure => simp [intOf]; omega
            · obtain ⟨f0, e0, G1, G2, G3, G4⟩ := F.out
              have n0 : n < a.length := by rw [HNA.out]; omega
              have m0 : m < B.length := by rw [HMB.out]; omega
              obtain ⟨ba, oa, rfl, hba, c0, _⟩ := (ha.ext hx3).cells2 0 (by omega)
              have c3 := ((ha.ext hx3).cells2' n n0).2
              obtain ⟨bB, oB, rfl, hbB, d0, _⟩ := (hB.ext hx3).cells2 0 (by omega)
              have d3 := ((hB.ext hx3).cells2' m m0).2
              rw [G1 (by omega)] at c0
              rw [G3 n0] at c3
              rw [G2 (by omega)] at d0
              rw [G4 m0] at d3
              simp only [Nat.zero_mul, Nat.add_zero] at c0 d0
              clear z1 z2 z3 z4
              have z1 : ¬ ((n : Int) + 1) = 0 := by omega
              have z3 : ((n : Int) + 1 == 0) = false := by simpa using z1
              have hw1 := IntWalk.i64_in (n : Int) (by omega)
              have hw2 := IntWalk.i64_in (m : Int) (by omega)
              simp only [HNA.out, HMB.out]
              go_wp2_with fail
              go_quiet (fail)
              go_wp2_with fail
              go_ret
              exact ⟨rfl, (hx.trans hx3).drewN nq⟩
end Go.Proofs.Ytbjhehmglahmpaa
