import Derived.Test.YtalconpcpegmlaaDoorLegP
/- annuitantlaw40.AppealRejected, walked. -/
namespace Go.Proofs.YtalconpcpegmlaaDoor
open Go.RowKit
set_option linter.unusedVariables false

theorem at_n (l : List Fl) (n : Nat) (hn : l.length = n) (day : Int) (p : Option Addr) (c : Nat) (m : Option Nat) (w : World) (hl : Sl 6 encF w p l) (hm : n ≤ 1000000) (hr : RowsAt m w) (hk : ∀ f ∈ l, 0 ≤ f.kind ∧ f.kind < 256) :
    Calls Tryd.prog 16 #[.slice p n c, .int .i64 day] w fun e w' => RdAt w w' l day e := by subst hn; exact at_c l day p c m w hl hm hr hk
set_option maxHeartbeats 1200000 in
set_option maxRecDepth 100000 in
theorem rejectedLaw_c (l : List Nt) (day : Int) (p : Option Addr) (c : Nat) (m : Option Nat) (w : World) (hl : Sl 5 encN w p l) (hm : l.length ≤ 9223372036854775807) (hu : BtU l) (hday : -9223372036854775808 ≤ day ∧ day ≤ 9223372036854775807) (hr : RowsAt m w) (haw : AwakeOk m) :
    Calls Tryd.prog 6 #[.slice p l.length c, .int .i64 day] w fun e w' => e = .returned (.bool true) ∧ Ext w w' := by
  have HU := Lib.hid hu
  have HR := Lib.hid hr
  have HAW := Lib.hid haw
  clear hu hr haw
  go_enter Tryd.func6, Tryd.ntmps6
  go_wp2_with fail
  refine (HAW.out _ HR.out).mono ?_
  rintro e w1 ⟨rfl, x1⟩
  go_wp2_with fail
  refine (built_c l p c _ (hl.ext x1) hm HU.out).mono ?_
  rintro e w2 ⟨pf, cf, fs, rfl, hof, hlf, hff, x2⟩
  have HK := Lib.hid (kinds_of hff)
  have HS := Lib.hid (hof.slOf encF_len)
  have HX2 := Lib.hid (x1.trans x2)
  have hl1000 : fs.length ≤ 1000 := by omega
  clear hof hff hl x1 x2
  go_wp2_with fail
  refine (taken_c fs pf cf m _ HS.out (by omega) (HR.out.ext HX2.out) HK.out).mono ?_
  rintro e w3 ⟨v3, rfl, ho3, x3⟩
  have HTK := Lib.hid (taken fs hl1000)
  have hTl := takenP_len fs
  obtain ⟨T, HT⟩ : ∃ T, Hid (takenP fs = T) := ⟨_, rfl⟩
  obtain ⟨pt, ct, rfl, hst⟩ := ho3.read encF_len
  rw [HT.out] at hst hTl ⊢
  have HKT : Hid (∀ f ∈ T, 0 ≤ f.kind ∧ f.kind < 256) := by unfold Hid; rw [← HT.out]; exact kinds_of HTK.out.formed
  have HX3 := Lib.hid (HX2.out.trans x3)
  have HS3 := Lib.hid (HS.out.ext x3)
  have HST := Lib.hid hst
  obtain ⟨nt, HNT⟩ : ∃ nt, Hid (T.length = nt) := ⟨_, rfl⟩
  have hnt : nt ≤ 30 := by rw [← HNT.out]; omega
  clear ho3 hst x3 hTl
  go_wp2_with fail
  refine (run_c T pt ct m _ HST.out (by have := HNT.out; omega) (HR.out.ext HX3.out) HKT.out).mono ?_
  rintro e w4 ⟨v4, rfl, ho4, x4⟩
  obtain ⟨pr, cr, rfl, hsr⟩ := ho4.read encE_len
  have hRL : (runP T).length = T.length := runP_len T
  obtain ⟨R, HRR⟩ : ∃ R, Hid (runP T = R) := ⟨_, rfl⟩
  have HZ : Hid (∀ x ∈ R, x = 0) := by unfold Hid; rw [← HRR.out, ← HT.out]; exact HTK.out.run
  rw [HRR.out] at hsr hRL ⊢
  have HRN : Hid (R.length = nt) := by unfold Hid; rw [hRL, HNT.out]
  rw [HRN.out, HNT.out]
  have HX4 := Lib.hid (HX3.out.trans x4)
  have HS4 := Lib.hid (HS3.out.ext x4)
  have HST4 := Lib.hid (HST.out.ext x4)
  have HSR := Lib.hid hsr
  have HSO : Hid (T.Pairwise (fun a b => a.day ≤ b.day)) := by unfold Hid; rw [← HT.out]; exact HTK.out.sorted
  clear ho4 hsr x4 hRL
  go_wp2_with fail
  go_loopw [22] (fun i wr => ∃ k : Nat, k ≤ nt ∧ i = .int .i64 k ∧ Ext w4 wr) (fun i _ => nt - (intOf i).toNat)
  case atStart => exact ⟨0, Nat.zero_le _, rfl, Ext.refl _⟩
  case round =>
    obtain ⟨k, hk, rfl, hxr⟩ := hrel
    by_cases hlt : k < nt
    · have hlt1 : (k : Int) < (nt : Int) := by omega
      have hkR : k < R.length := by rw [HRN.out]; exact hlt
      have hkT : k < T.length := by rw [HNT.out]; exact hlt
      obtain ⟨br, ofr, x, rfl, hbr, r0, HXE⟩ := (HSR.out.ext hxr).atE k hkR
      have hx0 : x = 0 := by rw [← HXE.out]; exact HZ.out _ (List.getElem_mem hkR)
      subst hx0
      by_cases hk0 : k = 0
      · have hp0 : decide (0 < k) = false := by simp; omega
        clear hk0
        go_wp2_with fail
        go_quiet (fail)
        go_wp2_with fail
        go_roundw
        case rel => exact ⟨k + 1, by omega, by go_num, hxr.drewN _⟩
        case measure => simp [intOf]; omega
      · obtain ⟨j, HJ⟩ : ∃ j, Hid (k = j + 1) := ⟨k - 1, by unfold Hid; omega⟩
        obtain ⟨bb, off, f, rfl, hbl, c0, c1, c2, c3, c4, c5, HF⟩ := (HST4.out.ext hxr).atF k hkT
        obtain ⟨bb', off', f', hbb, hbl', d0, d1, d2, d3, d4, d5, HF'⟩ := (HST4.out.ext hxr).atF j (by have := HJ.out; omega)
        simp only [Option.some.injEq, Addr.mk.injEq, and_true] at hbb
        obtain ⟨rfl, rfl⟩ := hbb
        have hso : decide (f.day < f'.day) = false := by
          have := List.pairwise_iff_getElem.1 HSO.out j k (by have := HJ.out; omega) hkT (by have := HJ.out; omega)
          rw [HF.out, HF'.out] at this
          simpa using this
        have h9 : j < 1000 := by have := HJ.out; omega
        have hwj : IntKind.i64.wrap ((k : Int) - 1) = (j : Int) := by rw [HJ.out]; have := IntWalk.i64_in (j : Int) (by omega); rw [show (((j + 1 : Nat) : Int) - 1) = (j : Int) by omega]; exact this
        have hp0 : decide (0 < k) = true := by simp; omega
        have hp1 : (0 : Int) < (k : Int) := by omega
        have hjn : (j : Int) < (nt : Int) := by have := HJ.out; omega
        clear hk0
        go_wp2_with fail
        go_quiet (fail)
        go_wp2_with fail
        go_roundw
        case rel => exact ⟨k + 1, by omega, by go_num, hxr.drewN _⟩
        case measure => simp [intOf]; omega
    · have hlt1 : ¬ (k : Int) < (nt : Int) := by omega
      have HX7 := Lib.hid (HX4.out.trans hxr)
      have HS7 := Lib.hid (HS4.out.ext hxr)
      have HST7 := Lib.hid (HST4.out.ext hxr)
      clear hxr
      go_wp2_with fail
      refine (last_c fs pf cf m _ HS7.out hl1000 (HR.out.ext HX7.out) HK.out).mono ?_
      rintro e w5 ⟨rfl, x5⟩
      have HLB := Lib.hid (DI.dock fs).last
      obtain ⟨L, HL⟩ : ∃ L, Hid ((dockP fs).2 = L) := ⟨_, rfl⟩
      rw [HL.out] at HLB ⊢
      go_wp2_with fail
      refine (pick_c day 1500 _ hday (by omega)).mono ?_
      rintro e w6 ⟨rfl, rfl⟩
      have HPB := Lib.hid (pickP_bd day (show (1 : Int) ≤ 1500 by omega))
      obtain ⟨P, HP⟩ : ∃ P, Hid (pickP day 1500 = P) := ⟨_, rfl⟩
      rw [HP.out] at HPB ⊢
      have hLP := IntWalk.i64_in (L + P) (by have := HLB.out; have := HPB.out; omega)
      have HLP : Hid (L ≤ L + P ∧ 0 ≤ L + P ∧ L + P ≤ 70000) := by unfold Hid; have := HLB.out; have := HPB.out; omega
      obtain ⟨d, HD⟩ : ∃ d, Hid (L + P = d) := ⟨_, rfl⟩
      rw [HD.out] at hLP HLP
      have hd64 := IntWalk.wrap64_in d (by have := HLP.out; omega)
      have HAT : Hid (atP T d = atP fs d) := by unfold Hid; rw [← HT.out]; exact atP_dock HTK.out.dock d
      have HX8 := Lib.hid (HX7.out.trans x5)
      have HS8 := Lib.hid (HS7.out.ext x5)
      have HST8 := Lib.hid (HST7.out.ext x5)
      clear x5
      go_upto_region 12 with fail
      rw [HD.out, hd64]
      clear hd64
      go_wp2_with fail
      refine (at_c fs d pf cf m _ HS8.out (by omega) (HR.out.ext HX8.out) HK.out).mono ?_
      rintro e w7 ⟨p1, cap1, xs, rfl, hm1, ho1, hh1, x7⟩
      have HC1 := Lib.hid (csl_at ho1 hh1 hm1)
      have HM1 := Lib.hid hm1
      clear ho1 hh1 hm1
      go_wp2_with fail
      have hsl9 := HST8.out.ext x7
      have hrl9 := HR.out.ext (HX8.out.trans x7)
      refine (at_n T nt HNT.out d pt ct m _ hsl9 (by omega) hrl9 HKT.out).mono ?_
      clear hsl9 hrl9
      rintro e w8 ⟨p2, cap2, ys, rfl, hm2, ho2, hh2, x8⟩
      have HC2 := Lib.hid (csl_at ho2 hh2 hm2)
      rw [HAT.out] at hm2 ⊢
      have HME : Hid (xs.map (·.1) = ys.map (·.1)) := by unfold Hid; rw [HM1.out, hm2]
      have hxl : xs.length ≤ 1000000 := by
        have h1 := congrArg List.length HM1.out
        rw [List.length_map] at h1
        have h2 := (DI.dock fs).len
        have h3 : (atP fs d).1.length ≤ 100 := by
          unfold atP
          split
          · exact Nat.zero_le _
          · split
            · exact Nat.zero_le _
            · rw [List.length_map]; exact h2
        omega
      clear ho2 hh2 hm2
      by_cases h6 : d < 65536
      · have hE : (atP fs d).2 = 0 := by rw [at_from (by rw [HL.out]; exact HLP.out.1) (by omega)]
        have hq6 : decide (d < 65536) = true := by simpa using h6
        rw [hE]
        have HE := Lib.hid hE
        clear h6 hE
        go_wp2_with fail
        refine (sameCases_c xs ys p1 p2 cap1 cap2 _ (HC1.out.ext x8) HC2.out hxl HME.out).mono ?_
        rintro e w9 ⟨rfl, x9⟩
        go_wp2_with fail
        go_ret
        exact ⟨rfl, ((HX8.out.trans x7).trans x8).trans x9⟩
      · have hE : (atP fs d).2 = 2 := by unfold atP; rw [if_pos (.inr (by omega))]
        have hq6 : decide (d < 65536) = false := by simpa using h6
        rw [hE]
        have HE := Lib.hid hE
        clear h6 hE
        go_wp2_with fail
        refine (sameCases_c xs ys p1 p2 cap1 cap2 _ (HC1.out.ext x8) HC2.out hxl HME.out).mono ?_
        rintro e w9 ⟨rfl, x9⟩
        go_wp2_with fail
        go_ret
        exact ⟨rfl, ((HX8.out.trans x7).trans x8).trans x9⟩
end Go.Proofs.YtalconpcpegmlaaDoor
