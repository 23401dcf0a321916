import Derived.Test.YtbjhehmglahmpaaDepD
/- The law DependDays, walked: it returns true; what was examined is read. -/
namespace Go.Proofs.Ytbjhehmglahmpaa
open Go.RowKit

set_option maxHeartbeats 3200000 in
set_option maxRecDepth 100000 in
theorem dependDays_any (fs : List Rd) (pp pf pt : Option Addr) (np nt cp cf ct : Nat) (key : ByteArray) (day : Int) (w : World) (hl : Sl 3 encR w pf fs) (hm : fs.length ≤ 4398046511104) (hs : ∀ x ∈ fs, x.1.size ≤ maxLen) :
    Calls Try.prog 4 #[.agg #[.slice pp np cp, .slice pf fs.length cf, .slice pt nt ct], .string key, .int .i64 day] w fun e w' => e = .returned (.bool true) ∧ Ext w w' := by
  have HS := Lib.hid hs
  clear hs
  obtain ⟨A, HA⟩ : ∃ z, Hid (makeV (spansOf key fs) = z) := ⟨_, rfl⟩
  obtain ⟨E, HE⟩ : ∃ z, Hid (makeE (spansOf key fs) = z) := ⟨_, rfl⟩
  obtain ⟨fb, HF⟩ : ∃ z, Hid (fewB np fs.length nt = z) := ⟨_, rfl⟩
  have hx := (Ext.refl w).alloc (.cells #[.slice pp np cp, .slice pf fs.length cf, .slice pt nt ct] 26)
  go_enter Try.func4, Try.ntmps4
  go_wp2_with fail
  replace hl := hl.ext hx
  refine (days25_any fs pp pf pt np nt cp cf ct key _ hl hm).mono ?_
  rintro e wN ⟨v, he, hv, hN⟩
  rw [HA.out] at hv
  rw [HE.out] at he
  subst he
  have hR := heap_new w (.cells #[.slice pp np cp, .slice pf fs.length cf, .slice pt nt ct] 26)
  replace hR := heap_ext hR hN
  replace hx := hx.trans hN
  replace hl := hl.ext hN
  clear hN
  obtain ⟨pv, cv, rfl, hsv⟩ := hv.read enc2_len
  clear hv
  have hv := hsv
  have hAl : A.length ≤ 1000000 := HA.out ▸ makeV_le _
  clear hsv
  obtain ⟨r0, r1, r2⟩ := cells3 hR
  have rl := lt_of hR
  have HR := Lib.hid hR
  clear hR
  go_wp2_with fail
  refine (few25_any pp pf pt np fs.length nt cp cf ct _).mono ?_
  rintro e wM ⟨he, hN⟩
  rw [HF.out] at he
  subst he
  replace hx := hx.trans hN
  replace hl := hl.ext hN
  replace hv := hv.ext hN
  have HR2 := Lib.hid (heap_ext HR.out hN)
  clear hN r0 r1 r2 rl HR
  cases fb with
  | false =>
    go_wp2_with fail
    refine (awake25 _).mono ?_
    rintro e wN ⟨rfl, hN⟩
    go_wp2_with fail
    go_ret
    exact ⟨rfl, hx.trans hN⟩
  | true =>
    by_cases hE : E = 0
    · have hE1 : (E != 0) = false := by simp [hE]
      have HE0 := Lib.hid hE
      clear hE
      by_cases hd0 : day < 0
      · have hd1 : decide (day < 0) = true := by simpa using hd0
        go_wp2_with fail
        refine (awake25 _).mono ?_
        rintro e wN ⟨rfl, hN⟩
        go_wp2_with fail
        go_ret
        exact ⟨rfl, hx.trans hN⟩
      · have hd1 : decide (day < 0) = false := by simpa using hd0
        by_cases hd6 : day ≥ 65536
        · have hd2 : decide (day ≥ 65536) = true := by simpa using hd6
          go_wp2_with fail
          refine (awake25 _).mono ?_
          rintro e wN ⟨rfl, hN⟩
          go_wp2_with fail
          go_ret
          exact ⟨rfl, hx.trans hN⟩
        · have hd2 : decide (day ≥ 65536) = false := by simpa using hd6
          have HLaw := Lib.hid (days_law fs key day (HE.out.trans HE0.out))
          rw [HA.out] at HLaw
          obtain ⟨b, HB⟩ : ∃ b, Hid (fs.any (hitB key day (day + 1)) = b) := ⟨_, rfl⟩
          rw [HB.out] at HLaw
          obtain ⟨r0, r1, r2⟩ := cells3 HR2.out
          have rl := lt_of HR2.out
          go_wp2_with fail
          refine (fact_any fs _ _ _ _ _ _ _ _ key day (day + 1) 0 0 _ _ _ _ _ _ _ _ hl (by omega)).mono ?_
          rintro e wP ⟨he, hN⟩
          rw [HB.out, decide_eq_true (by omega), Bool.true_and] at he
          subst he
          replace hx := hx.trans hN
          replace hl := hl.ext hN
          replace hv := hv.ext hN
          have HR3 := Lib.hid (heap_ext HR2.out hN)
          clear hN r0 r1 r2 rl HR2
          obtain ⟨r0, r1, r2⟩ := cells3 HR3.out
          have rl := lt_of HR3.out
          go_wp2_with fail
          refine (keys_any fs _ _ _ _ _ _ _ _ _ hl hm HS.out).mono ?_
          rintro e wQ ⟨vk, rfl, hk, hN⟩
          replace hx := hx.trans hN
          replace hv := hv.ext hN
          clear hN r0 r1 r2 rl HR3 hl
          have HM : Hid (∀ x, x ∈ dd (fs.map (·.1)) ↔ x ∈ fs.map (·.1)) := fun x => mem_dd _ x
          have hkb : (dd (fs.map (·.1))).length ≤ 4398046511104 := by have := len_dd (fs.map (·.1)); rw [List.length_map] at this; omega
          generalize dd (fs.map (·.1)) = ks at hk HM hkb
          obtain ⟨pk, ck, rfl, hks⟩ := hk.read encS_len
          clear hk
          go_wp2_with fail
          go_loop [10, 45] (fun m i => ∃ k : Nat, k ≤ ks.length ∧ i = .int .i64 k ∧ m = .bool ((ks.take k).any fun x => x.toList == key.toList)) (fun _ i => ks.length - (intOf i).toNat)
          case atStart => exact ⟨0, by omega, rfl, rfl⟩
          case round =>
            obtain ⟨k, hkl, rfl, rfl⟩ := hrel
            by_cases hlt : k < ks.length
            · have hde : decide ((k : Int) < (ks.length : Int)) = true := by simpa using hlt
              have hlt2 : (k : Int) < (ks.length : Int) := by omega
              obtain ⟨bb, off, rfl, hbl, c0⟩ := hks.at1S k hlt
              have HT : Hid (∀ f : ByteArray → Bool, (ks.take (k + 1)).any f = ((ks.take k).any f || f ks[k])) := fun f => by rw [List.take_succ_eq_append_getElem hlt, List.any_append]; simp
              generalize ks[k] = x at c0 HT
              have HT2 := HT.out (fun x => x.toList == key.toList)
              obtain ⟨y, hy⟩ : ∃ y, ((ks.take k).any fun x => x.toList == key.toList) = y := ⟨_, rfl⟩
              obtain ⟨z, hz⟩ : ∃ z, (x.toList == key.toList) = z := ⟨_, rfl⟩
              rw [hy, hz] at HT2
              have H2 := Lib.hid HT2
              rw [hy]
              clear HT2 hy
              cases y <;> cases z
              all_goals
                go_wp2_with fail
                go_round
                case rel => exact ⟨k + 1, by omega, by go_num, by rw [H2.out]; rfl⟩
                case measure => simp [intOf]; omega
            · have hde : decide ((k : Int) < (ks.length : Int)) = false := by simpa using hlt
              obtain ⟨y, HY⟩ : ∃ y, Hid (((ks.take k).any fun x => x.toList == key.toList) = y) := ⟨_, rfl⟩
              rw [HY.out]
              go_wp2_with fail
              refine (has_any A day pv cv _ hv (by omega)).mono ?_
              rintro e wT ⟨he, hN⟩
              rw [← HLaw.out] at he
              subst he
              replace hx := hx.trans hN
              clear hN
              have hbb : (b == b) = true := by simp
              cases y with
              | true =>
                go_wp2_with fail
                refine (awake25 _).mono ?_
                rintro e wN ⟨rfl, hN⟩
                go_wp2_with fail
                go_ret
                exact ⟨rfl, hx.trans hN⟩
              | false =>
                have hA0 : (A.length : Int) = 0 := by
                  have hn : key ∉ fs.map (·.1) := by
                    rw [← HM.out]
                    intro hmem
                    have := HY.out
                    rw [List.take_of_length_le (by omega), List.any_eq_false] at this
                    exact this key hmem (by simp)
                  rw [← HA.out, days_none fs key hn]
                  rfl
                go_wp2_with fail
                refine (awake25 _).mono ?_
                rintro e wN ⟨rfl, hN⟩
                go_wp2_with fail
                go_ret
                exact ⟨rfl, hx.trans hN⟩
    · have hE1 : (E != 0) = true := by simp [hE]
      go_wp2_with fail
      refine (awake25 _).mono ?_
      rintro e wN ⟨rfl, hN⟩
      go_wp2_with fail
      go_ret
      exact ⟨rfl, hx.trans hN⟩
end Go.Proofs.Ytbjhehmglahmpaa
