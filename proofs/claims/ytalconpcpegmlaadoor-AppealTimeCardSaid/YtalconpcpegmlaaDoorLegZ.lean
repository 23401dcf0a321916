import Derived.Test.YtalconpcpegmlaaDoorLegP
/- annuitantlaw40.AppealTime, walked. -/
namespace Go.Proofs.YtalconpcpegmlaaDoor
open Go.RowKit
set_option linter.unusedVariables false

theorem stays_lit (el : Bool) (st op dy ch lv due : Int) (hd : Bool) (sn : Int) (held : List Sp) (pa pb : Option Addr) (ca cb : Nat) (w : World) (ha : Sl 2 enc2 w pa held) (hb : Sl 2 enc2 w pb held) (hm : held.length ≤ 1000000) :
    Calls Tryd.prog 17 #[.agg #[.bool el, .int .u8 st, .int .i64 op, .int .i64 dy, .int .i64 ch, .int .i64 lv, .int .i64 due, .bool hd, .int .i64 sn, .slice pa held.length ca], .agg #[.bool el, .int .u8 st, .int .i64 op, .int .i64 dy, .int .i64 ch, .int .i64 lv, .int .i64 due, .bool hd, .int .i64 sn, .slice pb held.length cb]] w fun e w' => e = .returned (.bool true) ∧ Ext w w' :=
  stays_c ⟨el, st, op, dy, ch, lv, due, hd, sn, held⟩ pa pb ca cb w ha hb hm
structure TimeF (a b : Cs) (d : Int) : Prop where
  ok : Ok (-1) a.held
  st : 1 ≤ a.st ∧ a.st ≤ 5
  dy : 1 ≤ a.dy ∧ a.dy ≤ 400
  due : 0 ≤ a.due ∧ a.due ≤ 66000
  hd : a.hd = true → a.st = 3
  b : b = wantP a d
theorem time_f {c : Cs} {last d : Int} (h : CI c last) (h0 : 0 ≤ last) (hl : last ≤ d) (hd : d + 1 ≤ 65535) : TimeF (onP c d) (onP c (d + 1)) d := by
  have hC := h.pass hl (by omega)
  exact ⟨(heldP_spec (d + 1) hC (by omega)).1, hC.st, hC.dy, hC.due, fun e => (hC.hd e).1, time_step h h0 hl hd⟩
theorem case_at {C : List Cs} {d : Int} {xs : List Cv} (hm : xs.map (·.1) = C.map (onP · d)) {j : Nat} (hj : j < xs.length) (hd : j < C.length) : xs[j].1 = onP C[j] d := by
  have e : (xs.map (·.1))[j]? = some xs[j].1 := by rw [List.getElem?_map, List.getElem?_eq_getElem hj]; rfl
  rw [hm, List.getElem?_map, List.getElem?_eq_getElem hd] at e
  exact (Option.some.inj e).symm
set_option maxHeartbeats 6400000 in
set_option maxRecDepth 100000 in
theorem timeLaw_c (l : List Nt) (day : Int) (p : Option Addr) (c : Nat) (m : Option Nat) (w : World) (hl : Sl 5 encN w p l) (hm : l.length ≤ 9223372036854775807) (hu : BtU l) (hday : -9223372036854775808 ≤ day ∧ day ≤ 9223372036854775807) (hr : RowsAt m w) (haw : AwakeOk m) :
    Calls Tryd.prog 10 #[.slice p l.length c, .int .i64 day] w fun e w' => e = .returned (.bool true) ∧ Ext w w' := by
  have HUU := Lib.hid hu
  have HR := Lib.hid hr
  have HAW := Lib.hid haw
  clear hu hr haw
  go_enter Tryd.func10, Tryd.ntmps10
  go_wp2_with fail
  refine (HAW.out _ HR.out).mono ?_
  rintro e w1 ⟨rfl, x1⟩
  go_wp2_with fail
  refine (built_c l p c _ (hl.ext x1) hm HUU.out).mono ?_
  rintro e w2 ⟨pf, cf, fs, rfl, hof, hlf, hff, x2⟩
  have HK := Lib.hid (kinds_of hff)
  have HS := Lib.hid (hof.slOf encF_len)
  have HX2 := Lib.hid (x1.trans x2)
  have hl1000 : fs.length ≤ 1000 := by omega
  clear hof hff hl x1 x2
  go_wp2_with fail
  refine (last_c fs pf cf m _ HS.out hl1000 (HR.out.ext HX2.out) HK.out).mono ?_
  rintro e w3 ⟨rfl, x3⟩
  have HLB := Lib.hid (DI.dock fs).last
  obtain ⟨L, HL⟩ : ∃ L, Hid ((dockP fs).2 = L) := ⟨_, rfl⟩
  obtain ⟨C, HCD⟩ : ∃ C, Hid ((dockP fs).1 = C) := ⟨_, rfl⟩
  have HAL : Hid (∀ d, L ≤ d → d ≤ 65535 → atP fs d = (C.map (onP · d), 0)) := by
    intro d h1 h2
    rw [← HCD.out]
    exact at_from (by rw [HL.out]; exact h1) h2
  have HCI : Hid (∀ c ∈ C, CI c L) := by unfold Hid; rw [← HCD.out, ← HL.out]; exact (DI.dock fs).all
  have hC100 : C.length ≤ 100 := by rw [← HCD.out]; exact (DI.dock fs).len
  rw [HL.out] at HLB ⊢
  go_wp2_with fail
  refine (at_c fs L pf cf m _ (HS.out.ext x3) (by omega) (HR.out.ext (HX2.out.trans x3)) HK.out).mono ?_
  rintro e w4 ⟨pc, cc, xs, rfl, hm1, ho, hh, x4⟩
  have HC := Lib.hid (csl_at ho hh hm1)
  have HAT := Lib.hid (HAL.out L (Int.le_refl _) HLB.out.2)
  rw [HAT.out] at hm1 ⊢
  obtain ⟨N, HN⟩ : ∃ N, Hid (C.length = N) := ⟨_, rfl⟩
  have HXN : Hid (xs.length = N) := by unfold Hid; have := congrArg List.length hm1; rw [List.length_map, List.length_map, HN.out] at this; exact this
  have HM1 := Lib.hid hm1
  rw [HN.out] at hC100
  rw [HXN.out]
  have HX4 := Lib.hid ((HX2.out.trans x3).trans x4)
  have HS4 := Lib.hid ((HS.out.ext x3).ext x4)
  have HR4 := Lib.hid (HR.out.ext HX4.out)
  clear hm1 ho hh x3 x4
  go_wp2_with fail
  refine (pick_c day 2000 _ hday (by omega)).mono ?_
  rintro e w5 ⟨rfl, rfl⟩
  have HPB := Lib.hid (pickP_bd day (show (1 : Int) ≤ 2000 by omega))
  obtain ⟨P, HP⟩ : ∃ P, Hid (pickP day 2000 = P) := ⟨_, rfl⟩
  rw [HP.out] at HPB ⊢
  have hLP := IntWalk.i64_in (L + P) (by have := HLB.out; have := HPB.out; omega)
  have hlk : Owns w4.heap.size 3 1 encI (w4.alloc (.cells #[.int .i64 (L + P)] 3)) (.slice (some ⟨w4.heap.size, 0, none⟩) 1 1) [L + P] := Owns.litI (L + P) (Nat.le_refl _)
  have hx5 := (Ext.refl w4).alloc (.cells #[.int .i64 (L + P)] 3)
  have HB0 : Hid (∀ x ∈ [L + P], -1 ≤ x ∧ x ≤ 70000) := by intro x hx; rw [List.mem_singleton] at hx; have := HLB.out; have := HPB.out; omega
  go_upto_region 9 with fail
  generalize w4.alloc (.cells #[.int .i64 (L + P)] 3) = W at hlk hx5 ⊢
  clear hLP
  go_wp2_with fail
  go_loopw [9, 44] (fun v i wr => ∃ (k : Nat) (lk : List Int), k ≤ N ∧ i = .int .i64 k ∧ Owns w4.heap.size 3 1 encI wr v lk ∧ Hid (lk.length = 1 + 4 * k) ∧ Hid (∀ x ∈ lk, -1 ≤ x ∧ x ≤ 70000) ∧ Ext w4 wr) (fun _ i _ => N - (intOf i).toNat)
  case atStart => exact ⟨0, [L + P], Nat.zero_le _, rfl, hlk, rfl, HB0, hx5⟩
  case round =>
    obtain ⟨k, lk, hk, rfl, hown, HLK, HLD, hx⟩ := hrel
    clear hlk hx5
    by_cases hlt : k < N
    · have hlt1 : (k : Int) < (N : Int) := by omega
      have hkx : k < xs.length := by rw [HXN.out]; exact hlt
      have hkC : k < C.length := by rw [HN.out]; exact hlt
      obtain ⟨q1, o1, a, pa, ca, rfl, hl1, ⟨a0, a1, a2, a3, a4, a5, a6, a7, a8, a9⟩, HA⟩ := (HC.out.ext hx).sl.atC k hkx
      have hbd : (0 ≤ a.due ∧ a.due ≤ 66000) ∧ 1 ≤ a.dy ∧ a.dy ≤ 400 := by
        have h1 := case_at HM1.out hkx hkC
        rw [HA.out] at h1
        have h2 := (HCI.out C[k] (List.getElem_mem hkC)).pass (Int.le_refl _) HLB.out.2
        rw [show a = onP C[k] L from h1]
        exact ⟨h2.due, h2.dy⟩
      have hB := heap_new wr (.cells #[.bool a.el, .int .u8 a.st, .int .i64 a.op, .int .i64 a.dy, .int .i64 a.ch, .int .i64 a.lv, .int .i64 a.due, .bool a.hd, .int .i64 a.sn, .slice pa a.held.length ca] 39)
      have hxa := (Ext.refl wr).alloc (.cells #[.bool a.el, .int .u8 a.st, .int .i64 a.op, .int .i64 a.dy, .int .i64 a.ch, .int .i64 a.lv, .int .i64 a.due, .bool a.hd, .int .i64 a.sn, .slice pa a.held.length ca] 39)
      have HOW := Lib.hid (hown.ext hxa)
      have HXW := Lib.hid (hx.trans hxa)
      go_upto_region 12 with fail
      obtain ⟨X, HXX⟩ : ∃ x, Hid (wr.heap.size = x) := ⟨_, rfl⟩
      rw [HXX.out] at hB ⊢
      generalize wr.alloc (.cells #[.bool a.el, .int .u8 a.st, .int .i64 a.op, .int .i64 a.dy, .int .i64 a.ch, .int .i64 a.lv, .int .i64 a.due, .bool a.hd, .int .i64 a.sn, .slice pa a.held.length ca] 39) = W2 at hB HOW HXW ⊢
      clear hxa a0 a1 a2 a3 a4 a5 a6 a7 a8 a9 hl1 hown hx
      obtain ⟨_, _, _, m3, _, _, m6, _, _, _⟩ := cells10 hB
      have hXl := lt_of hB
      have hd1 := IntWalk.i64_in (a.due - 1) (by omega)
      have hd2 := IntWalk.i64_in (a.due + a.dy) (by omega)
      have hd3 := IntWalk.i64_in (a.due + 1) (by omega)
      have hd4 := IntWalk.i64_in (a.due + 1 + a.dy) (by omega)
      have HND : Hid (∀ x ∈ lk ++ [a.due - 1, a.due, a.due + a.dy, a.due + 1 + a.dy], -1 ≤ x ∧ x ≤ 70000) := by
        intro x hx
        rcases List.mem_append.1 hx with hx | hx
        · exact HLD.out x hx
        · simp only [List.mem_cons, List.not_mem_nil, or_false] at hx
          omega
      go_wp2_with (at_builtin; refine wpList_append_many (w0 := w4) rfl _ _ 44 3 8 _ encI_len encI_one (by decide) rfl Tryd.underlying44 infoI rfl lk [a.due - 1, a.due, a.due + a.dy, a.due + 1 + a.dy] (Owns.alloc HOW.out _) (HXW.out.alloc _) _ 4 rfl rfl (Sl.litI _ _ _ _ rfl) (by have := HLK.out; simp only [List.length_cons, List.length_nil]; omega) (by have := HLK.out; simp only [List.length_cons, List.length_nil]; omega) ?_; intro v3 w3 hown3 hb3 hg3)
      go_roundw
      case rel => exact ⟨k + 1, lk ++ [a.due - 1, a.due, a.due + a.dy, a.due + 1 + a.dy], by omega, by go_num, hown3, by (unfold Hid; rw [List.length_append, HLK.out]; simp only [List.length_cons, List.length_nil]; omega), HND, hb3⟩
      case measure => simp [intOf]; omega
    · have hlt1 : ¬ (k : Int) < (N : Int) := by omega
      obtain ⟨pk, ck, rfl, hsk⟩ := hown.read encI_len
      obtain ⟨nk, HNK⟩ : ∃ nk, Hid (lk.length = nk) := ⟨_, rfl⟩
      have hnk : nk ≤ 1000 := by rw [← HNK.out, HLK.out]; omega
      rw [HNK.out]
      have HSK := Lib.hid hsk
      have HX6 := Lib.hid (HX4.out.trans hx)
      have HS6 := Lib.hid (HS4.out.ext hx)
      have HR6 := Lib.hid (HR4.out.ext hx)
      clear hsk hown hx hlt1
      obtain ⟨wb, rfl⟩ : ∃ wb : World, wb = wr := ⟨_, rfl⟩
      go_wp2_with fail
      go_loopw [70] (fun i wr => ∃ j : Nat, j ≤ nk ∧ i = .int .i64 j ∧ Ext wb wr) (fun i _ => nk - (intOf i).toNat)
      case atStart => exact ⟨0, Nat.zero_le _, rfl, Ext.refl _⟩
      case round =>
        obtain ⟨j, hj, rfl, hxj⟩ := hrel
        by_cases hltj : j < nk
        · have hltj1 : (j : Int) < (nk : Int) := by omega
          have hltB : decide ((j : Int) < (nk : Int)) = true := by simpa using hltj1
          obtain ⟨bk, ofk, d, rfl, hbk, ck0, HDK⟩ := (HSK.out.ext hxj).atI j (by rw [HNK.out]; exact hltj)
          have hdb : -1 ≤ d ∧ d ≤ 70000 := HLD.out d (by rw [← HDK.out]; exact List.getElem_mem _)
          have hdw := IntWalk.i64_in (d + 1) (by omega)
          have hdw2 := IntWalk.i64_in (d + 2) (by omega)
          by_cases hd0 : d < L
          · have q0 : decide (d < L) = true := by simpa using hd0
            go_wp2_with fail
            go_roundw
            case rel => exact ⟨j + 1, by omega, by go_num, hxj⟩
            case measure => simp [intOf]; omega
          · have q0 : decide (d < L) = false := by simpa using hd0
            by_cases hd6 : 65536 ≤ d + 1
            · have q6 : decide (65536 ≤ d + 1) = true := by simpa using hd6
              go_wp2_with fail
              go_roundw
              case rel => exact ⟨j + 1, by omega, by go_num, hxj⟩
              case measure => simp [intOf]; omega
            · have q6 : decide (65536 ≤ d + 1) = false := by simpa using hd6
              have HDB : Hid (L ≤ d ∧ d + 1 ≤ 65535) := by unfold Hid; omega
              have HSj := Lib.hid (HS6.out.ext hxj)
              have HRj := Lib.hid (HR6.out.ext hxj)
              clear hd0 hd6
              obtain ⟨wo, rfl⟩ : ∃ wo : World, wo = wr := ⟨_, rfl⟩
              go_wp2_with fail
              refine (at_c fs d pf cf m _ HSj.out (by omega) HRj.out HK.out).mono ?_
              rintro e w7 ⟨p1, cap1, ys, rfl, hm7, ho7, hh7, x7⟩
              have HC7 := Lib.hid (csl_at ho7 hh7 hm7)
              have HAT7 := Lib.hid (HAL.out d HDB.out.1 (by have := HDB.out; omega))
              rw [HAT7.out] at hm7 ⊢
              have HYN : Hid (ys.length = N) := by unfold Hid; have := congrArg List.length hm7; rw [List.length_map, List.length_map, HN.out] at this; exact this
              have HM7 := Lib.hid hm7
              rw [HYN.out]
              clear hm7 ho7 hh7 ck0 hbk q0 q6
              go_wp2_with fail
              refine (at_c fs (d + 1) pf cf m _ (HSj.out.ext x7) (by omega) (HRj.out.ext x7) HK.out).mono ?_
              rintro e W3o ⟨p2, cap2, zs, rfl, hm8, ho8, hh8, x8⟩
              have HC8 := Lib.hid (csl_at ho8 hh8 hm8)
              have HAT8 := Lib.hid (HAL.out (d + 1) (by have := HDB.out; omega) HDB.out.2)
              rw [HAT8.out] at hm8 ⊢
              have HZN : Hid (zs.length = N) := by unfold Hid; have := congrArg List.length hm8; rw [List.length_map, List.length_map, HN.out] at this; exact this
              have HM8 := Lib.hid hm8
              rw [HZN.out]
              have HC78 := Lib.hid (HC7.out.ext x8)
              have HXJ := Lib.hid ((hxj.trans x7).trans x8)
              clear hm8 ho8 hh8 x7 x8 hxj
              go_wp2_with fail
              go_loopw [108] (fun i wr => ∃ k : Nat, k ≤ N ∧ i = .int .i64 k ∧ Ext W3o wr) (fun i _ => N - (intOf i).toNat)
              case atStart => exact ⟨0, Nat.zero_le _, rfl, Ext.refl _⟩
              case round =>
                obtain ⟨k, hk, rfl, hxk⟩ := hrel
                by_cases hltk : k < N
                · have hltk1 : (k : Int) < (N : Int) := by omega
                  have hky : k < ys.length := by rw [HYN.out]; exact hltk
                  have hkz : k < zs.length := by rw [HZN.out]; exact hltk
                  have hkC : k < C.length := by rw [HN.out]; exact hltk
                  obtain ⟨q1, o1, a, pa, ca, rfl, hl1, ⟨a0, a1, a2, a3, a4, a5, a6, a7, a8, a9⟩, HA⟩ := (HC78.out.ext hxk).sl.atC k hky
                  obtain ⟨q2, o2, b, pb, cb, rfl, hl2, ⟨b0, b1, b2, b3, b4, b5, b6, b7, b8, b9⟩, HB⟩ := (HC8.out.ext hxk).sl.atC k hkz
                  have hao := case_at HM7.out hky hkC
                  have hbo := case_at HM8.out hkz hkC
                  rw [HA.out] at hao
                  rw [HB.out] at hbo
                  have htf : TimeF a b d := by
                    rw [show a = onP C[k] d from hao, show b = onP C[k] (d + 1) from hbo]
                    exact time_f (HCI.out C[k] (List.getElem_mem hkC)) HLB.out.1 HDB.out.1 HDB.out.2
                  have hsa : Sl 2 enc2 wr pa a.held := by have := (HC78.out.held _ (List.getElem_mem hky)).ext hxk; rw [HA.out] at this; exact this
                  have hsb : Sl 2 enc2 wr pb b.held := by have := (HC8.out.held _ (List.getElem_mem hkz)).ext hxk; rw [HB.out] at this; exact this
                  clear hao hbo hky hkz hkC HA HB
                  obtain ⟨el, st, op, dy, ch, lv, due, hd, sn, held⟩ := a
                  obtain ⟨HOK, hst, hdy, hdue, hhd, hb⟩ := htf
                  dsimp only at HOK hst hdy hdue hhd a0 a1 a2 a3 a4 a5 a6 a7 a8 a9 hsa
                  replace HOK := Lib.hid HOK
                  have HOK1 := Lib.hid (one_ok (d := d) (by have := HLB.out; have := HDB.out; omega) (by have := HDB.out; omega))
                  obtain ⟨U, HUD⟩ : ∃ U, Hid (uS held [(d + 1, d + 2)] = U) := ⟨_, rfl⟩
                  have HU : Hid (combV (fun x y => x || y) held [(d + 1, d + 2)] = U) := (combV_ok _ HOK.out HOK1.out).trans HUD.out
                  have HE0 : Hid (combE held [(d + 1, d + 2)] = 0) := combE_ok HOK.out HOK1.out
                  have HLU : Hid (U.length ≤ 1000000) := by unfold Hid; rw [← HUD.out]; exact (uS_spec HOK.out HOK1.out).1.len6
                  have HLA : Hid (held.length ≤ 1000000) := HOK.out.len6
                  have HSA := Lib.hid hsa
                  unfold wantP at hb
                  dsimp only at hb
                  clear hsa
                  by_cases hS : d + 1 ≤ due ∨ 4 ≤ st
                  · rw [if_pos hS] at hb
                    cases hd with
                    | true =>
                      obtain rfl : st = 3 := hhd rfl
                      have qd : decide (d + 1 ≤ due) = true := by simp; omega
                      rw [if_pos rfl, HUD.out] at hb
                      subst hb
                      have HSB := Lib.hid hsb
                      clear hS hhd hst hsb
                      dsimp only at b0 b1 b2 b3 b4 b5 b6 b7 b8 b9
                      have hB1 : (((wr.alloc (.cells #[.bool el, .int .u8 3, .int .i64 op, .int .i64 dy, .int .i64 ch, .int .i64 lv, .int .i64 due, .bool true, .int .i64 sn, .slice pa held.length ca] 39)).alloc (.cells #[.bool el, .int .u8 3, .int .i64 op, .int .i64 dy, .int .i64 ch, .int .i64 lv, .int .i64 due, .bool true, .int .i64 sn, .slice pa held.length ca] 39))).heap[wr.heap.size]? = some (.cells #[.bool el, .int .u8 3, .int .i64 op, .int .i64 dy, .int .i64 ch, .int .i64 lv, .int .i64 due, .bool true, .int .i64 sn, .slice pa held.length ca] 39) := heap_ext (heap_new wr _) (((Ext.refl _).alloc _))
                      have hB2 : (((wr.alloc (.cells #[.bool el, .int .u8 3, .int .i64 op, .int .i64 dy, .int .i64 ch, .int .i64 lv, .int .i64 due, .bool true, .int .i64 sn, .slice pa held.length ca] 39)).alloc (.cells #[.bool el, .int .u8 3, .int .i64 op, .int .i64 dy, .int .i64 ch, .int .i64 lv, .int .i64 due, .bool true, .int .i64 sn, .slice pa held.length ca] 39))).heap[wr.heap.size + 1]? = some (.cells #[.bool el, .int .u8 3, .int .i64 op, .int .i64 dy, .int .i64 ch, .int .i64 lv, .int .i64 due, .bool true, .int .i64 sn, .slice pa held.length ca] 39) := heap_new1 wr _ _
                      have hxa : Ext wr (((wr.alloc (.cells #[.bool el, .int .u8 3, .int .i64 op, .int .i64 dy, .int .i64 ch, .int .i64 lv, .int .i64 due, .bool true, .int .i64 sn, .slice pa held.length ca] 39)).alloc (.cells #[.bool el, .int .u8 3, .int .i64 op, .int .i64 dy, .int .i64 ch, .int .i64 lv, .int .i64 due, .bool true, .int .i64 sn, .slice pa held.length ca] 39))) := (((Ext.refl wr).alloc _).alloc _)
                      go_upto_region 30 with fail
                      generalize ((wr.alloc (.cells #[.bool el, .int .u8 3, .int .i64 op, .int .i64 dy, .int .i64 ch, .int .i64 lv, .int .i64 due, .bool true, .int .i64 sn, .slice pa held.length ca] 39)).alloc (.cells #[.bool el, .int .u8 3, .int .i64 op, .int .i64 dy, .int .i64 ch, .int .i64 lv, .int .i64 due, .bool true, .int .i64 sn, .slice pa held.length ca] 39)) = W3 at hB1 hB2 hxa ⊢
                      obtain ⟨Y, HY⟩ : ∃ y, Hid (wr.heap.size + 1 = y) := ⟨_, rfl⟩
                      obtain ⟨X, HX⟩ : ∃ x, Hid (wr.heap.size = x) := ⟨_, rfl⟩
                      rw [HY.out] at hB2 ⊢
                      rw [HX.out] at hB1 ⊢
                      obtain ⟨m0, m1, m2, m3, m4, m5, m6, m7, m8, m9⟩ := cells10 hB1
                      have hXl := lt_of hB1
                      have hYl3 := lt_of hB2
                      have HB2 := Lib.hid hB2
                      have HXA := Lib.hid hxa
                      have hsx := HSA.out.ext (hxa.alloc (.cells #[.int .i64 (d + 1), .int .i64 (d + 2)] 57))
                      clear hB1 hB2 hxa m0 m1 m2 m3 m4 m5 m6 m7 m8
                      go_wp2_with fail
                      refine (union_any held [(d + 1, d + 2)] pa _ ca 1 _ hsx (Sl.lit [(d + 1, d + 2)] rfl) HOK.out.len6 (by simp)).mono ?_
                      rintro e w9 ⟨vu, he9, hou, x9⟩
                      rw [HU.out] at hou
                      rw [HE0.out] at he9
                      subst he9
                      obtain ⟨pu, cu, rfl, hsu⟩ := hou.read enc2_len
                      have X9 : Ext W3 w9 := ((Ext.refl W3).alloc _).trans x9
                      have hY9 := heap_ext HB2.out X9
                      have hYl := lt_of hY9
                      obtain ⟨n0, n1, n2, n3, n4, n5, n6, n7, n8, n9⟩ := cells10 hY9
                      have HXZ := Lib.hid ((hxk.trans HXA.out).trans X9)
                      have hXr := HXA.out.trans X9
                      clear m9 hXl x9 hsx
                      have hfz := frozen_of (j := 9) hY9
                      have hY10 : (w9.setCell ⟨Y, 9, none⟩ (.slice pu U.length cu)).heap[Y]? = some (.cells #[.bool el, .int .u8 3, .int .i64 op, .int .i64 dy, .int .i64 ch, .int .i64 lv, .int .i64 due, .bool true, .int .i64 sn, .slice pu U.length cu] 39) := heap_same hY9
                      have hou2 := Owns.setPast hou (b := Y) (by show Y < (W3.alloc (.cells #[.int .i64 (d + 1), .int .i64 (d + 2)] 57)).heap.size; simp; omega) 9 (.slice pu U.length cu)
                      have hX10 := HXZ.out.setCell (p := ⟨Y, 9, none⟩) (by show W3o.heap.size ≤ Y; have := hxk.size; have := HY.out; omega) (.slice pu U.length cu)
                      have hXs := hXr.setCell (p := ⟨Y, 9, none⟩) (by show wr.heap.size ≤ Y; have := HY.out; omega) (.slice pu U.length cu)
                      go_upto_region 33 with fail
                      generalize w9.setCell ⟨Y, 9, none⟩ (.slice pu U.length cu) = w10 at hY10 hou2 hX10 hXs ⊢
                      clear n0 n1 n2 n3 n4 n5 n6 n7 n8 n9 hfz hYl hY9 hXr hou hsu
                      obtain ⟨n0, n1, n2, n3, n4, n5, n6, n7, n8, n9⟩ := cells10 hY10
                      have hYl := lt_of hY10
                      have hsw : Sl 2 enc2 w10 pu U := hou2.slOf enc2_len
                      have hsb := HSB.out.ext hXs
                      have e0 := keep_cell2 b0 hXs
                      have e1 := keep_cell2 b1 hXs
                      have e2 := keep_cell2 b2 hXs
                      have e3 := keep_cell2 b3 hXs
                      have e4 := keep_cell2 b4 hXs
                      have e5 := keep_cell2 b5 hXs
                      have e6 := keep_cell2 b6 hXs
                      have e7 := keep_cell2 b7 hXs
                      have e8 := keep_cell2 b8 hXs
                      have e9 := keep_cell2 b9 hXs
                      have hbl := lt_cell2 e0
                      clear b0 b1 b2 b3 b4 b5 b6 b7 b8 b9 hl2
                      have HSW := Lib.hid hsw
                      have HSBB := Lib.hid hsb
                      go_region_held3 (fun w' => w'.cell? ⟨q2, o2 + k * 10, none⟩ = some (.bool el) ∧ w'.cell? ⟨q2, o2 + k * 10 + 1, none⟩ = some (.int .u8 3) ∧ w'.cell? ⟨q2, o2 + k * 10 + 2, none⟩ = some (.int .i64 op) ∧ w'.cell? ⟨q2, o2 + k * 10 + 3, none⟩ = some (.int .i64 dy) ∧ w'.cell? ⟨q2, o2 + k * 10 + 4, none⟩ = some (.int .i64 ch) ∧ w'.cell? ⟨q2, o2 + k * 10 + 5, none⟩ = some (.int .i64 lv) ∧ w'.cell? ⟨q2, o2 + k * 10 + 6, none⟩ = some (.int .i64 due) ∧ w'.cell? ⟨q2, o2 + k * 10 + 7, none⟩ = some (.bool true) ∧ w'.cell? ⟨q2, o2 + k * 10 + 8, none⟩ = some (.int .i64 sn) ∧ w'.cell? ⟨q2, o2 + k * 10 + 9, none⟩ = some (.slice pb U.length cb) ∧ w'.cell? ⟨Y, 0, none⟩ = some (.bool el) ∧ w'.cell? ⟨Y, 1, none⟩ = some (.int .u8 3) ∧ w'.cell? ⟨Y, 2, none⟩ = some (.int .i64 op) ∧ w'.cell? ⟨Y, 3, none⟩ = some (.int .i64 dy) ∧ w'.cell? ⟨Y, 4, none⟩ = some (.int .i64 ch) ∧ w'.cell? ⟨Y, 5, none⟩ = some (.int .i64 lv) ∧ w'.cell? ⟨Y, 6, none⟩ = some (.int .i64 due) ∧ w'.cell? ⟨Y, 7, none⟩ = some (.bool true) ∧ w'.cell? ⟨Y, 8, none⟩ = some (.int .i64 sn) ∧ w'.cell? ⟨Y, 9, none⟩ = some (.slice pu U.length cu)) ((repeat' apply And.intro) <;> (refine keep_cell2 (w0 := w10) (by assumption) (by first | assumption | exact (Ext.refl _).drew)))
                        (first
                          | (go_at_call 17; (with_reducible refine (stays_lit el 3 op dy ch lv due true sn U pb pu cb cu _ (HSBB.out.ext (Ext.refl _).drew) (HSW.out.ext (Ext.refl _).drew) HLU.out).mono ?_); rintro e wz ⟨rfl, hxz⟩; have X1 : Ext w10 wz := ((Ext.refl w10).drew).trans hxz; clear hxz))
                      all_goals
                        go_wp2_with fail
                        go_roundw
                        case rel => exact ⟨k + 1, by omega, by go_num, (hX10).trans X1⟩
                        case measure => simp [intOf]; omega
                    | false =>
                      rw [if_neg (by simp)] at hb
                      subst hb
                      have HSB := Lib.hid hsb
                      dsimp only at b0 b1 b2 b3 b4 b5 b6 b7 b8 b9
                      go_upto_region 27 with fail
                      go_cut [123] (fun s wx => s = .bool true ∧ wx = (wr.alloc (.cells #[.bool el, .int .u8 st, .int .i64 op, .int .i64 dy, .int .i64 ch, .int .i64 lv, .int .i64 due, .bool false, .int .i64 sn, .slice pa held.length ca] 39)).alloc (.cells #[.bool el, .int .u8 st, .int .i64 op, .int .i64 dy, .int .i64 ch, .int .i64 lv, .int .i64 due, .bool false, .int .i64 sn, .slice pa held.length ca] 39))
                      case first =>
                        by_cases h1 : d + 1 ≤ due
                        · have qd : decide (d + 1 ≤ due) = true := by simpa using h1
                          clear hS h1
                          go_wp2_with fail
                          go_meet
                          exact ⟨rfl, rfl⟩
                        · have qd : decide (d + 1 ≤ due) = false := by simpa using h1
                          by_cases h4 : st = 4
                          · subst h4
                            clear hS h1
                            go_wp2_with fail
                            go_meet
                            exact ⟨rfl, rfl⟩
                          · have h5 : st = 5 := by omega
                            subst h5
                            clear hS h1 h4
                            go_wp2_with fail
                            go_meet
                            exact ⟨rfl, rfl⟩
                      case rest =>
                      obtain ⟨rfl, rfl⟩ := hcut
                      clear hS hhd hst hsb
                      have hB1 : (((wr.alloc (.cells #[.bool el, .int .u8 st, .int .i64 op, .int .i64 dy, .int .i64 ch, .int .i64 lv, .int .i64 due, .bool false, .int .i64 sn, .slice pa held.length ca] 39)).alloc (.cells #[.bool el, .int .u8 st, .int .i64 op, .int .i64 dy, .int .i64 ch, .int .i64 lv, .int .i64 due, .bool false, .int .i64 sn, .slice pa held.length ca] 39))).heap[wr.heap.size]? = some (.cells #[.bool el, .int .u8 st, .int .i64 op, .int .i64 dy, .int .i64 ch, .int .i64 lv, .int .i64 due, .bool false, .int .i64 sn, .slice pa held.length ca] 39) := heap_ext (heap_new wr _) (((Ext.refl _).alloc _))
                      have hB2 : (((wr.alloc (.cells #[.bool el, .int .u8 st, .int .i64 op, .int .i64 dy, .int .i64 ch, .int .i64 lv, .int .i64 due, .bool false, .int .i64 sn, .slice pa held.length ca] 39)).alloc (.cells #[.bool el, .int .u8 st, .int .i64 op, .int .i64 dy, .int .i64 ch, .int .i64 lv, .int .i64 due, .bool false, .int .i64 sn, .slice pa held.length ca] 39))).heap[wr.heap.size + 1]? = some (.cells #[.bool el, .int .u8 st, .int .i64 op, .int .i64 dy, .int .i64 ch, .int .i64 lv, .int .i64 due, .bool false, .int .i64 sn, .slice pa held.length ca] 39) := heap_new1 wr _ _
                      have hxa : Ext wr (((wr.alloc (.cells #[.bool el, .int .u8 st, .int .i64 op, .int .i64 dy, .int .i64 ch, .int .i64 lv, .int .i64 due, .bool false, .int .i64 sn, .slice pa held.length ca] 39)).alloc (.cells #[.bool el, .int .u8 st, .int .i64 op, .int .i64 dy, .int .i64 ch, .int .i64 lv, .int .i64 due, .bool false, .int .i64 sn, .slice pa held.length ca] 39))) := (((Ext.refl wr).alloc _).alloc _)
                      go_upto_region 30 with fail
                      generalize ((wr.alloc (.cells #[.bool el, .int .u8 st, .int .i64 op, .int .i64 dy, .int .i64 ch, .int .i64 lv, .int .i64 due, .bool false, .int .i64 sn, .slice pa held.length ca] 39)).alloc (.cells #[.bool el, .int .u8 st, .int .i64 op, .int .i64 dy, .int .i64 ch, .int .i64 lv, .int .i64 due, .bool false, .int .i64 sn, .slice pa held.length ca] 39)) = W3 at hB1 hB2 hxa ⊢
                      obtain ⟨Y, HY⟩ : ∃ y, Hid (wr.heap.size + 1 = y) := ⟨_, rfl⟩
                      obtain ⟨X, HX⟩ : ∃ x, Hid (wr.heap.size = x) := ⟨_, rfl⟩
                      rw [HY.out] at hB2 ⊢
                      rw [HX.out] at hB1 ⊢
                      obtain ⟨m0, m1, m2, m3, m4, m5, m6, m7, m8, m9⟩ := cells10 hB1
                      have hXl := lt_of hB1
                      have hYl3 := lt_of hB2
                      have HB2 := Lib.hid hB2
                      have HXA := Lib.hid hxa
                      have hsx := HSA.out.ext (hxa.alloc (.cells #[.int .i64 (d + 1), .int .i64 (d + 2)] 57))
                      clear hB1 hB2 hxa m0 m1 m2 m3 m4 m5 m6 m7 m8
                      go_wp2_with fail
                      refine (union_any held [(d + 1, d + 2)] pa _ ca 1 _ hsx (Sl.lit [(d + 1, d + 2)] rfl) HOK.out.len6 (by simp)).mono ?_
                      rintro e w9 ⟨vu, he9, hou, x9⟩
                      rw [HU.out] at hou
                      rw [HE0.out] at he9
                      subst he9
                      obtain ⟨pu, cu, rfl, hsu⟩ := hou.read enc2_len
                      have X9 : Ext W3 w9 := ((Ext.refl W3).alloc _).trans x9
                      have hY9 := heap_ext HB2.out X9
                      have hYl := lt_of hY9
                      obtain ⟨n0, n1, n2, n3, n4, n5, n6, n7, n8, n9⟩ := cells10 hY9
                      have HXZ := Lib.hid ((hxk.trans HXA.out).trans X9)
                      have hXr := HXA.out.trans X9
                      clear m9 hXl x9 hsx
                      go_upto_region 33 with fail
                      have hsw : Sl 2 enc2 w9 pa held := HSA.out.ext hXr
                      have hsb := HSB.out.ext hXr
                      have e0 := keep_cell2 b0 hXr
                      have e1 := keep_cell2 b1 hXr
                      have e2 := keep_cell2 b2 hXr
                      have e3 := keep_cell2 b3 hXr
                      have e4 := keep_cell2 b4 hXr
                      have e5 := keep_cell2 b5 hXr
                      have e6 := keep_cell2 b6 hXr
                      have e7 := keep_cell2 b7 hXr
                      have e8 := keep_cell2 b8 hXr
                      have e9 := keep_cell2 b9 hXr
                      have hbl := lt_cell2 e0
                      clear b0 b1 b2 b3 b4 b5 b6 b7 b8 b9 hl2
                      have HSW := Lib.hid hsw
                      have HSBB := Lib.hid hsb
                      go_region_held3 (fun w' => w'.cell? ⟨q2, o2 + k * 10, none⟩ = some (.bool el) ∧ w'.cell? ⟨q2, o2 + k * 10 + 1, none⟩ = some (.int .u8 st) ∧ w'.cell? ⟨q2, o2 + k * 10 + 2, none⟩ = some (.int .i64 op) ∧ w'.cell? ⟨q2, o2 + k * 10 + 3, none⟩ = some (.int .i64 dy) ∧ w'.cell? ⟨q2, o2 + k * 10 + 4, none⟩ = some (.int .i64 ch) ∧ w'.cell? ⟨q2, o2 + k * 10 + 5, none⟩ = some (.int .i64 lv) ∧ w'.cell? ⟨q2, o2 + k * 10 + 6, none⟩ = some (.int .i64 due) ∧ w'.cell? ⟨q2, o2 + k * 10 + 7, none⟩ = some (.bool false) ∧ w'.cell? ⟨q2, o2 + k * 10 + 8, none⟩ = some (.int .i64 sn) ∧ w'.cell? ⟨q2, o2 + k * 10 + 9, none⟩ = some (.slice pb held.length cb) ∧ w'.cell? ⟨Y, 0, none⟩ = some (.bool el) ∧ w'.cell? ⟨Y, 1, none⟩ = some (.int .u8 st) ∧ w'.cell? ⟨Y, 2, none⟩ = some (.int .i64 op) ∧ w'.cell? ⟨Y, 3, none⟩ = some (.int .i64 dy) ∧ w'.cell? ⟨Y, 4, none⟩ = some (.int .i64 ch) ∧ w'.cell? ⟨Y, 5, none⟩ = some (.int .i64 lv) ∧ w'.cell? ⟨Y, 6, none⟩ = some (.int .i64 due) ∧ w'.cell? ⟨Y, 7, none⟩ = some (.bool false) ∧ w'.cell? ⟨Y, 8, none⟩ = some (.int .i64 sn) ∧ w'.cell? ⟨Y, 9, none⟩ = some (.slice pa held.length ca)) ((repeat' apply And.intro) <;> (refine keep_cell2 (w0 := w9) (by assumption) (by first | assumption | exact (Ext.refl _).drew)))
                        (first
                          | (go_at_call 17; (with_reducible refine (stays_lit el st op dy ch lv due false sn held pb pa cb ca _ (HSBB.out.ext (Ext.refl _).drew) (HSW.out.ext (Ext.refl _).drew) HLA.out).mono ?_); rintro e wz ⟨rfl, hxz⟩; have X1 : Ext w9 wz := ((Ext.refl w9).drew).trans hxz; clear hxz))
                      all_goals
                        go_wp2_with fail
                        go_roundw
                        case rel => exact ⟨k + 1, by omega, by go_num, (HXZ.out).trans X1⟩
                        case measure => simp [intOf]; omega
                  · rw [if_neg hS] at hb
                    have qd : decide (d + 1 ≤ due) = false := by simp; omega
                    have q4 : (st == 4) = false := by simp; omega
                    have q5 : (st == 5) = false := by simp; omega
                    by_cases hF : st ≠ 3 ∨ lv = 3
                    · rw [if_pos hF] at hb
                      dsimp only at hb
                      rw [if_neg (by decide)] at hb
                      subst hb
                      have HSB := Lib.hid hsb
                      dsimp only at b0 b1 b2 b3 b4 b5 b6 b7 b8 b9
                      go_upto_region 28 with fail
                      go_cut [139] (fun s wx => s = .bool true ∧ wx = (wr.alloc (.cells #[.bool el, .int .u8 st, .int .i64 op, .int .i64 dy, .int .i64 ch, .int .i64 lv, .int .i64 due, .bool hd, .int .i64 sn, .slice pa held.length ca] 39)).alloc (.cells #[.bool el, .int .u8 st, .int .i64 op, .int .i64 dy, .int .i64 ch, .int .i64 lv, .int .i64 due, .bool hd, .int .i64 sn, .slice pa held.length ca] 39))
                      case first =>
                        by_cases h3 : st = 3
                        · have q3 : (st == 3) = true := by simp [h3]
                          have ql : (lv == 3) = true := by simp; omega
                          have H3 := Lib.hid h3
                          clear hF hS h3
                          go_wp2_with fail
                          all_goals
                            go_meet
                            exact ⟨rfl, by first | rfl | (rw [H3.out])⟩
                        · have q3 : (st == 3) = false := by simpa using h3
                          have H3 := Lib.hid h3
                          clear hF hS h3
                          go_wp2_with fail
                          all_goals first
                            | (go_meet; exact ⟨rfl, rfl⟩)
                            | (exfalso; exact H3.out (by assumption))
                            | (exfalso; have := H3.out; simp_all)
                      case rest =>
                      obtain ⟨rfl, rfl⟩ := hcut
                      clear hS hhd hst hsb hF
                      have hB1 : (((wr.alloc (.cells #[.bool el, .int .u8 st, .int .i64 op, .int .i64 dy, .int .i64 ch, .int .i64 lv, .int .i64 due, .bool hd, .int .i64 sn, .slice pa held.length ca] 39)).alloc (.cells #[.bool el, .int .u8 4, .int .i64 op, .int .i64 dy, .int .i64 ch, .int .i64 lv, .int .i64 (d + 1), .bool false, .int .i64 0, .slice pa held.length ca] 39))).heap[wr.heap.size]? = some (.cells #[.bool el, .int .u8 st, .int .i64 op, .int .i64 dy, .int .i64 ch, .int .i64 lv, .int .i64 due, .bool hd, .int .i64 sn, .slice pa held.length ca] 39) := heap_ext (heap_new wr _) (((Ext.refl _).alloc _))
                      have hB2 : (((wr.alloc (.cells #[.bool el, .int .u8 st, .int .i64 op, .int .i64 dy, .int .i64 ch, .int .i64 lv, .int .i64 due, .bool hd, .int .i64 sn, .slice pa held.length ca] 39)).alloc (.cells #[.bool el, .int .u8 4, .int .i64 op, .int .i64 dy, .int .i64 ch, .int .i64 lv, .int .i64 (d + 1), .bool false, .int .i64 0, .slice pa held.length ca] 39))).heap[wr.heap.size + 1]? = some (.cells #[.bool el, .int .u8 4, .int .i64 op, .int .i64 dy, .int .i64 ch, .int .i64 lv, .int .i64 (d + 1), .bool false, .int .i64 0, .slice pa held.length ca] 39) := heap_new1 wr _ _
                      have hxa : Ext wr (((wr.alloc (.cells #[.bool el, .int .u8 st, .int .i64 op, .int .i64 dy, .int .i64 ch, .int .i64 lv, .int .i64 due, .bool hd, .int .i64 sn, .slice pa held.length ca] 39)).alloc (.cells #[.bool el, .int .u8 4, .int .i64 op, .int .i64 dy, .int .i64 ch, .int .i64 lv, .int .i64 (d + 1), .bool false, .int .i64 0, .slice pa held.length ca] 39))) := (((Ext.refl wr).alloc _).alloc _)
                      go_upto_region 30 with fail
                      generalize ((wr.alloc (.cells #[.bool el, .int .u8 st, .int .i64 op, .int .i64 dy, .int .i64 ch, .int .i64 lv, .int .i64 due, .bool hd, .int .i64 sn, .slice pa held.length ca] 39)).alloc (.cells #[.bool el, .int .u8 4, .int .i64 op, .int .i64 dy, .int .i64 ch, .int .i64 lv, .int .i64 (d + 1), .bool false, .int .i64 0, .slice pa held.length ca] 39)) = W3 at hB1 hB2 hxa ⊢
                      obtain ⟨Y, HY⟩ : ∃ y, Hid (wr.heap.size + 1 = y) := ⟨_, rfl⟩
                      obtain ⟨X, HX⟩ : ∃ x, Hid (wr.heap.size = x) := ⟨_, rfl⟩
                      rw [HY.out] at hB2 ⊢
                      rw [HX.out] at hB1 ⊢
                      obtain ⟨m0, m1, m2, m3, m4, m5, m6, m7, m8, m9⟩ := cells10 hB1
                      have hXl := lt_of hB1
                      have hYl3 := lt_of hB2
                      have HB2 := Lib.hid hB2
                      have HXA := Lib.hid hxa
                      have hsx := HSA.out.ext (hxa.alloc (.cells #[.int .i64 (d + 1), .int .i64 (d + 2)] 57))
                      clear hB1 hB2 hxa m0 m1 m2 m3 m4 m5 m6 m7 m8
                      go_wp2_with fail
                      refine (union_any held [(d + 1, d + 2)] pa _ ca 1 _ hsx (Sl.lit [(d + 1, d + 2)] rfl) HOK.out.len6 (by simp)).mono ?_
                      rintro e w9 ⟨vu, he9, hou, x9⟩
                      rw [HU.out] at hou
                      rw [HE0.out] at he9
                      subst he9
                      obtain ⟨pu, cu, rfl, hsu⟩ := hou.read enc2_len
                      have X9 : Ext W3 w9 := ((Ext.refl W3).alloc _).trans x9
                      have hY9 := heap_ext HB2.out X9
                      have hYl := lt_of hY9
                      obtain ⟨n0, n1, n2, n3, n4, n5, n6, n7, n8, n9⟩ := cells10 hY9
                      have HXZ := Lib.hid ((hxk.trans HXA.out).trans X9)
                      have hXr := HXA.out.trans X9
                      clear m9 hXl x9 hsx
                      go_upto_region 33 with fail
                      have hsw : Sl 2 enc2 w9 pa held := HSA.out.ext hXr
                      have hsb := HSB.out.ext hXr
                      have e0 := keep_cell2 b0 hXr
                      have e1 := keep_cell2 b1 hXr
                      have e2 := keep_cell2 b2 hXr
                      have e3 := keep_cell2 b3 hXr
                      have e4 := keep_cell2 b4 hXr
                      have e5 := keep_cell2 b5 hXr
                      have e6 := keep_cell2 b6 hXr
                      have e7 := keep_cell2 b7 hXr
                      have e8 := keep_cell2 b8 hXr
                      have e9 := keep_cell2 b9 hXr
                      have hbl := lt_cell2 e0
                      clear b0 b1 b2 b3 b4 b5 b6 b7 b8 b9 hl2
                      have HSW := Lib.hid hsw
                      have HSBB := Lib.hid hsb
                      go_region_held3 (fun w' => w'.cell? ⟨q2, o2 + k * 10, none⟩ = some (.bool el) ∧ w'.cell? ⟨q2, o2 + k * 10 + 1, none⟩ = some (.int .u8 4) ∧ w'.cell? ⟨q2, o2 + k * 10 + 2, none⟩ = some (.int .i64 op) ∧ w'.cell? ⟨q2, o2 + k * 10 + 3, none⟩ = some (.int .i64 dy) ∧ w'.cell? ⟨q2, o2 + k * 10 + 4, none⟩ = some (.int .i64 ch) ∧ w'.cell? ⟨q2, o2 + k * 10 + 5, none⟩ = some (.int .i64 lv) ∧ w'.cell? ⟨q2, o2 + k * 10 + 6, none⟩ = some (.int .i64 (d + 1)) ∧ w'.cell? ⟨q2, o2 + k * 10 + 7, none⟩ = some (.bool false) ∧ w'.cell? ⟨q2, o2 + k * 10 + 8, none⟩ = some (.int .i64 0) ∧ w'.cell? ⟨q2, o2 + k * 10 + 9, none⟩ = some (.slice pb held.length cb) ∧ w'.cell? ⟨Y, 0, none⟩ = some (.bool el) ∧ w'.cell? ⟨Y, 1, none⟩ = some (.int .u8 4) ∧ w'.cell? ⟨Y, 2, none⟩ = some (.int .i64 op) ∧ w'.cell? ⟨Y, 3, none⟩ = some (.int .i64 dy) ∧ w'.cell? ⟨Y, 4, none⟩ = some (.int .i64 ch) ∧ w'.cell? ⟨Y, 5, none⟩ = some (.int .i64 lv) ∧ w'.cell? ⟨Y, 6, none⟩ = some (.int .i64 (d + 1)) ∧ w'.cell? ⟨Y, 7, none⟩ = some (.bool false) ∧ w'.cell? ⟨Y, 8, none⟩ = some (.int .i64 0) ∧ w'.cell? ⟨Y, 9, none⟩ = some (.slice pa held.length ca)) ((repeat' apply And.intro) <;> (refine keep_cell2 (w0 := w9) (by assumption) (by first | assumption | exact (Ext.refl _).drew)))
                        (first
                          | (go_at_call 17; (with_reducible refine (stays_lit el 4 op dy ch lv ((d + 1)) false 0 held pb pa cb ca _ (HSBB.out.ext (Ext.refl _).drew) (HSW.out.ext (Ext.refl _).drew) HLA.out).mono ?_); rintro e wz ⟨rfl, hxz⟩; have X1 : Ext w9 wz := ((Ext.refl w9).drew).trans hxz; clear hxz))
                      all_goals
                        go_wp2_with fail
                        go_roundw
                        case rel => exact ⟨k + 1, by omega, by go_num, (HXZ.out).trans X1⟩
                        case measure => simp [intOf]; omega
                    · rw [if_neg hF] at hb
                      dsimp only at hb
                      rw [if_neg (by decide)] at hb
                      subst hb
                      have HSB := Lib.hid hsb
                      dsimp only at b0 b1 b2 b3 b4 b5 b6 b7 b8 b9
                      obtain rfl : st = 3 := by omega
                      have ql : (lv == 3) = false := by simp; omega
                      have hdv := IntWalk.i64_in (d + 1 + dy) (by have := HDB.out; have := HLB.out; omega)
                      clear hS hhd hst hsb hF
                      go_upto_region 26 with fail
                      go_region
                      all_goals
                        have hB1 : (((wr.alloc (.cells #[.bool el, .int .u8 3, .int .i64 op, .int .i64 dy, .int .i64 ch, .int .i64 lv, .int .i64 due, .bool hd, .int .i64 sn, .slice pa held.length ca] 39)).alloc (.cells #[.bool el, .int .u8 2, .int .i64 op, .int .i64 dy, .int .i64 ch, .int .i64 lv, .int .i64 (d + 1 + dy), .bool false, .int .i64 0, .slice pa held.length ca] 39)).drew).heap[wr.heap.size]? = some (.cells #[.bool el, .int .u8 3, .int .i64 op, .int .i64 dy, .int .i64 ch, .int .i64 lv, .int .i64 due, .bool hd, .int .i64 sn, .slice pa held.length ca] 39) := heap_ext (heap_new wr _) (((Ext.refl _).alloc _).drew)
                        have hB2 : (((wr.alloc (.cells #[.bool el, .int .u8 3, .int .i64 op, .int .i64 dy, .int .i64 ch, .int .i64 lv, .int .i64 due, .bool hd, .int .i64 sn, .slice pa held.length ca] 39)).alloc (.cells #[.bool el, .int .u8 2, .int .i64 op, .int .i64 dy, .int .i64 ch, .int .i64 lv, .int .i64 (d + 1 + dy), .bool false, .int .i64 0, .slice pa held.length ca] 39)).drew).heap[wr.heap.size + 1]? = some (.cells #[.bool el, .int .u8 2, .int .i64 op, .int .i64 dy, .int .i64 ch, .int .i64 lv, .int .i64 (d + 1 + dy), .bool false, .int .i64 0, .slice pa held.length ca] 39) := heap_ext (heap_new1 wr _ _) (Ext.refl _).drew
                        have hxa : Ext wr (((wr.alloc (.cells #[.bool el, .int .u8 3, .int .i64 op, .int .i64 dy, .int .i64 ch, .int .i64 lv, .int .i64 due, .bool hd, .int .i64 sn, .slice pa held.length ca] 39)).alloc (.cells #[.bool el, .int .u8 2, .int .i64 op, .int .i64 dy, .int .i64 ch, .int .i64 lv, .int .i64 (d + 1 + dy), .bool false, .int .i64 0, .slice pa held.length ca] 39)).drew) := (((Ext.refl wr).alloc _).alloc _).drew
                        go_upto_region 30 with fail
                        generalize ((wr.alloc (.cells #[.bool el, .int .u8 3, .int .i64 op, .int .i64 dy, .int .i64 ch, .int .i64 lv, .int .i64 due, .bool hd, .int .i64 sn, .slice pa held.length ca] 39)).alloc (.cells #[.bool el, .int .u8 2, .int .i64 op, .int .i64 dy, .int .i64 ch, .int .i64 lv, .int .i64 (d + 1 + dy), .bool false, .int .i64 0, .slice pa held.length ca] 39)).drew = W3 at hB1 hB2 hxa ⊢
                        obtain ⟨Y, HY⟩ : ∃ y, Hid (wr.heap.size + 1 = y) := ⟨_, rfl⟩
                        obtain ⟨X, HX⟩ : ∃ x, Hid (wr.heap.size = x) := ⟨_, rfl⟩
                        rw [HY.out] at hB2 ⊢
                        rw [HX.out] at hB1 ⊢
                        obtain ⟨m0, m1, m2, m3, m4, m5, m6, m7, m8, m9⟩ := cells10 hB1
                        have hXl := lt_of hB1
                        have hYl3 := lt_of hB2
                        have HB2 := Lib.hid hB2
                        have HXA := Lib.hid hxa
                        have hsx := HSA.out.ext (hxa.alloc (.cells #[.int .i64 (d + 1), .int .i64 (d + 2)] 57))
                        clear hB1 hB2 hxa m0 m1 m2 m3 m4 m5 m6 m7 m8
                        go_wp2_with fail
                        refine (union_any held [(d + 1, d + 2)] pa _ ca 1 _ hsx (Sl.lit [(d + 1, d + 2)] rfl) HOK.out.len6 (by simp)).mono ?_
                        rintro e w9 ⟨vu, he9, hou, x9⟩
                        rw [HU.out] at hou
                        rw [HE0.out] at he9
                        subst he9
                        obtain ⟨pu, cu, rfl, hsu⟩ := hou.read enc2_len
                        have X9 : Ext W3 w9 := ((Ext.refl W3).alloc _).trans x9
                        have hY9 := heap_ext HB2.out X9
                        have hYl := lt_of hY9
                        obtain ⟨n0, n1, n2, n3, n4, n5, n6, n7, n8, n9⟩ := cells10 hY9
                        have HXZ := Lib.hid ((hxk.trans HXA.out).trans X9)
                        have hXr := HXA.out.trans X9
                        clear m9 hXl x9 hsx
                        go_upto_region 33 with fail
                        have hsw : Sl 2 enc2 w9 pa held := HSA.out.ext hXr
                        have hsb := HSB.out.ext hXr
                        have e0 := keep_cell2 b0 hXr
                        have e1 := keep_cell2 b1 hXr
                        have e2 := keep_cell2 b2 hXr
                        have e3 := keep_cell2 b3 hXr
                        have e4 := keep_cell2 b4 hXr
                        have e5 := keep_cell2 b5 hXr
                        have e6 := keep_cell2 b6 hXr
                        have e7 := keep_cell2 b7 hXr
                        have e8 := keep_cell2 b8 hXr
                        have e9 := keep_cell2 b9 hXr
                        have hbl := lt_cell2 e0
                        clear b0 b1 b2 b3 b4 b5 b6 b7 b8 b9 hl2
                        have HSW := Lib.hid hsw
                        have HSBB := Lib.hid hsb
                        go_region_held3 (fun w' => w'.cell? ⟨q2, o2 + k * 10, none⟩ = some (.bool el) ∧ w'.cell? ⟨q2, o2 + k * 10 + 1, none⟩ = some (.int .u8 2) ∧ w'.cell? ⟨q2, o2 + k * 10 + 2, none⟩ = some (.int .i64 op) ∧ w'.cell? ⟨q2, o2 + k * 10 + 3, none⟩ = some (.int .i64 dy) ∧ w'.cell? ⟨q2, o2 + k * 10 + 4, none⟩ = some (.int .i64 ch) ∧ w'.cell? ⟨q2, o2 + k * 10 + 5, none⟩ = some (.int .i64 lv) ∧ w'.cell? ⟨q2, o2 + k * 10 + 6, none⟩ = some (.int .i64 (d + 1 + dy)) ∧ w'.cell? ⟨q2, o2 + k * 10 + 7, none⟩ = some (.bool false) ∧ w'.cell? ⟨q2, o2 + k * 10 + 8, none⟩ = some (.int .i64 0) ∧ w'.cell? ⟨q2, o2 + k * 10 + 9, none⟩ = some (.slice pb held.length cb) ∧ w'.cell? ⟨Y, 0, none⟩ = some (.bool el) ∧ w'.cell? ⟨Y, 1, none⟩ = some (.int .u8 2) ∧ w'.cell? ⟨Y, 2, none⟩ = some (.int .i64 op) ∧ w'.cell? ⟨Y, 3, none⟩ = some (.int .i64 dy) ∧ w'.cell? ⟨Y, 4, none⟩ = some (.int .i64 ch) ∧ w'.cell? ⟨Y, 5, none⟩ = some (.int .i64 lv) ∧ w'.cell? ⟨Y, 6, none⟩ = some (.int .i64 (d + 1 + dy)) ∧ w'.cell? ⟨Y, 7, none⟩ = some (.bool false) ∧ w'.cell? ⟨Y, 8, none⟩ = some (.int .i64 0) ∧ w'.cell? ⟨Y, 9, none⟩ = some (.slice pa held.length ca)) ((repeat' apply And.intro) <;> (refine keep_cell2 (w0 := w9) (by assumption) (by first | assumption | exact (Ext.refl _).drew)))
                          (first
                            | (go_at_call 17; (with_reducible refine (stays_lit el 2 op dy ch lv ((d + 1 + dy)) false 0 held pb pa cb ca _ (HSBB.out.ext (Ext.refl _).drew) (HSW.out.ext (Ext.refl _).drew) HLA.out).mono ?_); rintro e wz ⟨rfl, hxz⟩; have X1 : Ext w9 wz := ((Ext.refl w9).drew).trans hxz; clear hxz))
                        all_goals
                          go_wp2_with fail
                          go_roundw
                          case rel => exact ⟨k + 1, by omega, by go_num, (HXZ.out).trans X1⟩
                          case measure => simp [intOf]; omega
                · have hltk1 : ¬ (k : Int) < (N : Int) := by omega
                  go_wp2_with fail
                  go_roundw
                  case rel => exact ⟨j + 1, by omega, by go_num, HXJ.out.trans hxk⟩
                  case measure => simp [intOf]; omega
        · have hltj1 : ¬ (j : Int) < (nk : Int) := by omega
          go_wp2_with fail
          go_ret
          exact ⟨rfl, HX6.out.trans hxj⟩
end Go.Proofs.YtalconpcpegmlaaDoor
