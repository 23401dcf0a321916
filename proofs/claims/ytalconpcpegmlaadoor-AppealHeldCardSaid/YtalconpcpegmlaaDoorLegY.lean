import Derived.Test.YtalconpcpegmlaaDoorLegP
/- annuitantlaw40.AppealHeld, walked. -/
namespace Go.Proofs.YtalconpcpegmlaaDoor
open Go.RowKit
set_option linter.unusedVariables false

/-- Held is what the cases on that day say, with the filings up to it. -/
theorem held_want {fs : List Fl} (hl : fs.length ≤ 1000) {T1 T2 : List Fl} (hT : takenP fs = T1 ++ T2) {d : Int} (h0 : 0 ≤ d) (hd : d ≤ 65535) (h1 : ∀ f ∈ T1, f.day ≤ d) (h2 : ∀ f ∈ T2, d < f.day) (n : Int) :
    heldR fs n d = (if n < 1 then false else match (dockP T1).1[(n - 1).toNat]? with | none => false | some c => decide ((onP c d).st = 3) && (onP c d).hd) := by
  have hTk := taken fs hl
  have hlen := hTk.len
  rw [hT] at hlen
  have hl1 : T1.length ≤ 1000 := by simp only [List.length_append] at hlen; omega
  have hla := (DI.dock fs).last
  unfold heldR
  by_cases hn : n < 1
  · rw [if_pos (.inl hn), if_pos hn]
  · rw [if_neg (by omega), if_neg hn]
    have hrun := hTk.run
    rw [hT] at hrun
    have hdk := hTk.dock
    rw [hT] at hdk
    have hp := pre_last hl1 h0 h1
    have := heldAt_later hp hd (n - 1).toNat T2 (by omega) h2 hrun
    rw [hdk] at this
    rw [this]
    exact heldAt_now (DI.dock T1) (n - 1).toNat hp hd h0
structure CaseF (a : Cs) : Prop where
  ok : Ok (-1) a.held
  el : a.el = true → a.held = []
  hd : a.hd = true → a.st = 3
  sn : a.hd = false → a.sn = 0
theorem case_f {c : Cs} {last d : Int} (h : CI c last) (hl : last ≤ d) (hd : d ≤ 65535) : CaseF (onP c d) := by
  have hC := h.pass hl hd
  refine ⟨(heldP_spec (d + 1) hC (by omega)).1, fun e => ?_, fun e => (hC.hd e).1, hC.sn⟩
  have := hC.el e
  exact (heldP_off (d + 1) this.2.2.1).trans this.2.2.2.1
theorem filt_step {T : List Fl} {k : Nat} {f : Fl} (d : Int) (h : k < T.length) (hf : T[k] = f) : (T.take (k + 1)).filter (fun f => decide (f.day ≤ d)) = (T.take k).filter (fun f => decide (f.day ≤ d)) ++ (if f.day ≤ d then [f] else []) := by
  rw [List.take_succ_eq_append_getElem h, hf, List.filter_append]
  congr 1
  by_cases hd : f.day ≤ d <;> simp [hd]
set_option maxHeartbeats 6400000 in
set_option maxRecDepth 100000 in
theorem heldLaw_c (l : List Nt) (n day : Int) (p : Option Addr) (c : Nat) (m : Option Nat) (w : World) (hl : Sl 5 encN w p l) (hm : l.length ≤ 9223372036854775807) (hu : BtU l) (hn : 0 ≤ n ∧ n ≤ 255) (hday : -9223372036854775808 ≤ day ∧ day ≤ 9223372036854775807) (hr : RowsAt m w) (haw : AwakeOk m) :
    Calls Tryd.prog 5 #[.slice p l.length c, .int .u8 n, .int .i64 day] w fun e w' => e = .returned (.bool true) ∧ Ext w w' := by
  have HU := Lib.hid hu
  have HR := Lib.hid hr
  have HAW := Lib.hid haw
  clear hu hr haw
  go_enter Tryd.func5, Tryd.ntmps5
  go_wp2_with fail
  refine (HAW.out _ HR.out).mono ?_
  rintro e w1 ⟨rfl, x1⟩
  go_wp2_with fail
  refine (built_c l p c _ (hl.ext x1) hm HU.out).mono ?_
  rintro e w2 ⟨pf, cf, fs, rfl, hof, hlf, hff, x2⟩
  have HK := Lib.hid (kinds_of hff)
  have HS := Lib.hid (hof.slOf encF_len)
  have HX2 := Lib.hid (x1.trans x2)
  have hl1000 : fs.length ≤ 1000 := by omega
  clear hof hff hl x1 x2
  go_wp2_with fail
  refine (taken_c fs pf cf m _ HS.out (by omega) (HR.out.ext HX2.out) HK.out).mono ?_
  rintro e w3 ⟨v3, rfl, ho3, x3⟩
  have HTK := Lib.hid (taken fs hl1000)
  have hTl := takenP_len fs
  obtain ⟨T, HT⟩ : ∃ T, Hid (takenP fs = T) := ⟨_, rfl⟩
  obtain ⟨pt, ct, rfl, hst⟩ := ho3.read encF_len
  rw [HT.out] at hst hTl ⊢
  have HTF : Hid (∀ f ∈ T, formedB f = true) := by unfold Hid; rw [← HT.out]; exact HTK.out.formed
  have HSO : Hid (T.Pairwise (fun a b => a.day ≤ b.day)) := by unfold Hid; rw [← HT.out]; exact HTK.out.sorted
  have HX3 := Lib.hid (HX2.out.trans x3)
  have HS3 := Lib.hid (HS.out.ext x3)
  have HST := Lib.hid hst
  obtain ⟨nt, HNT⟩ : ∃ nt, Hid (T.length = nt) := ⟨_, rfl⟩
  have hnt : nt ≤ 30 := by rw [← HNT.out]; omega
  have HL1000 := Lib.hid hl1000
  rw [HNT.out]
  clear ho3 hst x3 hTl hl1000
  go_upto_region 6 with fail
  obtain ⟨K, HKN⟩ : ∃ K : Int, Hid (n % 5 = K) := ⟨_, rfl⟩
  have hK : 0 ≤ K ∧ K ≤ 4 := by rw [← HKN.out]; omega
  rw [HKN.out]
  go_wp2_with fail
  refine (last_c fs pf cf m _ HS3.out HL1000.out (HR.out.ext HX3.out) HK.out).mono ?_
  rintro e w4 ⟨rfl, x4⟩
  have HLB := Lib.hid (DI.dock fs).last
  obtain ⟨L, HL⟩ : ∃ L, Hid ((dockP fs).2 = L) := ⟨_, rfl⟩
  rw [HL.out] at HLB ⊢
  have hL8 := IntWalk.i64_in (L + 800) (by have := HLB.out; omega)
  go_wp2_with fail
  refine (pick_c day (L + 800) _ hday (by have := HLB.out; omega)).mono ?_
  rintro e w5 ⟨rfl, rfl⟩
  obtain ⟨P, HP⟩ : ∃ P, Hid (pickP day (L + 800) = P) := ⟨_, rfl⟩
  rw [HP.out]
  have hlk : Owns w4.heap.size 3 1 encI (w4.alloc (.cells #[.int .i64 P] 3)) (.slice (some ⟨w4.heap.size, 0, none⟩) 1 1) [P] := Owns.litI P (Nat.le_refl _)
  have hx5 := (Ext.refl w4).alloc (.cells #[.int .i64 P] 3)
  have HX4 := Lib.hid (HX3.out.trans x4)
  have HS4 := Lib.hid (HS3.out.ext x4)
  have HST4 := Lib.hid (HST.out.ext x4)
  have HR4 := Lib.hid (HR.out.ext HX4.out)
  clear x4 hL8
  go_upto_region 7 with fail
  generalize w4.alloc (.cells #[.int .i64 P] 3) = W at hlk hx5 ⊢
  go_wp2_with fail
  go_loopw [10, 40] (fun v i wr => ∃ (k : Nat) (lk : List Int), k ≤ nt ∧ i = .int .i64 k ∧ Owns w4.heap.size 3 1 encI wr v lk ∧ Hid (lk.length = 1 + 4 * k) ∧ Ext w4 wr) (fun _ i _ => nt - (intOf i).toNat)
  case atStart => exact ⟨0, [P], Nat.zero_le _, rfl, hlk, rfl, hx5⟩
  case round =>
    obtain ⟨k, lk, hk, rfl, hown, HLK, hx⟩ := hrel
    clear hlk hx5
    by_cases hlt : k < nt
    · have hlt1 : (k : Int) < (nt : Int) := by omega
      have hkT : k < T.length := by rw [HNT.out]; exact hlt
      obtain ⟨bb, off, f, rfl, hbl, c0, c1, c2, c3, c4, c5, HF⟩ := (HST4.out.ext hx).atF k hkT
      have hfd := formed_days (HTF.out f (by rw [← HF.out]; exact List.getElem_mem hkT))
      have hB := heap_new wr (.cells #[.int .u8 f.kind, .int .i64 f.day, .int .i64 f.cs, .int .i64 f.n, .int .i64 f.un, .bool f.hold] 30)
      have hxa := (Ext.refl wr).alloc (.cells #[.int .u8 f.kind, .int .i64 f.day, .int .i64 f.cs, .int .i64 f.n, .int .i64 f.un, .bool f.hold] 30)
      have HOW := Lib.hid (hown.ext hxa)
      have HXW := Lib.hid (hx.trans hxa)
      go_upto_region 10 with fail
      obtain ⟨X, HXX⟩ : ∃ x, Hid (wr.heap.size = x) := ⟨_, rfl⟩
      rw [HXX.out] at hB ⊢
      generalize wr.alloc (.cells #[.int .u8 f.kind, .int .i64 f.day, .int .i64 f.cs, .int .i64 f.n, .int .i64 f.un, .bool f.hold] 30) = W2 at hB HOW HXW ⊢
      clear hxa c0 c1 c2 c3 c4 c5 hbl hown hx
      obtain ⟨m0, m1, m2, m3, m4, m5⟩ := cells6 hB
      have hXl := lt_of hB
      have hd1 := IntWalk.i64_in (f.day - 1) (by omega)
      have hd2 := IntWalk.i64_in (f.day + 365) (by omega)
      have hd3 := IntWalk.i64_in (f.day + 365 + 1) (by omega)
      go_wp2_with (at_builtin; refine wpList_append_many (w0 := w4) rfl _ _ 44 3 8 _ encI_len encI_one (by decide) rfl Tryd.underlying44 infoI rfl lk [f.day - 1, f.day, f.day + 365, f.day + 365 + 1] (Owns.alloc HOW.out _) (HXW.out.alloc _) _ 4 rfl rfl (Sl.litI _ _ _ _ rfl) (by have := HLK.out; simp only [List.length_cons, List.length_nil]; omega) (by have := HLK.out; simp only [List.length_cons, List.length_nil]; omega) ?_; intro v3 w3 hown3 hb3 hg3)
      go_roundw
      case rel => exact ⟨k + 1, lk ++ [f.day - 1, f.day, f.day + 365, f.day + 365 + 1], by omega, by go_num, hown3, by (unfold Hid; rw [List.length_append, HLK.out]; simp only [List.length_cons, List.length_nil]; omega), hb3⟩
      case measure => simp [intOf]; omega
    · have hlt1 : ¬ (k : Int) < (nt : Int) := by omega
      obtain ⟨pk, ck, rfl, hsk⟩ := hown.read encI_len
      obtain ⟨nk, HNK⟩ : ∃ nk, Hid (lk.length = nk) := ⟨_, rfl⟩
      have hnk : nk ≤ 1000 := by rw [← HNK.out, HLK.out]; omega
      rw [HNK.out]
      have HSK := Lib.hid hsk
      have HX6 := Lib.hid (HX4.out.trans hx)
      have HS6 := Lib.hid (HS4.out.ext hx)
      have HST6 := Lib.hid (HST4.out.ext hx)
      have HR6 := Lib.hid (HR4.out.ext hx)
      clear hsk hown hx hlt1
      obtain ⟨wb, rfl⟩ : ∃ wb : World, wb = wr := ⟨_, rfl⟩
      go_wp2_with fail
      go_loopw [62] (fun i wr => ∃ j : Nat, j ≤ nk ∧ i = .int .i64 j ∧ Ext wb wr) (fun i _ => nk - (intOf i).toNat)
      case atStart => exact ⟨0, Nat.zero_le _, rfl, Ext.refl _⟩
      case round =>
        obtain ⟨j, hj, rfl, hxj⟩ := hrel
        by_cases hltj : j < nk
        · have hltj1 : (j : Int) < (nk : Int) := by omega
          have hltB : decide ((j : Int) < (nk : Int)) = true := by simpa using hltj1
          obtain ⟨bk, ofk, d, rfl, hbk, ck0, HDK⟩ := (HSK.out.ext hxj).atI j (by rw [HNK.out]; exact hltj)
          by_cases hd0 : d < 0
          · have q0 : decide (d < 0) = true := by simpa using hd0
            go_wp2_with fail
            go_roundw
            case rel => exact ⟨j + 1, by omega, by go_num, hxj⟩
            case measure => simp [intOf]; omega
          · have q0 : decide (d < 0) = false := by simpa using hd0
            by_cases hd6 : 65536 ≤ d
            · have q6 : decide (65536 ≤ d) = true := by simpa using hd6
              go_wp2_with fail
              go_roundw
              case rel => exact ⟨j + 1, by omega, by go_num, hxj⟩
              case measure => simp [intOf]; omega
            · have q6 : decide (65536 ≤ d) = false := by simpa using hd6
              have HDB : Hid (0 ≤ d ∧ d ≤ 65535) := by unfold Hid; omega
              have HSTj := Lib.hid (HST6.out.ext hxj)
              clear hd0 hd6
              obtain ⟨wo, rfl⟩ : ∃ wo : World, wo = wr := ⟨_, rfl⟩
              go_upto_region 17 with fail
              clear ck0 hbk q0 q6
              go_wp2_with fail
              go_loopw [15, 74] (fun v i wr => ∃ (k : Nat) (out : List Fl), k ≤ nt ∧ i = .int .i64 k ∧ Owns wo.heap.size 30 6 encF wr v out ∧ Hid (out = (T.take k).filter (fun f => decide (f.day ≤ d))) ∧ Ext wo wr) (fun _ i _ => nt - (intOf i).toNat)
              case atStart => exact ⟨0, [], Nat.zero_le _, rfl, Owns.nil, rfl, Ext.refl _⟩
              case round =>
                obtain ⟨i, out, hi, rfl, hown, HO, hx⟩ := hrel
                by_cases hlti : i < nt
                · have hlti1 : (i : Int) < (nt : Int) := by omega
                  have hiT : i < T.length := by rw [HNT.out]; exact hlti
                  obtain ⟨bb, off, f, rfl, hbl, c0, c1, c2, c3, c4, c5, HF⟩ := (HSTj.out.ext hx).atF i hiT
                  have hol : out.length ≤ 1000 := by
                    rw [HO.out]
                    refine Nat.le_trans (List.length_filter_le _ _) ?_
                    rw [List.length_take]; omega
                  have HFS := Lib.hid (filt_step d hiT HF.out)
                  have hB := heap_new wr (.cells #[.int .u8 f.kind, .int .i64 f.day, .int .i64 f.cs, .int .i64 f.n, .int .i64 f.un, .bool f.hold] 30)
                  have hxa := (Ext.refl wr).alloc (.cells #[.int .u8 f.kind, .int .i64 f.day, .int .i64 f.cs, .int .i64 f.n, .int .i64 f.un, .bool f.hold] 30)
                  have HOW := Lib.hid (hown.ext hxa)
                  have HXW := Lib.hid (hx.trans hxa)
                  go_upto_region 20 with fail
                  obtain ⟨X, HXX⟩ : ∃ x, Hid (wr.heap.size = x) := ⟨_, rfl⟩
                  rw [HXX.out] at hB ⊢
                  generalize wr.alloc (.cells #[.int .u8 f.kind, .int .i64 f.day, .int .i64 f.cs, .int .i64 f.n, .int .i64 f.un, .bool f.hold] 30) = W2 at hB HOW HXW ⊢
                  clear hxa c0 c1 c2 c3 c4 c5 hbl hown hx
                  obtain ⟨m0, m1, m2, m3, m4, m5⟩ := cells6 hB
                  have hXl := lt_of hB
                  by_cases hfd : f.day ≤ d
                  · have qd : decide (f.day ≤ d) = true := by simpa using hfd
                    have HFS2 : Hid (out ++ [f] = (T.take (i + 1)).filter (fun f => decide (f.day ≤ d))) := by unfold Hid; rw [HFS.out, if_pos hfd, HO.out]
                    clear hfd
                    go_wp2_with (at_builtin; refine wpList_append_one (w0 := wo) rfl _ _ 22 30 48 _ encF_len encF_one (by decide) rfl Tryd.underlying22 infoF rfl out f HOW.out HXW.out _ 1 rfl rfl (by first | rfl | simp) (by omega) (by omega) ?_; intro v3 w3 hown3 hb3 hg3)
                    go_roundw
                    case rel => exact ⟨i + 1, out ++ [f], by omega, by go_num, hown3, HFS2, hb3⟩
                    case measure => simp [intOf]; omega
                  · have qd : decide (f.day ≤ d) = false := by simpa using hfd
                    have HFS2 : Hid (out = (T.take (i + 1)).filter (fun f => decide (f.day ≤ d))) := by unfold Hid; rw [HFS.out, if_neg hfd, List.append_nil, HO.out]
                    clear hfd
                    go_wp2_with fail
                    go_roundw
                    case rel => exact ⟨i + 1, out, by omega, by go_num, HOW.out, HFS2, HXW.out⟩
                    case measure => simp [intOf]; omega
                · have hlti1 : ¬ (i : Int) < (nt : Int) := by omega
                  have ho : out = T.filter (fun f => decide (f.day ≤ d)) := by rw [HO.out, List.take_of_length_le (by rw [HNT.out]; omega)]
                  obtain ⟨T2, hT2, hlate⟩ := split_day d HSO.out
                  rw [← ho] at hT2
                  have HTT : Hid (takenP fs = out ++ T2) := by unfold Hid; rw [HT.out, ← hT2]
                  have HLATE := Lib.hid hlate
                  have HEARLY : Hid (∀ f ∈ out, f.day ≤ d) := by
                    intro f hf
                    rw [ho] at hf
                    simpa using (List.mem_filter.1 hf).2
                  have HOK : Hid (∀ f ∈ out, 0 ≤ f.kind ∧ f.kind < 256) := by
                    refine kinds_of fun f hf => ?_
                    rw [ho] at hf
                    exact HTF.out f (List.mem_filter.1 hf).1
                  have hol : out.length ≤ 1000 := by
                    rw [ho]
                    refine Nat.le_trans (List.length_filter_le _ _) ?_
                    rw [HNT.out]; omega
                  obtain ⟨po, co, rfl, hso⟩ := hown.read encF_len
                  have HLD := Lib.hid (pre_last hol HDB.out.1 HEARLY.out)
                  have HAT : Hid (atP out d = ((dockP out).1.map (onP · d), 0)) := at_from HLD.out HDB.out.2
                  have HX7 := Lib.hid (HX6.out.trans (hxj.trans hx))
                  have HR7 := Lib.hid (HR6.out.ext (hxj.trans hx))
                  have HS7 := Lib.hid (HS6.out.ext (hxj.trans hx))
                  have HWB := Lib.hid (hxj.trans hx)
                  clear ho hT2 hlate hown HO hx hxj
                  go_wp2_with fail
                  refine (at_c out d po co m _ hso (by omega) HR7.out HOK.out).mono ?_
                  rintro e w7 ⟨p1, cap1, ys, rfl, hm1, ho1, hh1, x7⟩
                  have HC := Lib.hid (csl_at ho1 hh1 hm1)
                  rw [HAT.out] at hm1 ⊢
                  obtain ⟨C, HCD⟩ : ∃ C, Hid ((dockP out).1 = C) := ⟨_, rfl⟩
                  have hN : ys.length = C.length := by have := congrArg List.length hm1; simpa [HCD.out] using this
                  obtain ⟨N, HN⟩ : ∃ N, Hid (ys.length = N) := ⟨_, rfl⟩
                  have HCN : Hid (C.length = N) := by unfold Hid; rw [← HN.out, hN]
                  have hN100 : N ≤ 100 := by rw [← HCN.out, ← HCD.out]; exact (DI.dock out).len
                  have HON : Hid (∀ (k : Nat) (h : k < ys.length) (h' : k < C.length), ys[k].1 = onP C[k] d) := by
                    intro k h h'
                    have e : (ys.map (·.1))[k]? = some ys[k].1 := by rw [List.getElem?_map, List.getElem?_eq_getElem h]; rfl
                    rw [hm1, HCD.out, List.getElem?_map, List.getElem?_eq_getElem h'] at e
                    exact (Option.some.inj e).symm
                  have HCF : Hid (∀ (k : Nat) (h : k < ys.length), CaseF ys[k].1) := by
                    intro k h
                    have h' : k < C.length := by rw [HCN.out, ← HN.out]; exact h
                    rw [HON.out k h h']
                    exact case_f ((DI.dock out).all _ (by rw [HCD.out]; exact List.getElem_mem h')) HLD.out HDB.out.2
                  have HWANT := Lib.hid (held_want HL1000.out HTT.out HDB.out.1 HDB.out.2 HEARLY.out HLATE.out K)
                  rw [HCD.out] at HWANT
                  obtain ⟨WB, HWBB⟩ : ∃ b : Bool, Hid (heldR fs K d = b) := ⟨_, rfl⟩
                  rw [HN.out]
                  have HX8 := Lib.hid (HX7.out.trans x7)
                  have HR8 := Lib.hid (HR7.out.ext x7)
                  have HS8 := Lib.hid (HS7.out.ext x7)
                  have HWB8 := Lib.hid (HWB.out.trans x7)
                  clear hm1 ho1 hh1 x7 hN hso hol
                  go_upto_region 26 with fail
                  go_cut [20] (fun s20 wx => s20 = .bool WB ∧ wx = w7)
                  case first =>
                    by_cases hK1 : K < 1
                    · have qk : decide (1 ≤ K) = false := by simpa using hK1
                      have hwb : WB = false := by rw [← HWBB.out, HWANT.out, if_pos hK1]
                      clear hK1
                      go_wp2_with fail
                      go_meet
                      exact ⟨by rw [hwb], rfl⟩
                    · have qk : decide (1 ≤ K) = true := by simpa using hK1
                      obtain ⟨i0, hi0⟩ : ∃ i0 : Nat, K = (i0 : Int) + 1 := ⟨(K - 1).toNat, by omega⟩
                      have hw0 : heldR fs K d = match C[i0]? with | none => false | some c => decide ((onP c d).st = 3) && (onP c d).hd := by
                        have := HWANT.out
                        rw [if_neg hK1, show (K - 1).toNat = i0 by omega] at this
                        exact this
                      by_cases hKN : i0 < N
                      · have qn : decide (K ≤ (N : Int)) = true := by simp; omega
                        have hiy : i0 < ys.length := by rw [HN.out]; exact hKN
                        have hiC : i0 < C.length := by rw [HCN.out]; exact hKN
                        obtain ⟨q1, o1, a, pa, ca, rfl, hl1, ⟨a0, a1, a2, a3, a4, a5, a6, a7, a8, a9⟩, HA⟩ := HC.out.sl.atC i0 hiy
                        have hao : a = onP C[i0] d := by have := HON.out i0 hiy hiC; rw [HA.out] at this; exact this
                        have hwb : WB = (decide (a.st = 3) && a.hd) := by
                          rw [← HWBB.out, hw0, List.getElem?_eq_getElem hiC, hao]
                        have hwi : IntKind.i64.wrap (K - 1) = (i0 : Int) := by rw [hi0, Int.add_sub_cancel]; exact IntWalk.i64_in _ (by omega)
                        have hin : (i0 : Int) < (N : Int) := by omega
                        have HI0 := Lib.hid hi0
                        clear hi0 hw0 hK1 hao a0 a2 a3 a4 a5 a6 a8 a9
                        by_cases hs3 : a.st = 3
                        · rw [hs3] at a1
                          have hwb2 : WB = a.hd := by rw [hwb, hs3]; simp
                          clear hwb
                          cases hh : a.hd with
                          | true =>
                            rw [hh] at a7 hwb2
                            go_wp2_with fail
                            go_meet
                            exact ⟨by rw [hwb2], rfl⟩
                          | false =>
                            rw [hh] at a7 hwb2
                            go_wp2_with fail
                            go_meet
                            exact ⟨by rw [hwb2], rfl⟩
                        · have qs : (a.st == 3) = false := by simpa using hs3
                          have hwb2 : WB = false := by rw [hwb, decide_eq_false hs3, Bool.false_and]
                          clear hwb hs3
                          go_wp2_with fail
                          go_meet
                          exact ⟨by rw [hwb2], rfl⟩
                      · have qn : decide (K ≤ (N : Int)) = false := by simp; omega
                        have hwb : WB = false := by rw [← HWBB.out, hw0, List.getElem?_eq_none (by rw [HCN.out]; omega)]
                        clear hi0 hw0 hK1
                        go_wp2_with fail
                        go_meet
                        exact ⟨by rw [hwb], rfl⟩
                  case rest =>
                  obtain ⟨rfl, rfl⟩ := hcut
                  go_wp2_with fail
                  refine (held_c fs K d pf cf m _ HS8.out (by have := HL1000.out; omega) HR8.out HK.out).mono ?_
                  rintro e w8 ⟨rfl, x8⟩
                  rw [HWBB.out]
                  have hbb : (WB != WB) = false := by cases WB <;> rfl
                  go_wp2_with fail
                  go_loopw [128] (fun i wr => ∃ k : Nat, k ≤ N ∧ i = .int .i64 k ∧ Ext w8 wr) (fun i _ => N - (intOf i).toNat)
                  case atStart => exact ⟨0, Nat.zero_le _, rfl, Ext.refl _⟩
                  case round =>
                    obtain ⟨k, hk, rfl, hxk⟩ := hrel
                    by_cases hltk : k < N
                    · have hltk1 : (k : Int) < (N : Int) := by omega
                      have hky : k < ys.length := by rw [HN.out]; exact hltk
                      have hx9 := x8.trans hxk
                      obtain ⟨q1, o1, a, pa, ca, rfl, hl1, ⟨a0, a1, a2, a3, a4, a5, a6, a7, a8, a9⟩, HA⟩ := (HC.out.ext hx9).sl.atC k hky
                      have hcf := HCF.out k hky
                      rw [HA.out] at hcf
                      have HCFA := Lib.hid hcf
                      have hsl : Sl 2 enc2 wr pa a.held := by have := (HC.out.held _ (List.getElem_mem hky)).ext hx9; rw [HA.out] at this; exact this
                      have hB := heap_new wr (.cells #[.bool a.el, .int .u8 a.st, .int .i64 a.op, .int .i64 a.dy, .int .i64 a.ch, .int .i64 a.lv, .int .i64 a.due, .bool a.hd, .int .i64 a.sn, .slice pa a.held.length ca] 39)
                      have hxa := (Ext.refl wr).alloc (.cells #[.bool a.el, .int .u8 a.st, .int .i64 a.op, .int .i64 a.dy, .int .i64 a.ch, .int .i64 a.lv, .int .i64 a.due, .bool a.hd, .int .i64 a.sn, .slice pa a.held.length ca] 39)
                      have HSL := Lib.hid (hsl.ext hxa)
                      have HXW := Lib.hid (hxk.trans hxa)
                      clear hcf hsl
                      go_upto_region 32 with fail
                      obtain ⟨X, HXX⟩ : ∃ x, Hid (wr.heap.size = x) := ⟨_, rfl⟩
                      rw [HXX.out] at hB ⊢
                      generalize wr.alloc (.cells #[.bool a.el, .int .u8 a.st, .int .i64 a.op, .int .i64 a.dy, .int .i64 a.ch, .int .i64 a.lv, .int .i64 a.due, .bool a.hd, .int .i64 a.sn, .slice pa a.held.length ca] 39) = W2 at hB HSL HXW ⊢
                      clear hxa a0 a1 a2 a3 a4 a5 a6 a7 a8 a9 hl1
                      obtain ⟨m0, m1, m2, m3, m4, m5, m6, m7, m8, m9⟩ := cells10 hB
                      have hXl := lt_of hB
                      go_wp2_with fail
                      refine (valid_any a.held pa ca _ HSL.out (Nat.le_trans HCFA.out.ok.len6 (by decide))).mono ?_
                      rintro e w9 ⟨he9, x9⟩
                      rw [HCFA.out.ok.valid] at he9
                      subst he9
                      have hB9 := heap_ext hB x9
                      have HXW9 := Lib.hid (HXW.out.trans x9)
                      clear m0 m1 m2 m3 m4 m5 m6 m7 m8 m9 hXl hB
                      obtain ⟨m0, m1, m2, m3, m4, m5, m6, m7, m8, m9⟩ := cells10 hB9
                      have hXl := lt_of hB9
                      have helh := HCFA.out.el
                      have hhd := HCFA.out.hd
                      have hsn := HCFA.out.sn
                      cases hel : a.el with
                      | true =>
                        rw [hel] at m0
                        rw [helh hel] at m9
                        cases hh : a.hd with
                        | true =>
                          rw [hh] at m7
                          rw [hhd hh] at m1
                          clear helh hhd hsn hel hh
                          go_wp2_with fail
                          all_goals
                            go_roundw
                            case rel => exact ⟨k + 1, by omega, by go_num, HXW9.out⟩
                            case measure => simp [intOf]; omega
                        | false =>
                          rw [hh] at m7
                          rw [hsn hh] at m8
                          clear helh hhd hsn hel hh
                          go_wp2_with fail
                          all_goals
                            go_roundw
                            case rel => exact ⟨k + 1, by omega, by go_num, HXW9.out⟩
                            case measure => simp [intOf]; omega
                      | false =>
                        rw [hel] at m0
                        cases hh : a.hd with
                        | true =>
                          rw [hh] at m7
                          rw [hhd hh] at m1
                          clear helh hhd hsn hel hh
                          go_wp2_with fail
                          all_goals
                            go_roundw
                            case rel => exact ⟨k + 1, by omega, by go_num, HXW9.out⟩
                            case measure => simp [intOf]; omega
                        | false =>
                          rw [hh] at m7
                          rw [hsn hh] at m8
                          clear helh hhd hsn hel hh
                          go_wp2_with fail
                          all_goals
                            go_roundw
                            case rel => exact ⟨k + 1, by omega, by go_num, HXW9.out⟩
                            case measure => simp [intOf]; omega
                    · have hltk1 : ¬ (k : Int) < (N : Int) := by omega
                      go_wp2_with fail
                      go_roundw
                      case rel => exact ⟨j + 1, by omega, by go_num, (HWB8.out.trans x8).trans hxk⟩
                      case measure => simp [intOf]; omega
        · have hltj1 : ¬ (j : Int) < (nk : Int) := by omega
          go_wp2_with fail
          go_ret
          exact ⟨rfl, HX6.out.trans hxj⟩
end Go.Proofs.YtalconpcpegmlaaDoor
