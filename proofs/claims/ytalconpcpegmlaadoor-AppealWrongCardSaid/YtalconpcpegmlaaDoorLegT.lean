import Derived.Test.YtalconpcpegmlaaDoorAppU
import Derived.Test.YtalconpcpegmlaaDoorLegC
/- When a case settles, in plain Lean: what AppealSettles asks. No program in sight. -/
namespace Go.Proofs.YtalconpcpegmlaaDoor

structure SetF (c : Cs) (last T : Int) : Prop where
  bound : c.el = true ∨ settleP c ≤ T + 767
  low : c.op ≤ settleP c
  range : 0 ≤ settleP c ∧ settleP c ≤ 70000
  then' : last ≤ settleP c → 4 ≤ (onP c (settleP c)).st ∧ (onP c (settleP c)).due = settleP c
  before : last ≤ settleP c - 1 → (onP c (settleP c - 1)).st < 4
theorem set_facts {c : Cs} {last T : Int} (h : CI c last) (hf : 4 ≤ c.st → c.due ≤ T) (h2 : c.st = 2 → c.due ≤ T + 400) (h3 : c.st = 3 → c.due ≤ T + 365) (hT : T ≤ last) : SetF c last T := by
  have hdy := h.dy
  have hdue := h.due
  have hop := h.op
  have hst := h.st
  by_cases h4 : 4 ≤ c.st
  · have e : settleP c = c.due := by unfold settleP; rw [if_pos h4]
    have := hf h4
    refine ⟨.inr (by omega), by omega, by omega, fun _ => ?_, fun hl => by omega⟩
    rw [e]
    show 4 ≤ (passP c c.due).st ∧ (passP c c.due).due = c.due
    rw [pass_stop (.inl h4)]
    exact ⟨h4, rfl⟩
  · obtain ⟨n1, n2⟩ := pass_next h4 (by omega)
    by_cases h33 : c.st = 3 ∧ c.lv ≠ 3
    · have e : settleP c = c.due + 1 + c.dy + 1 := by unfold settleP; rw [if_neg h4, if_pos h33]
      rw [if_pos h33] at n2
      rw [← n1] at n2
      have := h3 h33.1
      refine ⟨.inr (by omega), by omega, by omega, fun _ => ?_, fun _ => ?_⟩
      · rw [e]
        show 4 ≤ (passP c (c.due + 1 + c.dy + 1)).st ∧ (passP c (c.due + 1 + c.dy + 1)).due = c.due + 1 + c.dy + 1
        rw [← pass_trans c (show c.due + 1 ≤ c.due + 1 + c.dy + 1 by omega)]
        generalize passP c (c.due + 1) = C at n2
        have hns : ¬ (4 ≤ C.st ∨ c.due + 1 + c.dy + 1 ≤ C.due) := by omega
        have p1 : pass1 C (c.due + 1 + c.dy + 1) = endP C 4 (C.due + 1) := by unfold pass1; rw [if_neg hns, if_neg (by omega)]
        rw [← pass_step hns, p1, pass_stop (.inl (Int.le_refl _))]
        exact ⟨Int.le_refl _, by show C.due + 1 = _; omega⟩
      · have e2 : settleP c - 1 = c.due + 1 + c.dy := by omega
        rw [e2]
        show (passP c (c.due + 1 + c.dy)).st < 4
        rw [← pass_trans c (show c.due + 1 ≤ c.due + 1 + c.dy by omega)]
        generalize passP c (c.due + 1) = C at n2
        rw [pass_stop (.inr (by omega))]
        omega
    · have e : settleP c = c.due + 1 := by unfold settleP; rw [if_neg h4, if_neg h33]
      rw [if_neg h33] at n2
      rw [← n1] at n2
      refine ⟨?_, by omega, by omega, fun _ => ?_, fun _ => ?_⟩
      · by_cases h1 : c.st = 1
        · left
          cases he : c.el with
          | true => rfl
          | false => exact absurd h1 (h.dc he).1
        · right
          by_cases hh : c.st = 2
          · have := h2 hh; omega
          · have := h3 (by omega); omega
      · rw [e]
        show 4 ≤ (passP c (c.due + 1)).st ∧ (passP c (c.due + 1)).due = c.due + 1
        omega
      · have e2 : settleP c - 1 = c.due := by omega
        rw [e2]
        show (passP c c.due).st < 4
        rw [pass_stop (.inr (Int.le_refl _))]
        omega
theorem set_of {l : List Fl} (hl : l.length ≤ 1000) {k : Nat} {c : Cs} (h : (dockP l).1[k]? = some c) : SetF c (dockP l).2 (touchK k c.op (takenP l)) := by
  have t := touch l hl k c h
  have ci := (DI.dock l).at h
  exact set_facts ci t.fin t.st2 t.st3 (touchK_le ci.op.2.1 (taken l hl).day)
end Go.Proofs.YtalconpcpegmlaaDoor
/- annuitantlaw40.AppealSettles, walked. -/
namespace Go.Proofs.YtalconpcpegmlaaDoor
open Go.RowKit

theorem at_from {l : List Fl} {d : Int} (h : (dockP l).2 ≤ d) (hd : d ≤ 65535) : atP l d = ((dockP l).1.map (onP · d), 0) := by
  have := (DI.dock l).last
  unfold atP; rw [if_neg (by omega), if_neg (by omega)]
theorem kinds_of {fs : List Fl} (h : ∀ f ∈ fs, formedB f = true) : ∀ f ∈ fs, 0 ≤ f.kind ∧ f.kind < 256 := fun f hf => by
  have := formed_kinds (h f hf); omega
theorem touchK_ge {k : Nat} {i : Int} {t : List Fl} : 0 ≤ i → (∀ f ∈ t, 0 ≤ f.day) → 0 ≤ touchK k i t := by
  induction t using snoc_ind with
  | h0 => intro h _; exact h
  | h1 t f ih =>
    intro h hd
    rw [touchK_snoc]
    split
    · exact hd f (by simp)
    · exact ih h fun g hg => hd g (by simp [hg])
def AwakeOk (m : Option Nat) : Prop := ∀ w : World, RowsAt m w → Calls Tryd.prog 12 #[] w fun e w' => e = .returned (.bool true) ∧ Ext w w'
set_option maxHeartbeats 3200000 in
set_option maxRecDepth 100000 in
theorem settlesLaw_c (l : List Nt) (n : Int) (p : Option Addr) (c : Nat) (m : Option Nat) (w : World) (hl : Sl 5 encN w p l) (hm : l.length ≤ 9223372036854775807) (hu : BtU l) (hn : 0 ≤ n ∧ n ≤ 255) (hr : RowsAt m w) (haw : AwakeOk m) :
    Calls Tryd.prog 7 #[.slice p l.length c, .int .u8 n] w fun e w' => e = .returned (.bool true) ∧ Ext w w' := by
  have HU := Lib.hid hu
  have HR := Lib.hid hr
  have HAW := Lib.hid haw
  clear hu hr haw
  go_enter Tryd.func7, Tryd.ntmps7
  go_wp2_with fail
  refine (HAW.out _ HR.out).mono ?_
  rintro e w1 ⟨rfl, x1⟩
  go_wp2_with fail
  refine (built_c l p c _ (hl.ext x1) hm HU.out).mono ?_
  rintro e w2 ⟨pf, cf, fs, rfl, hof, hlf, hff, x2⟩
  have HK := Lib.hid (kinds_of hff)
  have HS := Lib.hid (hof.slOf encF_len)
  have HX2 := Lib.hid (x1.trans x2)
  have hl1000 : fs.length ≤ 1000 := by omega
  clear hof hff hl x1 x2
  go_wp2_with fail
  refine (last_c fs pf cf m _ HS.out hl1000 (HR.out.ext HX2.out) HK.out).mono ?_
  rintro e w3 ⟨rfl, x3⟩
  have HLB := Lib.hid (DI.dock fs).last
  obtain ⟨L, HL⟩ : ∃ L, Hid ((dockP fs).2 = L) := ⟨_, rfl⟩
  have HAT : Hid (atP fs L = ((dockP fs).1.map (onP · L), 0)) := by unfold Hid; rw [← HL.out]; exact at_from (Int.le_refl _) HLB.out.2
  rw [HL.out] at HLB ⊢
  go_wp2_with fail
  refine (at_c fs L pf cf m _ (HS.out.ext x3) (by omega) (HR.out.ext (HX2.out.trans x3)) HK.out).mono ?_
  rintro e w4 ⟨pc, cc, xs, rfl, hm1, ho, hh, x4⟩
  rw [HAT.out] at hm1 ⊢
  have hN : xs.length = (dockP fs).1.length := by have := congrArg List.length hm1; simpa using this
  obtain ⟨N, HN⟩ : ∃ N, Hid (xs.length = N) := ⟨_, rfl⟩
  have HDN : Hid ((dockP fs).1.length = N) := by unfold Hid; rw [← hN, HN.out]
  have hN100 : N ≤ 100 := by have := (DI.dock fs).len; rw [HDN.out] at this; exact this
  rw [HN.out]
  have HM1 := Lib.hid hm1
  have HO := Lib.hid ho
  have HX4 := Lib.hid ((HX2.out.trans x3).trans x4)
  have HS4 := Lib.hid ((HS.out.ext x3).ext x4)
  clear hm1 hN ho hh x3 x4
  go_upto_region 7 with fail
  obtain ⟨j, HJ, HJN⟩ : ∃ j : Nat, Hid (wrap64 (1 + n % ((N : Int) + 1)) = (j : Int) + 1) ∧ Hid (j ≤ N) := by
    have h0 := Int.emod_nonneg n (show (N : Int) + 1 ≠ 0 by omega)
    have h1 := Int.emod_lt_of_pos n (show 0 < (N : Int) + 1 by omega)
    refine ⟨(n % ((N : Int) + 1)).toNat, ?_, ?_⟩
    · unfold Hid
      have := IntWalk.wrap64_in (1 + n % ((N : Int) + 1)) (by omega)
      rw [show ((n % ((N : Int) + 1)).toNat : Int) + 1 = 1 + n % ((N : Int) + 1) by omega]
      exact this
    · unfold Hid; omega
  rw [HJ.out]
  have hj0 : (0 : Int) ≤ (j : Int) + 1 ∧ (j : Int) + 1 ≤ 101 := by have := HJN.out; omega
  by_cases hj : j < N
  · obtain ⟨c0, HC0⟩ : ∃ c0, Hid ((dockP fs).1[j]? = some c0) := ⟨(dockP fs).1[j]'(by rw [HDN.out]; exact hj), by unfold Hid; exact List.getElem?_eq_getElem _⟩
    have HSF := Lib.hid (set_of hl1000 HC0.out)
    have HSR : Hid (settR fs ((j : Int) + 1) = (settleP c0, true)) := by
      unfold Hid settR
      have e : ((j : Int) + 1 - 1).toNat = j := by omega
      rw [if_neg (by omega), e, HC0.out]
    obtain ⟨S, HSE⟩ : ∃ S, Hid (settleP c0 = S) := ⟨_, rfl⟩
    obtain ⟨T, HT⟩ : ∃ T, Hid (takenP fs = T) := ⟨_, rfl⟩
    have HTL : Hid (T.length ≤ 1000) := by unfold Hid; rw [← HT.out]; exact Nat.le_trans (takenP_len fs) hl1000
    rw [HSE.out] at HSR
    have hq1 : decide ((j : Int) + 1 ≤ (N : Int)) = true := by simp; omega
    have hwj : IntKind.i64.wrap ((j : Int) + 1 - 1) = (j : Int) := by rw [Int.add_sub_cancel]; exact IntWalk.i64_in _ (by omega)
    have hjl : (j : Int) < (N : Int) := by omega
    have HJ2 := Lib.hid hj
    obtain ⟨g, gc, rfl, _, hG, hcell⟩ := HO.out.place encC_len (j := j) (by rw [HN.out]; exact hj)
    have hxj : j < xs.length := by rw [HN.out]; exact hj
    have hfst : xs[j].1 = onP c0 L := by
      have h1 : (xs.map (·.1))[j]? = some xs[j].1 := by rw [List.getElem?_map, List.getElem?_eq_getElem hxj]; rfl
      rw [HM1.out] at h1
      have h2 : ((dockP fs).1.map (onP · L))[j]? = some (onP c0 L) := by rw [List.getElem?_map, HC0.out]; rfl
      rw [h2] at h1
      exact (Option.some.inj h1).symm
    have hsame := pass_same c0 L
    have a0 : w4.cell? ⟨g, j * 10, none⟩ = some (.bool c0.el) := (hcell j hxj 0 _ rfl).trans (by rw [hfst, show (onP c0 L).el = c0.el from hsame.1])
    have a2 : w4.cell? ⟨g, j * 10 + 2, none⟩ = some (.int .i64 c0.op) := (hcell j hxj 2 _ rfl).trans (by rw [hfst, show (onP c0 L).op = c0.op from hsame.2.1])
    have hgl := lt_of hG
    have HOP := Lib.hid ((DI.dock fs).at HC0.out).op
    clear hfst hsame hcell hG HO HM1
    go_wp2_with fail
    refine (settles_c fs ((j : Int) + 1) pf cf m _ HS4.out (by omega) (HR.out.ext HX4.out) HK.out).mono ?_
    rintro e w5 ⟨rfl, x5⟩
    rw [HSR.out]
    replace a0 := (x5.cells.1 g _ hgl).trans a0
    replace a2 := (x5.cells.1 g _ hgl).trans a2
    replace hgl := Nat.lt_of_lt_of_le hgl x5.size
    have HX5 := Lib.hid (HX4.out.trans x5)
    have HS5 := Lib.hid (HS4.out.ext x5)
    clear x5
    go_wp2_with fail
    refine (taken_c fs pf cf m _ HS5.out (by omega) (HR.out.ext HX5.out) HK.out).mono ?_
    rintro e w6 ⟨v6, rfl, ho6, x6⟩
    obtain ⟨pt, ct, rfl, hst⟩ := ho6.read encF_len
    rw [HT.out] at hst ⊢
    replace a0 := (x6.cells.1 g _ hgl).trans a0
    replace a2 := (x6.cells.1 g _ hgl).trans a2
    replace hgl := Nat.lt_of_lt_of_le hgl x6.size
    have HX6 := Lib.hid (HX5.out.trans x6)
    have HS6 := Lib.hid (HS5.out.ext x6)
    have HST := Lib.hid hst
    clear x6 ho6 hst
    obtain ⟨nt, HNT⟩ : ∃ nt, Hid (T.length = nt) := ⟨_, rfl⟩
    have hnt : nt ≤ 1000 := by rw [← HNT.out]; exact HTL.out
    rw [HNT.out]
    go_wp2_with fail
    go_loopw [12, 67] (fun t i wr => ∃ (k : Nat) (z : Int), k ≤ nt ∧ i = .int .i64 k ∧ t = .int .i64 z ∧ Hid (touchK j c0.op (T.take k) = z) ∧ Ext w6 wr) (fun _ i _ => nt - (intOf i).toNat)
    case atStart => exact ⟨0, c0.op, Nat.zero_le _, rfl, rfl, rfl, Ext.refl _⟩
    case round =>
      obtain ⟨k, z, hk, rfl, rfl, HZ, hxr⟩ := hrel
      by_cases hlt : k < nt
      · have hlt1 : (k : Int) < (nt : Int) := by omega
        have hkT : k < T.length := by rw [HNT.out]; exact hlt
        obtain ⟨bb, off, f, rfl, hbl, c0', c1', c2', c3', c4', c5', HF⟩ := (HST.out.ext hxr).atF k hkT
        have HTK : Hid (touchK j c0.op (T.take (k + 1)) = if f.cs = (j : Int) + 1 then f.day else z) := by
          unfold Hid; rw [take_snocL hkT, touchK_snoc, HF.out, HZ.out]
        by_cases hfc : f.cs = (j : Int) + 1
        · have hfq : (f.cs == (j : Int) + 1) = true := by simpa using hfc
          have HTK2 : Hid (touchK j c0.op (T.take (k + 1)) = f.day) := by unfold Hid; rw [HTK.out, if_pos hfc]
          clear hfc
          go_wp2_with fail
          go_roundw
          case rel => exact ⟨k + 1, f.day, by omega, by go_num, rfl, HTK2, hxr.alloc _⟩
          case measure => simp [intOf]; omega
        · have hfq : (f.cs == (j : Int) + 1) = false := by simpa using hfc
          have HTK2 : Hid (touchK j c0.op (T.take (k + 1)) = z) := by unfold Hid; rw [HTK.out, if_neg hfc]
          clear hfc
          go_wp2_with fail
          go_roundw
          case rel => exact ⟨k + 1, z, by omega, by go_num, rfl, HTK2, hxr.alloc _⟩
          case measure => simp [intOf]; omega
      · have hlt1 : ¬ (k : Int) < (nt : Int) := by omega
        have HZ2 : Hid (touchK j c0.op T = z) := by unfold Hid; rw [← HZ.out, List.take_of_length_le (by rw [HNT.out]; omega)]
        have HSF2 : Hid (SetF c0 L z) := by unfold Hid; rw [← HZ2.out, ← HT.out, ← HL.out]; exact HSF.out
        replace a0 := (hxr.cells.1 g _ hgl).trans a0
        replace a2 := (hxr.cells.1 g _ hgl).trans a2
        replace hgl := Nat.lt_of_lt_of_le hgl hxr.size
        have HX7 := Lib.hid (HX6.out.trans hxr)
        have HS7 := Lib.hid (HS6.out.ext hxr)
        have hzb : -1 ≤ z ∧ z ≤ 65536 := by
          have h1 := HOP.out
          have h2 : touchK j c0.op (takenP fs) ≤ (dockP fs).2 := touchK_le h1.2.1 (taken fs hl1000).day
          have h3 := HLB.out
          rw [HT.out, HZ2.out, HL.out] at h2
          have h4 : 0 ≤ touchK j c0.op (takenP fs) := touchK_ge h1.1 fun f hf => (formed_days ((taken fs hl1000).formed f hf)).1
          rw [HT.out, HZ2.out] at h4
          omega
        have hsr := HSF2.out.range
        rw [HSE.out] at hsr
        have hb1 : (c0.el = true ∨ S ≤ z + 767) := by have := HSF2.out.bound; rw [HSE.out] at this; exact this
        have hb2 : decide (S < c0.op) = false := by have := HSF2.out.low; rw [HSE.out] at this; simpa using this
        have HB1 := Lib.hid hb1
        clear hxr hb1
        cases hel : c0.el with
        | true =>
          rw [hel] at a0
          clear hel
          by_cases hA : L ≤ S
          · have qA1 : decide (L ≤ S) = true := by simpa using hA
            by_cases hA2 : S < 65536
            · have qA2 : decide (S < 65536) = true := by simpa using hA2
              have HA : Hid (L ≤ S ∧ S ≤ 65535) := by unfold Hid; omega
              have HAF : Hid (4 ≤ (onP c0 S).st ∧ (onP c0 S).due = S) := by
                have := HSF2.out.then' (by rw [HSE.out]; exact HA.out.1)
                rw [HSE.out] at this
                exact this
              have HAQ : Hid (decide ((onP c0 S).st < 4) = false) := by unfold Hid; simpa using HAF.out.1
              clear hA hA2
              go_upto_region 22 with fail
              go_wp2_with fail
              refine (at_c fs (S) pf cf m _ HS7.out (by omega) (HR.out.ext HX7.out) HK.out).mono ?_
              rintro e w8 ⟨pt, cct, xst, rfl, hmt, hot, _, xt⟩
              have hatt : atP fs (S) = ((dockP fs).1.map (onP · (S)), 0) := at_from (by rw [HL.out]; exact HA.out.1) (HA.out.2)
              rw [hatt] at hmt ⊢
              have hNt : xst.length = N := by have := congrArg List.length hmt; rw [List.length_map, List.length_map, HDN.out] at this; exact this
              have hxjt : j < xst.length := by rw [hNt]; exact HJ2.out
              obtain ⟨gt, gct, rfl, _, hGt, hcellt⟩ := hot.place encC_len hxjt
              have hfstt : xst[j].1 = onP c0 (S) := by
                have h1 : (xst.map (·.1))[j]? = some xst[j].1 := by rw [List.getElem?_map, List.getElem?_eq_getElem hxjt]; rfl
                rw [hmt, List.getElem?_map, HC0.out] at h1
                exact (Option.some.inj h1).symm
              rw [hNt]
              have hglt := lt_of hGt
              have s1 : w8.cell? ⟨gt, j * 10 + 1, none⟩ = some (.int .u8 (onP c0 S).st) := (hcellt j hxjt 1 _ rfl).trans (by rw [hfstt])
              have s6 : w8.cell? ⟨gt, j * 10 + 6, none⟩ = some (.int .i64 S) := (hcellt j hxjt 6 _ rfl).trans (by rw [hfstt, HAF.out.2])
              have HXt := Lib.hid (HX7.out.trans xt)
              have HSt := Lib.hid (HS7.out.ext xt)
              clear hatt hmt hxjt hfstt hcellt hGt hot xt hNt
              have haq := HAQ.out
              go_upto_region 25 with fail
              clear s1 s6 hglt
              have hws : IntKind.i64.wrap (S - 1) = S - 1 := IntWalk.i64_in _ (by omega)
              by_cases hB : L ≤ S - 1
              · have r1 : decide (L ≤ S - 1) = true := by simpa using hB
                by_cases hB2 : S - 1 < 65536
                · have r2 : decide (S - 1 < 65536) = true := by simpa using hB2
                  have HB3 : Hid (L ≤ S - 1 ∧ S - 1 ≤ 65535) := by unfold Hid; omega
                  have HST4 : Hid (decide ((onP c0 (S - 1)).st < 4) = true) := by
                    have := HSF2.out.before (by rw [HSE.out]; exact HB3.out.1)
                    rw [HSE.out] at this
                    exact decide_eq_true this
                  clear hB hB2
                  go_wp2_with fail
                  refine (at_c fs (S - 1) pf cf m _ HSt.out (by omega) (HR.out.ext HXt.out) HK.out).mono ?_
                  rintro e w9a ⟨pza, ccza, xsza, rfl, hmza, hoza, _, xza⟩
                  have hatza : atP fs (S - 1) = ((dockP fs).1.map (onP · (S - 1)), 0) := at_from (by rw [HL.out]; exact HB3.out.1) (HB3.out.2)
                  rw [hatza] at hmza ⊢
                  have hNza : xsza.length = N := by have := congrArg List.length hmza; rw [List.length_map, List.length_map, HDN.out] at this; exact this
                  have hxjza : j < xsza.length := by rw [hNza]; exact HJ2.out
                  obtain ⟨gza, gcza, rfl, _, hGza, hcellza⟩ := hoza.place encC_len hxjza
                  have hfstza : xsza[j].1 = onP c0 (S - 1) := by
                    have h1 : (xsza.map (·.1))[j]? = some xsza[j].1 := by rw [List.getElem?_map, List.getElem?_eq_getElem hxjza]; rfl
                    rw [hmza, List.getElem?_map, HC0.out] at h1
                    exact (Option.some.inj h1).symm
                  rw [hNza]
                  have hglza := lt_of hGza
                  have y1 : w9a.cell? ⟨gza, j * 10 + 1, none⟩ = some (.int .u8 (onP c0 (S - 1)).st) := (hcellza j hxjza 1 _ rfl).trans (by rw [hfstza])
                  have HXza := Lib.hid (HXt.out.trans xza)
                  have HSza := Lib.hid (HSt.out.ext xza)
                  clear hatza hmza hxjza hfstza hcellza hGza hoza xza hNza
                  have hst4 := HST4.out
                  go_wp2_with fail
                  go_ret
                  exact ⟨rfl, HXza.out⟩
                · have r2 : decide (S - 1 < 65536) = false := by simpa using (by omega : 65536 ≤ S - 1)
                  clear hB hB2
                  go_wp2_with fail
                  go_ret
                  exact ⟨rfl, HXt.out⟩
              · have r1 : decide (L ≤ S - 1) = false := by simpa using hB
                clear hB
                go_wp2_with fail
                go_ret
                exact ⟨rfl, HXt.out⟩
            · have qA2 : decide (S < 65536) = false := by simpa using (by omega : 65536 ≤ S)
              clear hA hA2
              go_upto_region 25 with fail
              have hws : IntKind.i64.wrap (S - 1) = S - 1 := IntWalk.i64_in _ (by omega)
              by_cases hB : L ≤ S - 1
              · have r1 : decide (L ≤ S - 1) = true := by simpa using hB
                by_cases hB2 : S - 1 < 65536
                · have r2 : decide (S - 1 < 65536) = true := by simpa using hB2
                  have HB3 : Hid (L ≤ S - 1 ∧ S - 1 ≤ 65535) := by unfold Hid; omega
                  have HST4 : Hid (decide ((onP c0 (S - 1)).st < 4) = true) := by
                    have := HSF2.out.before (by rw [HSE.out]; exact HB3.out.1)
                    rw [HSE.out] at this
                    exact decide_eq_true this
                  clear hB hB2
                  go_wp2_with fail
                  refine (at_c fs (S - 1) pf cf m _ HS7.out (by omega) (HR.out.ext HX7.out) HK.out).mono ?_
                  rintro e w9b ⟨pzb, cczb, xszb, rfl, hmzb, hozb, _, xzb⟩
                  have hatzb : atP fs (S - 1) = ((dockP fs).1.map (onP · (S - 1)), 0) := at_from (by rw [HL.out]; exact HB3.out.1) (HB3.out.2)
                  rw [hatzb] at hmzb ⊢
                  have hNzb : xszb.length = N := by have := congrArg List.length hmzb; rw [List.length_map, List.length_map, HDN.out] at this; exact this
                  have hxjzb : j < xszb.length := by rw [hNzb]; exact HJ2.out
                  obtain ⟨gzb, gczb, rfl, _, hGzb, hcellzb⟩ := hozb.place encC_len hxjzb
                  have hfstzb : xszb[j].1 = onP c0 (S - 1) := by
                    have h1 : (xszb.map (·.1))[j]? = some xszb[j].1 := by rw [List.getElem?_map, List.getElem?_eq_getElem hxjzb]; rfl
                    rw [hmzb, List.getElem?_map, HC0.out] at h1
                    exact (Option.some.inj h1).symm
                  rw [hNzb]
                  have hglzb := lt_of hGzb
                  have y1 : w9b.cell? ⟨gzb, j * 10 + 1, none⟩ = some (.int .u8 (onP c0 (S - 1)).st) := (hcellzb j hxjzb 1 _ rfl).trans (by rw [hfstzb])
                  have HXzb := Lib.hid (HX7.out.trans xzb)
                  have HSzb := Lib.hid (HS7.out.ext xzb)
                  clear hatzb hmzb hxjzb hfstzb hcellzb hGzb hozb xzb hNzb
                  have hst4 := HST4.out
                  go_wp2_with fail
                  go_ret
                  exact ⟨rfl, HXzb.out⟩
                · have r2 : decide (S - 1 < 65536) = false := by simpa using (by omega : 65536 ≤ S - 1)
                  clear hB hB2
                  go_wp2_with fail
                  go_ret
                  exact ⟨rfl, HX7.out⟩
              · have r1 : decide (L ≤ S - 1) = false := by simpa using hB
                clear hB
                go_wp2_with fail
                go_ret
                exact ⟨rfl, HX7.out⟩
          · have qA1 : decide (L ≤ S) = false := by simpa using hA
            clear hA
            go_upto_region 25 with fail
            have hws : IntKind.i64.wrap (S - 1) = S - 1 := IntWalk.i64_in _ (by omega)
            by_cases hB : L ≤ S - 1
            · have r1 : decide (L ≤ S - 1) = true := by simpa using hB
              by_cases hB2 : S - 1 < 65536
              · have r2 : decide (S - 1 < 65536) = true := by simpa using hB2
                have HB3 : Hid (L ≤ S - 1 ∧ S - 1 ≤ 65535) := by unfold Hid; omega
                have HST4 : Hid (decide ((onP c0 (S - 1)).st < 4) = true) := by
                  have := HSF2.out.before (by rw [HSE.out]; exact HB3.out.1)
                  rw [HSE.out] at this
                  exact decide_eq_true this
                clear hB hB2
                go_wp2_with fail
                refine (at_c fs (S - 1) pf cf m _ HS7.out (by omega) (HR.out.ext HX7.out) HK.out).mono ?_
                rintro e w9c ⟨pzc, cczc, xszc, rfl, hmzc, hozc, _, xzc⟩
                have hatzc : atP fs (S - 1) = ((dockP fs).1.map (onP · (S - 1)), 0) := at_from (by rw [HL.out]; exact HB3.out.1) (HB3.out.2)
                rw [hatzc] at hmzc ⊢
                have hNzc : xszc.length = N := by have := congrArg List.length hmzc; rw [List.length_map, List.length_map, HDN.out] at this; exact this
                have hxjzc : j < xszc.length := by rw [hNzc]; exact HJ2.out
                obtain ⟨gzc, gczc, rfl, _, hGzc, hcellzc⟩ := hozc.place encC_len hxjzc
                have hfstzc : xszc[j].1 = onP c0 (S - 1) := by
                  have h1 : (xszc.map (·.1))[j]? = some xszc[j].1 := by rw [List.getElem?_map, List.getElem?_eq_getElem hxjzc]; rfl
                  rw [hmzc, List.getElem?_map, HC0.out] at h1
                  exact (Option.some.inj h1).symm
                rw [hNzc]
                have hglzc := lt_of hGzc
                have y1 : w9c.cell? ⟨gzc, j * 10 + 1, none⟩ = some (.int .u8 (onP c0 (S - 1)).st) := (hcellzc j hxjzc 1 _ rfl).trans (by rw [hfstzc])
                have HXzc := Lib.hid (HX7.out.trans xzc)
                have HSzc := Lib.hid (HS7.out.ext xzc)
                clear hatzc hmzc hxjzc hfstzc hcellzc hGzc hozc xzc hNzc
                have hst4 := HST4.out
                go_wp2_with fail
                go_ret
                exact ⟨rfl, HXzc.out⟩
              · have r2 : decide (S - 1 < 65536) = false := by simpa using (by omega : 65536 ≤ S - 1)
                clear hB hB2
                go_wp2_with fail
                go_ret
                exact ⟨rfl, HX7.out⟩
            · have r1 : decide (L ≤ S - 1) = false := by simpa using hB
              clear hB
              go_wp2_with fail
              go_ret
              exact ⟨rfl, HX7.out⟩
        | false =>
          have hb3 : decide (z + 767 < S) = false := by
            rcases HB1.out with h | h
            · rw [hel] at h; cases h
            · simpa using h
          rw [hel] at a0
          clear hel
          by_cases hA : L ≤ S
          · have qA1 : decide (L ≤ S) = true := by simpa using hA
            by_cases hA2 : S < 65536
            · have qA2 : decide (S < 65536) = true := by simpa using hA2
              have HA : Hid (L ≤ S ∧ S ≤ 65535) := by unfold Hid; omega
              have HAF : Hid (4 ≤ (onP c0 S).st ∧ (onP c0 S).due = S) := by
                have := HSF2.out.then' (by rw [HSE.out]; exact HA.out.1)
                rw [HSE.out] at this
                exact this
              have HAQ : Hid (decide ((onP c0 S).st < 4) = false) := by unfold Hid; simpa using HAF.out.1
              clear hA hA2
              go_upto_region 22 with fail
              go_wp2_with fail
              refine (at_c fs (S) pf cf m _ HS7.out (by omega) (HR.out.ext HX7.out) HK.out).mono ?_
              rintro e w8 ⟨pt, cct, xst, rfl, hmt, hot, _, xt⟩
              have hatt : atP fs (S) = ((dockP fs).1.map (onP · (S)), 0) := at_from (by rw [HL.out]; exact HA.out.1) (HA.out.2)
              rw [hatt] at hmt ⊢
              have hNt : xst.length = N := by have := congrArg List.length hmt; rw [List.length_map, List.length_map, HDN.out] at this; exact this
              have hxjt : j < xst.length := by rw [hNt]; exact HJ2.out
              obtain ⟨gt, gct, rfl, _, hGt, hcellt⟩ := hot.place encC_len hxjt
              have hfstt : xst[j].1 = onP c0 (S) := by
                have h1 : (xst.map (·.1))[j]? = some xst[j].1 := by rw [List.getElem?_map, List.getElem?_eq_getElem hxjt]; rfl
                rw [hmt, List.getElem?_map, HC0.out] at h1
                exact (Option.some.inj h1).symm
              rw [hNt]
              have hglt := lt_of hGt
              have s1 : w8.cell? ⟨gt, j * 10 + 1, none⟩ = some (.int .u8 (onP c0 S).st) := (hcellt j hxjt 1 _ rfl).trans (by rw [hfstt])
              have s6 : w8.cell? ⟨gt, j * 10 + 6, none⟩ = some (.int .i64 S) := (hcellt j hxjt 6 _ rfl).trans (by rw [hfstt, HAF.out.2])
              have HXt := Lib.hid (HX7.out.trans xt)
              have HSt := Lib.hid (HS7.out.ext xt)
              clear hatt hmt hxjt hfstt hcellt hGt hot xt hNt
              have haq := HAQ.out
              go_upto_region 25 with fail
              clear s1 s6 hglt
              have hws : IntKind.i64.wrap (S - 1) = S - 1 := IntWalk.i64_in _ (by omega)
              by_cases hB : L ≤ S - 1
              · have r1 : decide (L ≤ S - 1) = true := by simpa using hB
                by_cases hB2 : S - 1 < 65536
                · have r2 : decide (S - 1 < 65536) = true := by simpa using hB2
                  have HB3 : Hid (L ≤ S - 1 ∧ S - 1 ≤ 65535) := by unfold Hid; omega
                  have HST4 : Hid (decide ((onP c0 (S - 1)).st < 4) = true) := by
                    have := HSF2.out.before (by rw [HSE.out]; exact HB3.out.1)
                    rw [HSE.out] at this
                    exact decide_eq_true this
                  clear hB hB2
                  go_wp2_with fail
                  refine (at_c fs (S - 1) pf cf m _ HSt.out (by omega) (HR.out.ext HXt.out) HK.out).mono ?_
                  rintro e w9a ⟨pza, ccza, xsza, rfl, hmza, hoza, _, xza⟩
                  have hatza : atP fs (S - 1) = ((dockP fs).1.map (onP · (S - 1)), 0) := at_from (by rw [HL.out]; exact HB3.out.1) (HB3.out.2)
                  rw [hatza] at hmza ⊢
                  have hNza : xsza.length = N := by have := congrArg List.length hmza; rw [List.length_map, List.length_map, HDN.out] at this; exact this
                  have hxjza : j < xsza.length := by rw [hNza]; exact HJ2.out
                  obtain ⟨gza, gcza, rfl, _, hGza, hcellza⟩ := hoza.place encC_len hxjza
                  have hfstza : xsza[j].1 = onP c0 (S - 1) := by
                    have h1 : (xsza.map (·.1))[j]? = some xsza[j].1 := by rw [List.getElem?_map, List.getElem?_eq_getElem hxjza]; rfl
                    rw [hmza, List.getElem?_map, HC0.out] at h1
                    exact (Option.some.inj h1).symm
                  rw [hNza]
                  have hglza := lt_of hGza
                  have y1 : w9a.cell? ⟨gza, j * 10 + 1, none⟩ = some (.int .u8 (onP c0 (S - 1)).st) := (hcellza j hxjza 1 _ rfl).trans (by rw [hfstza])
                  have HXza := Lib.hid (HXt.out.trans xza)
                  have HSza := Lib.hid (HSt.out.ext xza)
                  clear hatza hmza hxjza hfstza hcellza hGza hoza xza hNza
                  have hst4 := HST4.out
                  go_wp2_with fail
                  go_ret
                  exact ⟨rfl, HXza.out⟩
                · have r2 : decide (S - 1 < 65536) = false := by simpa using (by omega : 65536 ≤ S - 1)
                  clear hB hB2
                  go_wp2_with fail
                  go_ret
                  exact ⟨rfl, HXt.out⟩
              · have r1 : decide (L ≤ S - 1) = false := by simpa using hB
                clear hB
                go_wp2_with fail
                go_ret
                exact ⟨rfl, HXt.out⟩
            · have qA2 : decide (S < 65536) = false := by simpa using (by omega : 65536 ≤ S)
              clear hA hA2
              go_upto_region 25 with fail
              have hws : IntKind.i64.wrap (S - 1) = S - 1 := IntWalk.i64_in _ (by omega)
              by_cases hB : L ≤ S - 1
              · have r1 : decide (L ≤ S - 1) = true := by simpa using hB
                by_cases hB2 : S - 1 < 65536
                · have r2 : decide (S - 1 < 65536) = true := by simpa using hB2
                  have HB3 : Hid (L ≤ S - 1 ∧ S - 1 ≤ 65535) := by unfold Hid; omega
                  have HST4 : Hid (decide ((onP c0 (S - 1)).st < 4) = true) := by
                    have := HSF2.out.before (by rw [HSE.out]; exact HB3.out.1)
                    rw [HSE.out] at this
                    exact decide_eq_true this
                  clear hB hB2
                  go_wp2_with fail
                  refine (at_c fs (S - 1) pf cf m _ HS7.out (by omega) (HR.out.ext HX7.out) HK.out).mono ?_
                  rintro e w9b ⟨pzb, cczb, xszb, rfl, hmzb, hozb, _, xzb⟩
                  have hatzb : atP fs (S - 1) = ((dockP fs).1.map (onP · (S - 1)), 0) := at_from (by rw [HL.out]; exact HB3.out.1) (HB3.out.2)
                  rw [hatzb] at hmzb ⊢
                  have hNzb : xszb.length = N := by have := congrArg List.length hmzb; rw [List.length_map, List.length_map, HDN.out] at this; exact this
                  have hxjzb : j < xszb.length := by rw [hNzb]; exact HJ2.out
                  obtain ⟨gzb, gczb, rfl, _, hGzb, hcellzb⟩ := hozb.place encC_len hxjzb
                  have hfstzb : xszb[j].1 = onP c0 (S - 1) := by
                    have h1 : (xszb.map (·.1))[j]? = some xszb[j].1 := by rw [List.getElem?_map, List.getElem?_eq_getElem hxjzb]; rfl
                    rw [hmzb, List.getElem?_map, HC0.out] at h1
                    exact (Option.some.inj h1).symm
                  rw [hNzb]
                  have hglzb := lt_of hGzb
                  have y1 : w9b.cell? ⟨gzb, j * 10 + 1, none⟩ = some (.int .u8 (onP c0 (S - 1)).st) := (hcellzb j hxjzb 1 _ rfl).trans (by rw [hfstzb])
                  have HXzb := Lib.hid (HX7.out.trans xzb)
                  have HSzb := Lib.hid (HS7.out.ext xzb)
                  clear hatzb hmzb hxjzb hfstzb hcellzb hGzb hozb xzb hNzb
                  have hst4 := HST4.out
                  go_wp2_with fail
                  go_ret
                  exact ⟨rfl, HXzb.out⟩
                · have r2 : decide (S - 1 < 65536) = false := by simpa using (by omega : 65536 ≤ S - 1)
                  clear hB hB2
                  go_wp2_with fail
                  go_ret
                  exact ⟨rfl, HX7.out⟩
              · have r1 : decide (L ≤ S - 1) = false := by simpa using hB
                clear hB
                go_wp2_with fail
                go_ret
                exact ⟨rfl, HX7.out⟩
          · have qA1 : decide (L ≤ S) = false := by simpa using hA
            clear hA
            go_upto_region 25 with fail
            have hws : IntKind.i64.wrap (S - 1) = S - 1 := IntWalk.i64_in _ (by omega)
            by_cases hB : L ≤ S - 1
            · have r1 : decide (L ≤ S - 1) = true := by simpa using hB
              by_cases hB2 : S - 1 < 65536
              · have r2 : decide (S - 1 < 65536) = true := by simpa using hB2
                have HB3 : Hid (L ≤ S - 1 ∧ S - 1 ≤ 65535) := by unfold Hid; omega
                have HST4 : Hid (decide ((onP c0 (S - 1)).st < 4) = true) := by
                  have := HSF2.out.before (by rw [HSE.out]; exact HB3.out.1)
                  rw [HSE.out] at this
                  exact decide_eq_true this
                clear hB hB2
                go_wp2_with fail
                refine (at_c fs (S - 1) pf cf m _ HS7.out (by omega) (HR.out.ext HX7.out) HK.out).mono ?_
                rintro e w9c ⟨pzc, cczc, xszc, rfl, hmzc, hozc, _, xzc⟩
                have hatzc : atP fs (S - 1) = ((dockP fs).1.map (onP · (S - 1)), 0) := at_from (by rw [HL.out]; exact HB3.out.1) (HB3.out.2)
                rw [hatzc] at hmzc ⊢
                have hNzc : xszc.length = N := by have := congrArg List.length hmzc; rw [List.length_map, List.length_map, HDN.out] at this; exact this
                have hxjzc : j < xszc.length := by rw [hNzc]; exact HJ2.out
                obtain ⟨gzc, gczc, rfl, _, hGzc, hcellzc⟩ := hozc.place encC_len hxjzc
                have hfstzc : xszc[j].1 = onP c0 (S - 1) := by
                  have h1 : (xszc.map (·.1))[j]? = some xszc[j].1 := by rw [List.getElem?_map, List.getElem?_eq_getElem hxjzc]; rfl
                  rw [hmzc, List.getElem?_map, HC0.out] at h1
                  exact (Option.some.inj h1).symm
                rw [hNzc]
                have hglzc := lt_of hGzc
                have y1 : w9c.cell? ⟨gzc, j * 10 + 1, none⟩ = some (.int .u8 (onP c0 (S - 1)).st) := (hcellzc j hxjzc 1 _ rfl).trans (by rw [hfstzc])
                have HXzc := Lib.hid (HX7.out.trans xzc)
                have HSzc := Lib.hid (HS7.out.ext xzc)
                clear hatzc hmzc hxjzc hfstzc hcellzc hGzc hozc xzc hNzc
                have hst4 := HST4.out
                go_wp2_with fail
                go_ret
                exact ⟨rfl, HXzc.out⟩
              · have r2 : decide (S - 1 < 65536) = false := by simpa using (by omega : 65536 ≤ S - 1)
                clear hB hB2
                go_wp2_with fail
                go_ret
                exact ⟨rfl, HX7.out⟩
            · have r1 : decide (L ≤ S - 1) = false := by simpa using hB
              clear hB
              go_wp2_with fail
              go_ret
              exact ⟨rfl, HX7.out⟩
  · have hjN : j = N := by have := HJN.out; omega
    have HSR : Hid (settR fs ((j : Int) + 1) = (0, false)) := by
      unfold Hid settR
      have e : ((j : Int) + 1 - 1).toNat = j := by omega
      rw [if_neg (by omega), e, List.getElem?_eq_none (by rw [HDN.out]; omega)]
    have hq1 : decide ((j : Int) + 1 ≤ (N : Int)) = false := by simp; omega
    clear hjN
    go_wp2_with fail
    refine (settles_c fs ((j : Int) + 1) pf cf m _ HS4.out (by omega) (HR.out.ext HX4.out) HK.out).mono ?_
    rintro e w5 ⟨rfl, x5⟩
    rw [HSR.out]
    go_wp2_with fail
    go_ret
    exact ⟨rfl, HX4.out.trans x5⟩
end Go.Proofs.YtalconpcpegmlaaDoor
