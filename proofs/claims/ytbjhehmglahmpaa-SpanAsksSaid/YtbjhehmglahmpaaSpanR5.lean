import Derived.Test.YtbjhehmglahmpaaSpanR4
import Derived.Test.YtbjhehmglahmpaaSpanGapP
/- The reference for spans, walked: Bridge. -/
namespace Go.Proofs.Ytbjhehmglahmpaa
open Go.RowKit

theorem gaps_step (days d : Int) : ∀ (l : List Sp) (k : Nat) (h : k + 1 < l.length), gapsB days d (l.take (k + 2)) = (gapsB days d (l.take (k + 1)) || (decide (l[k + 1].1 - l[k].2 ≤ days) && inS d (l[k].2, l[k + 1].1)))
  | s0 :: s1 :: l, 0, _ => by simp [gapsB, gapB]
  | [s0], k, h => by simp at h
  | [], k, h => by simp at h
  | s0 :: s1 :: l, k + 1, h => by
    have ih := gaps_step days d (s1 :: l) k (by simpa using h)
    rw [List.take_succ_cons, List.take_succ_cons (a := s0)]
    have e1 : gapsB days d (s0 :: (s1 :: l).take (k + 2)) = ((decide (s1.1 - s0.2 ≤ days) && inS d (s0.2, s1.1)) || gapsB days d ((s1 :: l).take (k + 2))) := by simp [gapsB, gapB]
    have e2 : gapsB days d (s0 :: (s1 :: l).take (k + 1)) = ((decide (s1.1 - s0.2 ≤ days) && inS d (s0.2, s1.1)) || gapsB days d ((s1 :: l).take (k + 1))) := by simp [gapsB, gapB]
    rw [e1, e2, ih, Bool.or_assoc]
    rfl
theorem gaps_one (days d : Int) (l : List Sp) : gapsB days d (l.take 1) = false := by
  cases l with
  | nil => rfl
  | cons s l => rfl
theorem Ok.gap : ∀ {l : List Sp} {e : Int}, Ok e l → ∀ k (h : k + 1 < l.length), l[k].2 < l[k + 1].1
  | s0 :: s1 :: l, _, ho, 0, _ => ho.2.2.2.2.1
  | [s0], _, _, k, h => by simp at h
  | [], _, _, k, h => by simp at h
  | s0 :: s1 :: l, _, ho, k + 1, h => by
    have := Ok.gap (l := s1 :: l) ho.2.2.2.2 k (by simpa using h)
    simpa using this
set_option maxHeartbeats 3200000 in
set_option maxRecDepth 100000 in
theorem rbridge_any (l : List Sp) (most : Int) (p : Option Addr) (c : Nat) (w : World) (hl : Sl 2 enc2 w p l) (hm : l.length ≤ 1000000) :
    Calls Try.prog 75 #[.slice p l.length c, .int .i64 most] w fun e w' => ∃ v, e = .returned (.tuple #[v, .int .i64 (bridgeE l most)]) ∧ OwnS w w' v (bridgeV l most) ∧ Ext w w' := by
  cases hv : validB (-1) l with
  | false =>
    have HB : Hid (bridgeV l most = [] ∧ bridgeE l most = 2) := by unfold Hid bridgeV bridgeE; rw [if_neg (by rw [hv]; simp), if_neg (by rw [hv]; simp)]; exact ⟨rfl, rfl⟩
    have HV := Lib.hid hv
    clear hv
    go_enter Try.func75, Try.ntmps75
    go_wp2_with fail
    refine (rvalid_any l _ _ _ hl hm).mono ?_
    rintro e wN ⟨he, hx⟩
    rw [HV.out] at he
    subst he
    go_wp2_with fail
    go_ret2
    rw [HB.out.1, HB.out.2]
    exact ⟨_, rfl, Owns.nil, hx⟩
  | true =>
    have HO := Lib.hid ((validB_iff _ _).1 hv)
    have HV := Lib.hid hv
    have HR := Lib.hid (validB_right hv)
    clear hv
    by_cases h0 : most < 0
    · have hde0 : decide (most < 0) = true := by simpa using h0
      have HB : Hid (bridgeV l most = [] ∧ bridgeE l most = 2) := by unfold Hid bridgeV bridgeE; rw [if_neg (fun h => by omega), if_neg (fun h => by omega)]; exact ⟨rfl, rfl⟩
      go_enter Try.func75, Try.ntmps75
      go_wp2_with fail
      refine (rvalid_any l _ _ _ hl hm).mono ?_
      rintro e wN ⟨he, hx⟩
      rw [HV.out] at he
      subst he
      go_wp2_with fail
      go_ret2
      rw [HB.out.1, HB.out.2]
      exact ⟨_, rfl, Owns.nil, hx⟩
    · have hde0 : decide (most < 0) = false := by simpa using h0
      obtain ⟨N, HN⟩ : ∃ N, Hid (N = 65536) := ⟨65536, rfl⟩
      have HB : Hid (bridgeV l most = runs (fun d => memB d l || gapsB most d l) N ∧ bridgeE l most = 0) := by
        unfold Hid
        rw [HN.out, runs_bridge most HO.out]
        unfold bridgeV bridgeE
        rw [if_pos ⟨HV.out, by omega⟩, if_pos ⟨HV.out, by omega⟩]; exact ⟨rfl, rfl⟩
      go_enter Try.func75, Try.ntmps75
      go_wp2_with fail
      refine (rvalid_any l _ _ _ hl hm).mono ?_
      rintro e wN ⟨he, hx⟩
      rw [HV.out] at he
      subst he
      go_wp2_with fail
      refine (marks_any l p _ _ (hl.ext hx) hm HR.out).mono ?_
      rintro e w2 ⟨g, rfl, hrow, hgB, hx2⟩
      have HGB : Hid (w.heap.size ≤ g) := Nat.le_trans hx.size hgB
      replace hx := hx.trans hx2
      clear hx2 hgB
      go_wp2_with fail
      go_loopw [7, 8] (fun i _ wr => ∃ (k : Nat), (k = 0 ∨ k + 1 ≤ l.length) ∧ i = .int .i64 ((k : Int) + 1) ∧ RowB wr g (fun d => memB d l || gapsB most d (l.take (k + 1))) ∧ Ext w wr) (fun i _ _ => l.length + 1 - (intOf i).toNat)
      case atStart => exact ⟨0, .inl rfl, rfl, hrow.congr fun d _ _ => by rw [gaps_one, Bool.or_false], hx⟩
      case round =>
        obtain ⟨k, hk, rfl, hrw, hx2⟩ := hrel
        by_cases hlt : k + 1 < l.length
        · have hlt2 : (k : Int) + 1 < (l.length : Int) := by omega
          have hde : decide ((k : Int) + 1 < (l.length : Int)) = true := by simpa using hlt2
          obtain ⟨bb, off, f1, t1, rfl, hbl, c2, c3, _, HG1⟩ := (hl.ext hx2).at2 (k + 1) hlt
          obtain ⟨_, c0, c1⟩ := (hl.ext hx2).at2b k (by omega)
          have b0 := Ok.bounds2 HO.out l[k] (List.getElem_mem (show k < l.length by omega))
          have b1 := Ok.bounds2 HO.out l[k + 1] (List.getElem_mem hlt)
          have hgap := Ok.gap HO.out k hlt
          have hst := gaps_step most
          have HST : Hid (∀ d, gapsB most d (l.take (k + 1 + 1)) = (gapsB most d (l.take (k + 1)) || (decide (l[k + 1].1 - l[k].2 ≤ most) && inS d (l[k].2, l[k + 1].1)))) := fun d => gaps_step most d l k hlt
          have HGB2 := HG1.out
          clear hst
          rw [HGB2] at b1 hgap HST
          generalize l[k] = s0 at c0 c1 b0 hgap HST
          obtain ⟨f0, t0⟩ := s0
          dsimp only at c0 c1 b0 b1 hgap HST
          clear HGB2
          obtain ⟨tn, rfl⟩ : ∃ tn : Nat, t0 = (tn : Int) := ⟨t0.toNat, by omega⟩
          have hw1 := IntWalk.i64_in ((k : Int) + 1 - 1) (by omega)
          have hw2 := IntWalk.i64_in (f1 - (tn : Int)) (by omega)
          by_cases hle : f1 - (tn : Int) ≤ most
          · have hdl : decide (f1 - (tn : Int) ≤ most) = true := by simpa using hle
            go_wp2_with fail
            go_quiet (fail)
            go_wp2_with fail
            have hrw' := hrw
            go_loopw [8] (fun i wq => ∃ (d : Nat), tn ≤ d ∧ (d : Int) ≤ f1 ∧ i = .int .i64 d ∧ RowB wq g (fun x => (memB x l || gapsB most x (l.take (k + 1))) || decide ((tn : Int) ≤ x ∧ x < (d : Int))) ∧ Ext w wq) (fun i _ => f1.toNat - (intOf i).toNat)
            case atStart => exact ⟨tn, by omega, by omega, rfl, (hrw.ext ((Ext.refl _).drewN _)).congr fun d _ _ => by rw [decide_eq_false (by omega), Bool.or_false], hx2.drewN _⟩
            case round =>
              obtain ⟨d, hd0, hd1, rfl, hrw2, hx3⟩ := hrel
              obtain ⟨_, e0, e1⟩ := (hl.ext hx3).at2b (k + 1) hlt
              rw [HG1.out] at e0 e1
              dsimp only at e0 e1
              by_cases hdt : (d : Int) < f1
              · have hde2 : decide ((d : Int) < f1) = true := by simpa using hdt
                obtain ⟨cd, fd, gd⟩ := hrw2.cell d (by omega)
                go_wp2_with fail
                go_roundw
                case rel =>
                  refine ⟨d + 1, by omega, by omega, by go_num, (hrw2.set d (by omega)).congr fun x _ _ => ?_, hx3.setCell HGB.out _⟩
                  rw [Bool.or_assoc (memB x l || _)]
                  congr 1
                  rw [Bool.eq_iff_iff, Bool.or_eq_true, decide_eq_true_iff, decide_eq_true_iff, decide_eq_true_iff]; omega
                case measure => simp [intOf]; omega
              · have hde2 : decide ((d : Int) < f1) = false := by simpa using hdt
                go_wp2_with fail
                go_roundw
                case rel =>
                  refine ⟨k + 1, .inr (by omega), by go_num, hrw2.congr fun x _ _ => ?_, hx3⟩
                  rw [HST.out x, hdl, Bool.true_and, ← Bool.or_assoc]
                  congr 1
                  rw [Bool.eq_iff_iff, inS_iff, decide_eq_true_iff]; dsimp only; omega
                case measure => simp [intOf]; omega
          · have hdl : decide (f1 - (tn : Int) ≤ most) = false := by simpa using hle
            go_wp2_with fail
            go_quiet (fail)
            go_wp2_with fail
            go_roundw
            case rel =>
              refine ⟨k + 1, .inr (by omega), by go_num, (hrw.ext ((Ext.refl _).drewN _)).congr fun x _ _ => ?_, hx2.drewN _⟩
              rw [HST.out x, hdl, Bool.false_and, Bool.or_false]
            case measure => simp [intOf]; omega
        · have hlt2 : ¬ (k : Int) + 1 < (l.length : Int) := by omega
          have hde : decide ((k : Int) + 1 < (l.length : Int)) = false := by simpa using hlt2
          go_wp2_with fail
          refine (rset_any N g _ wr HN (hrw.congr (f' := fun d => memB d l || gapsB most d l) fun d _ _ => by rw [List.take_of_length_le (by omega)])).mono ?_
          rintro e w3 ⟨v, rfl, hown, hx3⟩
          go_wp2_with fail
          go_ret2
          rw [HB.out.2, HB.out.1]
          exact ⟨v, rfl, Owns.mono hown hx2.size, hx2.trans hx3⟩
end Go.Proofs.Ytbjhehmglahmpaa
