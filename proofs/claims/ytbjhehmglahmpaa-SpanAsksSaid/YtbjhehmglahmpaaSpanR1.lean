import Derived.Test.YtbjhehmglahmpaaSpanRefP
import Derived.Test.YtbjhehmglahmpaaSpanWe
import Derived.Test.YtbjhehmglahmpaaSpanR0
import Derived.Laws.MakeOwn
/- The reference for spans, walked: which span is right, the days marked one by one, the set read off the marks. -/
namespace Go.Proofs.Ytbjhehmglahmpaa
open Go.RowKit

/-- A row of 65536 marks. -/
def RowB (w : World) (g : Nat) (f : Int → Bool) : Prop := ∃ c : Array Value, w.heap[g]? = some (.cells c 4 (0, 0)) ∧ ∀ i : Nat, i < 65536 → c[i]? = some (.bool (f i))
theorem RowB.cell {w : World} {g : Nat} {f : Int → Bool} (h : RowB w g f) (i : Nat) (hi : i < 65536) : w.cell? ⟨g, i, none⟩ = some (.bool (f i)) ∧ w.frozen? ⟨g, i, none⟩ = false ∧ g < w.heap.size := by
  obtain ⟨c, h1, h2⟩ := h
  exact ⟨(cell_of h1).trans (h2 i hi), frozen_of h1, lt_of h1⟩
theorem RowB.ext {w w' : World} {g : Nat} {f : Int → Bool} (h : RowB w g f) (hx : Ext w w') : RowB w' g f :=
  let ⟨c, h1, h2⟩ := h
  ⟨c, heap_ext h1 hx, h2⟩
theorem RowB.congr {w : World} {g : Nat} {f f' : Int → Bool} (h : RowB w g f) (he : ∀ d : Int, 0 ≤ d → d < 65536 → f d = f' d) : RowB w g f' :=
  let ⟨c, h1, h2⟩ := h
  ⟨c, h1, fun i hi => by rw [h2 i hi, he i (by omega) (by omega)]⟩
theorem RowB.set {w : World} {g : Nat} {f : Int → Bool} (h : RowB w g f) (i : Nat) (hi : i < 65536) : RowB (w.setCell ⟨g, i, none⟩ (.bool true)) g (fun d => f d || decide (d = (i : Int))) := by
  obtain ⟨c, h1, h2⟩ := h
  refine ⟨_, heap_same h1, fun j hj => ?_⟩
  rw [Array.getElem?_setIfInBounds]
  by_cases hij : i = j
  · subst hij
    have : i < c.size := (Array.getElem?_eq_some_iff.1 (h2 i hi)).1
    rw [if_pos rfl, if_pos this]; simp
  · rw [if_neg hij, h2 j hj]
    show _ = some (Value.bool (f j || decide ((j : Int) = (i : Int))))
    rw [decide_eq_false (by omega), Bool.or_false]
theorem infoBl : (Try.prog.info? 4).map (fun i => (i.zero, i.size, i.bytes)) = some (some (.bool false), 1, 1) := by kernel_rfl
theorem mk_marks : ∃ mk : Array Value, (∀ i : Nat, i < 65536 → mk[i]? = some (.bool false)) ∧
    ∀ w : World, (Instr.makeSlice 123 (.int .i64 65536) (.int .i64 65536)).run Try.prog w = .ok (.slice (some ⟨w.heap.size, 0, none⟩) 65536 65536) (w.alloc (.cells mk 4)) := by
  obtain ⟨i0, hi, hz0, hz1, hz2⟩ := info_parts infoBl
  have e : (65536 : Int).toNat = 65536 := by decide
  refine ⟨madeCells (.bool false : Value).cells ((65536 : Int).toNat * i0.size), fun i hi => ?_, fun w => ?_⟩
  · have h1 : (.bool false : Value).cells = #[.bool false] := rfl
    rw [hz1, e, h1]
    simp [madeCells]
    exact ⟨i, by simp [hi], by simp [Nat.mod_one]⟩
  · have h := run_make w 123 4 i0 (.bool false) Try.underlying123 hi hz0 .i64 .i64 65536 65536 (by decide) (by decide) (by rw [hz2]; decide) (by decide)
    rw [h]
    rw [e]
set_option maxHeartbeats 1600000 in
theorem marks_any (l : List Sp) (p : Option Addr) (c : Nat) (w : World) (hl : Sl 2 enc2 w p l) (hm : l.length ≤ 1000000) (hr : l.all rightB = true) :
    Calls Try.prog 91 #[.slice p l.length c] w fun e w' => ∃ g, e = .returned (.slice (some ⟨g, 0, none⟩) 65536 65536) ∧ RowB w' g (fun d => memB d l) ∧ w.heap.size ≤ g ∧ Ext w w' := by
  obtain ⟨mk, hmk0, hmk⟩ := mk_marks
  have HR : Hid (∀ s ∈ l, rightB s = true) := List.all_eq_true.1 hr
  have HM := Lib.hid hmk0
  clear hr hmk0
  go_enter Try.func91, Try.ntmps91
  go_wp2_with fail
  have hrow : RowB (w.alloc (.cells mk 4)) w.heap.size (fun d => memB d (l.take 0)) := ⟨mk, heap_new w _, fun i hi => HM.out i hi⟩
  have hx0 := (Ext.refl w).alloc (.cells mk 4)
  have hge : w.heap.size ≤ w.heap.size := Nat.le_refl _
  generalize w.alloc (.cells mk 4) = w1 at hrow hx0 ⊢
  generalize hgg : w.heap.size = g at hrow hge ⊢
  have HGE : Hid (w.heap.size ≤ g) := by rw [hgg]; exact Nat.le_refl _
  clear hge hmk HM hgg
  go_loopw [4] (fun i wr => ∃ (k : Nat), k ≤ l.length ∧ i = .int .i64 k ∧ RowB wr g (fun d => memB d (l.take k)) ∧ Ext w wr) (fun i _ => l.length - (intOf i).toNat)
  case atStart => exact ⟨0, by omega, rfl, hrow, hx0⟩
  case round =>
    obtain ⟨k, hk, rfl, hrw, hx⟩ := hrel
    by_cases hlt : k < l.length
    · have hde : decide ((k : Int) < (l.length : Int)) = true := by simpa using hlt
      obtain ⟨b, off, f, t, rfl, hbl, c0, c1, HD, HG⟩ := (hl.ext hx).at2 k hlt
      have hft := (rightB_iff _).1 (HR.out l[k] (List.getElem_mem hlt))
      rw [HG.out] at hft
      dsimp only at hft
      obtain ⟨fn, rfl⟩ : ∃ fn : Nat, f = (fn : Int) := ⟨f.toNat, by omega⟩
      go_wp2_with fail
      go_loopw [5] (fun i wq => ∃ (d : Nat), fn ≤ d ∧ (d : Int) ≤ t ∧ i = .int .i64 d ∧ RowB wq g (fun x => memB x (l.take k) || decide ((fn : Int) ≤ x ∧ x < (d : Int))) ∧ Ext w wq) (fun i _ => t.toNat - (intOf i).toNat)
      case atStart => exact ⟨fn, by omega, by omega, rfl, hrw.congr fun d _ _ => by rw [decide_eq_false (by omega), Bool.or_false], hx⟩
      case round =>
        obtain ⟨d, hd0, hd1, rfl, hrw2, hx2⟩ := hrel
        obtain ⟨c0, c1⟩ := (hl.ext hx2).cells2' k hlt
        rw [HG.out] at c0 c1
        dsimp only at c0 c1
        by_cases hdt : (d : Int) < t
        · have hde2 : decide ((d : Int) < t) = true := by simpa using hdt
          obtain ⟨cd, fd, gd⟩ := hrw2.cell d (by omega)
          go_wp2_with fail
          go_roundw
          case rel =>
            refine ⟨d + 1, by omega, by omega, by go_num, (hrw2.set d (by omega)).congr fun x _ _ => ?_, hx2.setCell HGE.out _⟩
            rw [Bool.or_assoc]
            congr 1
            rw [Bool.eq_iff_iff, Bool.or_eq_true, decide_eq_true_iff, decide_eq_true_iff, decide_eq_true_iff]; omega
          case measure => simp [intOf]; omega
        · have hde2 : decide ((d : Int) < t) = false := by simpa using hdt
          go_wp2_with fail
          go_roundw
          case rel =>
            refine ⟨k + 1, by omega, by go_num, hrw2.congr fun x _ _ => ?_, hx2⟩
            rw [List.take_succ_eq_append_getElem hlt, memB_append, memB_one, HG.out]
            congr 1
            rw [Bool.eq_iff_iff, inS_iff, decide_eq_true_iff]; dsimp only; omega
          case measure => simp [intOf]; omega
    · have hde : decide ((k : Int) < (l.length : Int)) = false := by simpa using hlt
      go_wp2_with fail
      go_ret
      refine ⟨g, rfl, hrw.congr fun d _ _ => by rw [List.take_of_length_le (by omega)], HGE.out, hx⟩
set_option maxHeartbeats 1600000 in
set_option maxRecDepth 100000 in
theorem rset_any (N g : Nat) (f : Int → Bool) (w : World) (HN : Hid (N = 65536)) (hg : RowB w g f) :
    Calls Try.prog 90 #[.slice (some ⟨g, 0, none⟩) 65536 65536] w fun e w' => ∃ v, e = .returned v ∧ OwnS w w' v (runs f N) ∧ Ext w w' := by
  go_enter Try.func90, Try.ntmps90
  go_wp2_with fail
  go_loopw [3, 4] (fun v i wr => ∃ (n : Nat) (out : List Sp), n ≤ 65536 ∧ i = .int .i64 n ∧ Hid (runs f n = out) ∧ OwnS w wr v out ∧ out.length ≤ n ∧ Ext w wr) (fun _ i _ => 65536 - (intOf i).toNat)
  case atStart => exact ⟨0, [], by omega, rfl, rfl, Owns.nil, by simp, Ext.refl _⟩
  case round =>
    obtain ⟨n, out, hn, rfl, HO, hown, hlo, hx⟩ := hrel
    by_cases hlt : n < 65536
    · have hde : decide ((n : Int) < 65536) = true := by simpa using (by omega : (n : Int) < 65536)
      have hlt2 : (n : Int) < 65536 := by omega
      obtain ⟨cn, _, gn⟩ := (hg.ext hx).cell n hlt
      obtain ⟨y, hy⟩ : ∃ y, f n = y := ⟨_, rfl⟩
      rw [hy] at cn
      have HY := Lib.hid hy
      clear hy
      cases y with
      | false =>
        go_wp2_with fail
        go_roundw
        case rel => exact ⟨n + 1, out, by omega, by go_num, (by unfold Hid; rw [runs, if_neg (by rw [HY.out]; exact Bool.noConfusion)]; exact HO.out), hown, by omega, hx⟩
        case measure => simp [intOf]; omega
      | true =>
        have hap := fun (h : ¬ (0 < n ∧ f ((n : Int) - 1) = true)) => (show runs f (n + 1) = out ++ [((n : Int), (n : Int) + 1)] by rw [runs, if_pos HY.out, if_neg h, HO.out])
        have HAP := Lib.hid hap
        clear hap
        by_cases h0 : n = 0
        · subst h0
          have HA : Hid (runs f (0 + 1) = out ++ [((0 : Int), (1 : Int))]) := HAP.out fun h => by omega
          clear HAP hde hlt2 hlt HO HY
          go_wp2_with (at_builtin; refine wpList_append_one (w0 := w) rfl _ _ 52 65 16 _ enc2_len enc2_one (by decide) rfl Try.underlying52 infoSp rfl out ((0 : Int), (1 : Int)) hown hx _ 1 rfl rfl (by simp) (by omega) (by omega) ?_; intro v3 w3 hown3 hx3 _)
          go_roundw
          case rel => exact ⟨1, _, by omega, by go_num, HA, hown3, (by rw [List.length_append, List.length_singleton]; omega), hx3⟩
          case measure => simp [intOf]
        · obtain ⟨m, rfl⟩ : ∃ m, n = m + 1 := ⟨n - 1, by omega⟩
          have hcast : ((m + 1 : Nat) : Int) - 1 = (m : Int) := by omega
          have hp0 : (m : Int) + 1 > 0 := by omega
          obtain ⟨cm, _, _⟩ := (hg.ext hx).cell m (by omega)
          obtain ⟨y, hy⟩ : ∃ y, f m = y := ⟨_, rfl⟩
          rw [hy] at cm
          have HYM := Lib.hid hy
          have hm6 : (m : Int) ≤ 65535 := by omega
          have hw1 := IntWalk.i64_in ((m : Int)) (by omega)
          clear hy h0 hde hlt2
          have hlt2 : (m : Int) + 1 < 65536 := by omega
          have hde : decide ((m : Int) + 1 < 65536) = true := by simpa using hlt2
          cases y with
          | false =>
            have HA : Hid (runs f (m + 1 + 1) = out ++ [(((m + 1 : Nat) : Int), ((m + 1 : Nat) : Int) + 1)]) := HAP.out fun h => by rw [hcast, HYM.out] at h; exact Bool.noConfusion h.2
            clear HAP
            go_wp2_with (at_builtin; refine wpList_append_one (w0 := w) rfl _ _ 52 65 16 _ enc2_len enc2_one (by decide) rfl Try.underlying52 infoSp rfl out ((m : Int) + 1, (m : Int) + 1 + 1) hown hx _ 1 rfl rfl (by simp) (by omega) (by omega) ?_; intro v3 w3 hown3 hx3 _)
            go_roundw
            case rel => exact ⟨m + 1 + 1, _, by omega, by go_num, by (unfold Hid; rw [HA.out]; push_cast; rfl), hown3, by simp; omega, hx3⟩
            case measure => simp [intOf]; omega
          | true =>
            obtain ⟨pre, q, hpq, hq2⟩ := (runs_spec f (m + 1) (by omega)).open_ (by omega) (by rw [hcast]; exact HYM.out)
            rw [HO.out] at hpq
            subst hpq
            have HA : Hid (runs f (m + 1 + 1) = pre ++ [(q.1, (m : Int) + 1 + 1)]) := by
              unfold Hid
              rw [runs, if_pos HY.out, if_pos ⟨by omega, by rw [hcast]; exact HYM.out⟩, HO.out, setTo_snoc]
              push_cast; rfl
            clear HAP hq2
            obtain ⟨g2, c2, rfl, hgB, hg2, hcell, hfr, _⟩ := hown.snoc enc2_len
            have q1 := hcell 1 _ rfl
            have hlo2 : pre.length + 1 ≤ m + 1 := by simpa using hlo
            have hpl : (pre.length : Int) ≤ 65536 := by omega
            clear hcell
            go_wp2_with fail
            go_roundw
            case rel => exact ⟨m + 1 + 1, pre ++ [(q.1, (m : Int) + 1 + 1)], by omega, by go_num, HA, hown.store (by simp) (by simp) (flat2_set pre q _), by simp; omega, hx.setCell hgB _⟩
            case measure => simp [intOf]; omega
    · have hde : decide ((n : Int) < 65536) = false := by simpa using (by omega : ¬ (n : Int) < 65536)
      have hnn : Hid (n = N) := by unfold Hid; rw [HN.out]; omega
      go_wp2_with fail
      go_ret
      refine ⟨_, rfl, ?_, hx⟩
      rw [← hnn.out, HO.out]; exact hown
end Go.Proofs.Ytbjhehmglahmpaa
