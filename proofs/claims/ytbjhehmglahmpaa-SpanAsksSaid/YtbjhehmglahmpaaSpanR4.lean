import Derived.Test.YtbjhehmglahmpaaSpanR3
import Derived.Test.YtbjhehmglahmpaaSpanR1
import Derived.Test.YtbjhehmglahmpaaSpanRefQ
/- The reference for spans, walked: Has, Before, Nth. -/
namespace Go.Proofs.Ytbjhehmglahmpaa
open Go.RowKit

set_option maxHeartbeats 800000 in
theorem rhas_any (l : List Sp) (day : Int) (p : Option Addr) (c : Nat) (w : World) (hl : Sl 2 enc2 w p l) (hm : l.length ≤ 1000000) :
    Calls Try.prog 76 #[.slice p l.length c, .int .i64 day] w fun e w' => e = .returned (.bool (validB (-1) l && memB day l)) ∧ Ext w w' := by
  cases hv : validB (-1) l with
  | false =>
    have HV := Lib.hid hv
    clear hv
    go_enter Try.func76, Try.ntmps76
    go_wp2_with fail
    refine (rvalid_any l _ _ _ hl hm).mono ?_
    rintro e wN ⟨he, hx⟩
    rw [HV.out] at he
    subst he
    go_wp2_with fail
    go_ret
    exact ⟨rfl, hx⟩
  | true =>
    have HO := Lib.hid ((validB_iff _ _).1 hv)
    have HV := Lib.hid hv
    clear hv
    by_cases h0 : 0 ≤ day
    · have hge : decide (day ≥ 0) = true := by simpa using h0
      by_cases h6 : day < 65536
      · have hlt : decide (day < 65536) = true := by simpa using h6
        have HR := Lib.hid (validB_right HV.out)
        obtain ⟨n, rfl⟩ : ∃ n : Nat, day = (n : Int) := ⟨day.toNat, by omega⟩
        go_enter Try.func76, Try.ntmps76
        go_wp2_with fail
        refine (rvalid_any l _ _ _ hl hm).mono ?_
        rintro e wN ⟨he, hx⟩
        rw [HV.out] at he
        subst he
        go_wp2_with fail
        refine (marks_any l p _ _ (hl.ext hx) hm HR.out).mono ?_
        rintro e w2 ⟨g, rfl, hrow, _, hx2⟩
        obtain ⟨cn, _, gn⟩ := hrow.cell n (by omega)
        go_wp2_with fail
        go_ret
        exact ⟨rfl, hx.trans hx2⟩
      · have hlt : decide (day < 65536) = false := by simpa using h6
        have HF : Hid (memB day l = false) := by
          unfold Hid
          cases hmm : memB day l with
          | false => rfl
          | true => have := HO.out.mem_gt hmm; omega
        go_enter Try.func76, Try.ntmps76
        go_wp2_with fail
        refine (rvalid_any l _ _ _ hl hm).mono ?_
        rintro e wN ⟨he, hx⟩
        rw [HV.out] at he
        subst he
        go_wp2_with fail
        go_ret
        exact ⟨ret_bool (by rw [HF.out]; rfl), hx⟩
    · have hge : decide (day ≥ 0) = false := by simpa using h0
      have HF : Hid (memB day l = false) := by
        unfold Hid
        cases hmm : memB day l with
        | false => rfl
        | true => have := HO.out.mem_gt hmm; omega
      go_enter Try.func76, Try.ntmps76
      go_wp2_with fail
      refine (rvalid_any l _ _ _ hl hm).mono ?_
      rintro e wN ⟨he, hx⟩
      rw [HV.out] at he
      subst he
      go_wp2_with fail
      go_ret
      exact ⟨ret_bool (by rw [HF.out]; rfl), hx⟩
set_option maxHeartbeats 1600000 in
theorem rbefore_any (l : List Sp) (day : Int) (p : Option Addr) (c : Nat) (w : World) (hl : Sl 2 enc2 w p l) (hm : l.length ≤ 1000000) :
    Calls Try.prog 77 #[.slice p l.length c, .int .i64 day] w fun e w' => e = .returned (.int .i64 (beforeV l day)) ∧ Ext w w' := by
  cases hv : validB (-1) l with
  | false =>
    have HB : Hid (beforeV l day = 0) := by unfold Hid beforeV; rw [hv]; rfl
    have HV := Lib.hid hv
    clear hv
    go_enter Try.func77, Try.ntmps77
    go_wp2_with fail
    refine (rvalid_any l _ _ _ hl hm).mono ?_
    rintro e wN ⟨he, hx⟩
    rw [HV.out] at he
    subst he
    go_wp2_with fail
    go_ret
    exact ⟨ret_int HB.out.symm, hx⟩
  | true =>
    have HO := Lib.hid ((validB_iff _ _).1 hv)
    have HB : Hid (beforeV l day = beforeS l day) := by unfold Hid beforeV; rw [hv]; rfl
    have HV := Lib.hid hv
    have HR := Lib.hid (validB_right hv)
    clear hv
    go_enter Try.func77, Try.ntmps77
    go_wp2_with fail
    refine (rvalid_any l _ _ _ hl hm).mono ?_
    rintro e wN ⟨he, hx⟩
    rw [HV.out] at he
    subst he
    go_wp2_with fail
    refine (marks_any l p _ _ (hl.ext hx) hm HR.out).mono ?_
    rintro e w2 ⟨g, rfl, hrow, _, hx2⟩
    replace hx := hx.trans hx2
    clear hx2
    go_wp2_with fail
    go_loop [6, 7] (fun n i => ∃ (d : Nat) (q : Int), d ≤ 65536 ∧ (d = 0 ∨ (d : Int) ≤ day) ∧ i = .int .i64 d ∧ n = .int .i64 q ∧ 0 ≤ q ∧ q ≤ (d : Int) ∧ Hid (cnt (fun x => memB x l) d = q)) (fun _ i => 65536 - (intOf i).toNat)
    case atStart => exact ⟨0, 0, by omega, .inl rfl, rfl, rfl, by omega, by omega, rfl⟩
    case round =>
      obtain ⟨d, q, hd6, hdd, rfl, rfl, hq0, hq1, HC⟩ := hrel
      by_cases h6 : d < 65536
      · have h6i : (d : Int) < 65536 := by omega
        have hde : decide ((d : Int) < 65536) = true := by simpa using h6i
        by_cases hday : (d : Int) < day
        · have hde2 : decide ((d : Int) < day) = true := by simpa using hday
          obtain ⟨cn, _, gn⟩ := hrow.cell d h6
          obtain ⟨y, hy⟩ : ∃ y, memB (d : Int) l = y := ⟨_, rfl⟩
          rw [hy] at cn
          have HY := Lib.hid hy
          clear hy
          cases y with
          | false =>
            go_wp2_with fail
            go_round
            case rel => exact ⟨d + 1, q, by omega, .inr (by omega), by go_num, rfl, hq0, by omega, by (unfold Hid; rw [cnt_no HY.out]; exact HC.out)⟩
            case measure => simp [intOf]; omega
          | true =>
            go_wp2_with fail
            go_round
            case rel => exact ⟨d + 1, q + 1, by omega, .inr (by omega), by go_num, rfl, by omega, by omega, by (unfold Hid; rw [cnt_yes HY.out, HC.out])⟩
            case measure => simp [intOf]; omega
        · have hde2 : decide ((d : Int) < day) = false := by simpa using hday
          have HE : Hid (beforeS l day = q) := by
            rw [← HC.out]
            by_cases h0 : (d : Int) ≤ day
            · exact before_at HO.out d day ⟨h0, hd6⟩ (fun h => hday h.2)
            · obtain rfl : d = 0 := by omega
              rw [before_neg HO.out (by omega)]; rfl
          go_wp2_with fail
          go_ret
          exact ⟨ret_int (by rw [HB.out, HE.out]), hx⟩
      · have h6i : ¬ (d : Int) < 65536 := by omega
        have hde : decide ((d : Int) < 65536) = false := by simpa using h6i
        have HE : Hid (beforeS l day = q) := by
          rw [← HC.out]
          exact before_at HO.out d day ⟨by omega, hd6⟩ (fun h => h6 h.1)
        go_wp2_with fail
        go_ret
        exact ⟨ret_int (by rw [HB.out, HE.out]), hx⟩
set_option maxHeartbeats 1600000 in
theorem rnth_any (l : List Sp) (n : Int) (p : Option Addr) (c : Nat) (w : World) (hl : Sl 2 enc2 w p l) (hm : l.length ≤ 1000000) (hn1 : -9223372036854775808 ≤ n) (hn2 : n ≤ 9223372036854775807) :
    Calls Try.prog 74 #[.slice p l.length c, .int .i64 n] w fun e w' => e = .returned (.tuple #[.int .i64 (nthV l n).1, .bool (nthV l n).2]) ∧ Ext w w' := by
  cases hv : validB (-1) l with
  | false =>
    have HB : Hid (nthV l n = (0, false)) := by unfold Hid nthV; rw [if_neg]; rw [hv]; exact fun h => Bool.noConfusion h.1
    have HV := Lib.hid hv
    clear hv
    go_enter Try.func74, Try.ntmps74
    go_wp2_with fail
    refine (rvalid_any l _ _ _ hl hm).mono ?_
    rintro e wN ⟨he, hx⟩
    rw [HV.out] at he
    subst he
    go_wp2_with fail
    go_ret2
    exact ⟨by rw [HB.out]; rfl, hx⟩
  | true =>
    have HO := Lib.hid ((validB_iff _ _).1 hv)
    have HV := Lib.hid hv
    have HR := Lib.hid (validB_right hv)
    clear hv
    go_enter Try.func74, Try.ntmps74
    go_wp2_with fail
    refine (rvalid_any l _ _ _ hl hm).mono ?_
    rintro e wN ⟨he, hx⟩
    rw [HV.out] at he
    subst he
    go_wp2_with fail
    refine (marks_any l p _ _ (hl.ext hx) hm HR.out).mono ?_
    rintro e w2 ⟨g, rfl, hrow, _, hx2⟩
    replace hx := hx.trans hx2
    clear hx2
    by_cases h0 : 0 ≤ n
    · have HB : Hid (nthV l n = nthS l n) := by unfold Hid nthV; rw [if_pos ⟨HV.out, h0⟩]
      go_wp2_with fail
      go_loop [1, 7] (fun m i => ∃ (d : Nat) (q : Int), d ≤ 65536 ∧ i = .int .i64 d ∧ m = .int .i64 q ∧ 0 ≤ q ∧ q ≤ 9223372036854775807 ∧ Hid (cnt (fun x => memB x l) d + q = n)) (fun _ i => 65536 - (intOf i).toNat)
      case atStart => exact ⟨0, n, by omega, rfl, rfl, h0, hn2, by (unfold Hid; simp [cnt])⟩
      case round =>
        obtain ⟨d, q, hd6, rfl, rfl, hq0, hq1, HC⟩ := hrel
        by_cases h6 : d < 65536
        · have h6i : (d : Int) < 65536 := by omega
          have hde : decide ((d : Int) < 65536) = true := by simpa using h6i
          obtain ⟨cn, _, gn⟩ := hrow.cell d h6
          obtain ⟨y, hy⟩ : ∃ y, memB (d : Int) l = y := ⟨_, rfl⟩
          rw [hy] at cn
          have HY := Lib.hid hy
          clear hy
          cases y with
          | false =>
            go_wp2_with fail
            go_round
            case rel => exact ⟨d + 1, q, by omega, by go_num, rfl, hq0, hq1, by (unfold Hid; rw [cnt_no HY.out]; exact HC.out)⟩
            case measure => simp [intOf]; omega
          | true =>
            by_cases hq : q = 0
            · subst hq
              have HE : Hid (nthS l n = ((d : Int), true)) := by
                unfold Hid
                rw [← HC.out, Int.add_zero]
                exact nth_at HO.out HY.out
              go_wp2_with fail
              go_ret2
              exact ⟨by rw [HB.out, HE.out]; rfl, hx⟩
            · have hqe : (q == 0) = false := by simpa using hq
              have hqd : decide (q = 0) = false := by simpa using hq
              go_wp2_with fail
              go_round
              case rel => exact ⟨d + 1, q - 1, by omega, by go_num, rfl, by omega, by omega, by (unfold Hid; rw [cnt_yes HY.out]; have := HC.out; omega)⟩
              case measure => simp [intOf]; omega
        · have h6i : ¬ (d : Int) < 65536 := by omega
          have hde : decide ((d : Int) < 65536) = false := by simpa using h6i
          have HE : Hid (nthS l n = (0, false)) := by
            obtain rfl : d = 65536 := by omega
            exact nth_end HO.out h0 (by have := HC.out; omega)
          go_wp2_with fail
          go_ret2
          exact ⟨by rw [HB.out, HE.out]; rfl, hx⟩
    · have HB : Hid (nthV l n = (0, false)) := by unfold Hid nthV; rw [if_neg (fun h => h0 h.2)]
      go_wp2_with fail
      go_loop [1, 7] (fun m i => ∃ (d : Nat) (q : Int), d ≤ 65536 ∧ i = .int .i64 d ∧ m = .int .i64 q ∧ -9223372036854775808 ≤ q ∧ q ≤ 9223372036854775807 ∧ (q < 0 ∨ q ≥ 9223372036854775807 - (d : Int))) (fun _ i => 65536 - (intOf i).toNat)
      case atStart => exact ⟨0, n, by omega, rfl, rfl, hn1, hn2, .inl (by omega)⟩
      case round =>
        obtain ⟨d, q, hd6, rfl, rfl, hq0, hq1, hq2⟩ := hrel
        by_cases h6 : d < 65536
        · have h6i : (d : Int) < 65536 := by omega
          have hde : decide ((d : Int) < 65536) = true := by simpa using h6i
          obtain ⟨cn, _, gn⟩ := hrow.cell d h6
          obtain ⟨y, hy⟩ : ∃ y, memB (d : Int) l = y := ⟨_, rfl⟩
          rw [hy] at cn
          clear hy
          cases y with
          | false =>
            go_wp2_with fail
            go_round
            case rel => exact ⟨d + 1, q, by omega, by go_num, rfl, hq0, hq1, by omega⟩
            case measure => simp [intOf]; omega
          | true =>
            have hq : ¬ q = 0 := by omega
            have hqe : (q == 0) = false := by simpa using hq
            have hqd : decide (q = 0) = false := by simpa using hq
            obtain ⟨q', hq', hq3, hq4, hq5⟩ : ∃ q', IntKind.i64.wrap (q - 1) = q' ∧ -9223372036854775808 ≤ q' ∧ q' ≤ 9223372036854775807 ∧ (q' < 0 ∨ q' ≥ 9223372036854775807 - ((d : Int) + 1)) := by
              refine ⟨_, rfl, ?_⟩
              rw [IntKind.wrap_i64]
              omega
            clear hq0 hq1 hq2
            go_wp2_with fail
            go_round
            case rel => exact ⟨d + 1, q', by omega, by go_num, rfl, hq3, hq4, by omega⟩
            case measure => simp [intOf]; omega
        · have h6i : ¬ (d : Int) < 65536 := by omega
          have hde : decide ((d : Int) < 65536) = false := by simpa using h6i
          go_wp2_with fail
          go_ret2
          exact ⟨by rw [HB.out]; rfl, hx⟩
end Go.Proofs.Ytbjhehmglahmpaa
