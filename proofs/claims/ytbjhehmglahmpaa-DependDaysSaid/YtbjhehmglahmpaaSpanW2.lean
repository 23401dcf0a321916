import Derived.Test.YtbjhehmglahmpaaSpanW1
namespace Go.Proofs.Ytbjhehmglahmpaa
open Go.RowKit

/-! ### span.Before, span.Days, span.Nth -/
set_option maxHeartbeats 400000 in
theorem before_bad (l : List Sp) (day : Int) (p : Option Addr) (c : Nat) (w : World) (hl : Sl 2 enc2 w p l) (hm : l.length ≤ 9223372036854775807) (hv : validB (-1) l = false) :
    Calls Try.prog 40 #[.slice p l.length c, .int .i64 day] w fun e w' => e = .returned (.int .i64 0) ∧ Ext w w' := by
  go_enter Try.func40, Try.ntmps40
  go_wp2_with (go_at_call 35; refine (valid_any l _ _ _ hl hm).mono ?_; rintro e w2 ⟨rfl, hb2⟩)
  go_ret
  exact ⟨rfl, hb2⟩
theorem min_if (t day : Int) : min t day = if day < t then day else t := by split <;> omega
theorem beforeStep_lt {f t day n : Int} (h : f < day) : beforeStep day n (f, t) = n + (min t day - f) := by rw [beforeStep, if_pos h]
theorem beforeStep_ge {f t day n : Int} (h : ¬ f < day) : beforeStep day n (f, t) = n := by rw [beforeStep, if_neg h]
set_option maxHeartbeats 800000 in
theorem before_ok (l : List Sp) (day : Int) (p : Option Addr) (c : Nat) (w : World) (hl : Sl 2 enc2 w p l) (hm : l.length ≤ 9223372036854775807) (hv : validB (-1) l = true) :
    Calls Try.prog 40 #[.slice p l.length c, .int .i64 day] w fun e w' => e = .returned (.int .i64 (beforeS l day)) ∧ Ext w w' := by
  have HO := Lib.hid ((validB_iff _ _).1 hv)
  go_enter Try.func40, Try.ntmps40
  go_wp2_with (go_at_call 35; refine (valid_any l _ _ _ hl hm).mono ?_; rintro e w2 ⟨rfl, hb2⟩)
  clear hv
  go_loopw [5, 13] (fun e i wr => ∃ (k : Nat) (z n : Int), k ≤ l.length ∧ i = .int .i64 k ∧ e = .int .i64 n ∧ 0 ≤ n ∧ n ≤ z + 1 ∧ z ≤ 65536 ∧ Hid (Ok z (l.drop k)) ∧ Hid (beforeS l day = (l.drop k).foldl (beforeStep day) n) ∧ Ext w wr) (fun _ i _ => l.length - (intOf i).toNat)
  case atStart => exact ⟨0, -1, 0, Nat.zero_le _, rfl, rfl, by omega, by omega, by omega, HO, rfl, hb2⟩
  case round =>
    obtain ⟨k, z, n, hk, rfl, rfl, hn0, hn1, hz, hO, hv, hb⟩ := hrel
    by_cases hlt : k < l.length
    · obtain ⟨b, off, f, t, rfl, hbl, h0, h1, HD, _⟩ := (hl.ext hb).at2 k hlt
      have hok := hO.out
      rw [HD.out] at hok
      obtain ⟨o1, o2, o3, o4, o5⟩ := hok
      dsimp only at o1 o2 o3 o4
      have HO5 := Lib.hid o5
      clear hl o5
      by_cases hd : f < day
      · have hmn : min t day - f ≤ t - f := by omega
        have hm0 : 0 ≤ min t day - f := by omega
        have hnn : n + (min t day - f) ≤ t + 1 := by omega
        go_wp2
        go_roundw
        case rel => exact ⟨k + 1, t, _, by omega, by go_num, rfl, by omega, by omega, o4, HO5, by (unfold Hid; rw [hv.out, HD.out, List.foldl_cons, beforeStep_lt hd, min_if]), hb.alloc _⟩
        case measure => simp [intOf]; omega
      · go_wp2
        go_roundw
        case rel => exact ⟨k + 1, t, n, by omega, by go_num, rfl, by omega, by omega, o4, HO5, by (unfold Hid; rw [hv.out, HD.out, List.foldl_cons, beforeStep_ge hd]), hb.alloc _⟩
        case measure => simp [intOf]; omega
    · go_wp2
      go_ret
      exact ⟨ret_int (by rw [hv.out, drop_end hlt]; rfl), hb⟩
def beforeV (l : List Sp) (day : Int) : Int := if validB (-1) l = true then beforeS l day else 0
theorem before_any (l : List Sp) (day : Int) (p : Option Addr) (c : Nat) (w : World) (hl : Sl 2 enc2 w p l) (hm : l.length ≤ 9223372036854775807) :
    Calls Try.prog 40 #[.slice p l.length c, .int .i64 day] w fun e w' => e = .returned (.int .i64 (beforeV l day)) ∧ Ext w w' := by
  unfold beforeV
  split
  · rename_i h; exact before_ok l day p c w hl hm h
  · rename_i h; exact before_bad l day p c w hl hm (by simpa using h)
set_option maxHeartbeats 400000 in
theorem days_any (l : List Sp) (p : Option Addr) (c : Nat) (w : World) (hl : Sl 2 enc2 w p l) (hm : l.length ≤ 9223372036854775807) :
    Calls Try.prog 37 #[.slice p l.length c] w fun e w' => e = .returned (.int .i64 (beforeV l 65536)) ∧ Ext w w' := by
  go_enter Try.func37, Try.ntmps37
  go_wp2_with (go_at_call 40; refine (before_any l _ _ _ _ hl hm).mono ?_; rintro e w2 ⟨rfl, hb2⟩)
  go_ret
  exact ⟨rfl, hb2⟩

/-! ### span.Nth -/
def nthS : List Sp → Int → Int × Bool
  | [], _ => (0, false)
  | s :: l, n => if n < s.2 - s.1 then (s.1 + n, true) else nthS l (n - (s.2 - s.1))
def nthV (l : List Sp) (n : Int) : Int × Bool := if validB (-1) l = true ∧ 0 ≤ n then nthS l n else (0, false)
set_option maxHeartbeats 800000 in
theorem nth_bad (l : List Sp) (n : Int) (p : Option Addr) (c : Nat) (w : World) (hl : Sl 2 enc2 w p l) (hm : l.length ≤ 9223372036854775807) (hn : ¬ (validB (-1) l = true ∧ 0 ≤ n)) :
    Calls Try.prog 39 #[.slice p l.length c, .int .i64 n] w fun e w' => e = .returned (.tuple #[.int .i64 0, .bool false]) ∧ Ext w w' := by
  cases hv : validB (-1) l with
  | false =>
    clear hn
    go_enter Try.func39, Try.ntmps39
    go_wp2_with (go_at_call 35; refine (valid_any l _ _ _ hl hm).mono ?_; rintro e w2 ⟨rfl, hb2⟩)
    go_ret2
    exact ⟨rfl, hb2⟩
  | true =>
    have hn' : n < 0 := by simp [hv] at hn; omega
    clear hn
    go_enter Try.func39, Try.ntmps39
    go_wp2_with (go_at_call 35; refine (valid_any l _ _ _ hl hm).mono ?_; rintro e w2 ⟨rfl, hb2⟩)
    go_ret2
    exact ⟨rfl, hb2⟩
set_option maxHeartbeats 800000 in
theorem nth_ok (l : List Sp) (n : Int) (p : Option Addr) (c : Nat) (w : World) (hl : Sl 2 enc2 w p l) (hm : l.length ≤ 9223372036854775807) (hv : validB (-1) l = true) (hn : 0 ≤ n) (hn2 : n ≤ 9223372036854775807) :
    Calls Try.prog 39 #[.slice p l.length c, .int .i64 n] w fun e w' => e = .returned (.tuple #[.int .i64 (nthS l n).1, .bool (nthS l n).2]) ∧ Ext w w' := by
  have HO := Lib.hid ((validB_iff _ _).1 hv)
  go_enter Try.func39, Try.ntmps39
  go_wp2_with (go_at_call 35; refine (valid_any l _ _ _ hl hm).mono ?_; rintro e w2 ⟨rfl, hb2⟩)
  clear hv
  go_loopw [1, 17] (fun e i wr => ∃ (k : Nat) (z m : Int), k ≤ l.length ∧ i = .int .i64 k ∧ e = .int .i64 m ∧ 0 ≤ m ∧ m ≤ 9223372036854775807 ∧ Hid (Ok z (l.drop k)) ∧ Hid (nthS l n = nthS (l.drop k) m) ∧ Ext w wr) (fun _ i _ => l.length - (intOf i).toNat)
  case atStart => exact ⟨0, -1, n, Nat.zero_le _, rfl, rfl, by omega, by omega, HO, rfl, hb2⟩
  case round =>
    obtain ⟨k, z, m, hk, rfl, rfl, hn0, hn1, hO, hv, hb⟩ := hrel
    by_cases hlt : k < l.length
    · obtain ⟨b, off, f, t, rfl, hbl, h0, h1, HD, _⟩ := (hl.ext hb).at2 k hlt
      have hok := hO.out
      rw [HD.out] at hok
      obtain ⟨o1, o2, o3, o4, o5⟩ := hok
      dsimp only at o1 o2 o3 o4
      have HO5 := Lib.hid o5
      clear hl o5
      by_cases hd : m < t - f
      · have HR : Hid (nthS l n = (f + m, true)) := by unfold Hid; rw [hv.out, HD.out, nthS, if_pos hd]
        go_wp2
        go_ret2
        exact ⟨by rw [HR.out]; rfl, hb.alloc _⟩
      · go_wp2
        go_roundw
        case rel => exact ⟨k + 1, t, _, by omega, by go_num, rfl, by omega, by omega, HO5, by (unfold Hid; rw [hv.out, HD.out, nthS, if_neg hd]), hb.alloc _⟩
        case measure => simp [intOf]; omega
    · go_wp2
      go_ret2
      exact ⟨by rw [hv.out, drop_end hlt]; rfl, hb⟩
theorem nth_any (l : List Sp) (n : Int) (p : Option Addr) (c : Nat) (w : World) (hl : Sl 2 enc2 w p l) (hm : l.length ≤ 9223372036854775807) (hn2 : n ≤ 9223372036854775807) :
    Calls Try.prog 39 #[.slice p l.length c, .int .i64 n] w fun e w' => e = .returned (.tuple #[.int .i64 (nthV l n).1, .bool (nthV l n).2]) ∧ Ext w w' := by
  unfold nthV
  split
  · rename_i h; exact nth_ok l n p c w hl hm h.1 h.2 hn2
  · rename_i h; exact nth_bad l n p c w hl hm h

end Go.Proofs.Ytbjhehmglahmpaa
