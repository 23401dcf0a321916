import Derived.Test.YtbjhehmglahmpaaDepO
import Derived.Test.YtbjhehmglahmpaaSpanWe
/- The small functions of depend, walked: Fact, Keys, Days; the law's Few. -/
namespace Go.Proofs.Ytbjhehmglahmpaa
open Go.RowKit

abbrev Rd := ByteArray × Int × Int
def encR (x : Rd) : List Value := [.string x.1, .int .i64 x.2.1, .int .i64 x.2.2]
theorem encR_len (x : Rd) : (encR x).length = 3 := rfl
theorem Sl.at3R {w : World} {p : Option Addr} {l : List Rd} (h : Sl 3 encR w p l) (k : Nat) (hk : k < l.length) :
    ∃ b off, p = some ⟨b, off, none⟩ ∧ b < w.heap.size ∧ w.cell? ⟨b, off + k * 3, none⟩ = some (.string l[k].1) ∧ w.cell? ⟨b, off + k * 3 + 1, none⟩ = some (.int .i64 l[k].2.1) ∧ w.cell? ⟨b, off + k * 3 + 2, none⟩ = some (.int .i64 l[k].2.2) := by
  obtain ⟨b, off, e, hb, hc⟩ := h k hk
  exact ⟨b, off, e, hb, hc 0 _ rfl, hc 1 _ rfl, hc 2 _ rfl⟩
theorem keyB_iff (a b : ByteArray) : (a.toList == b.toList) = true ↔ a = b := by
  rw [beq_iff_eq]
  constructor
  · intro h
    rw [ByteArray.toList_eq, ByteArray.toList_eq] at h
    exact ByteArray.ext (Array.toList_inj.1 h)
  · rintro rfl; rfl
def hitB (key : ByteArray) (f t : Int) (x : Rd) : Bool := (x.1.toList == key.toList) && decide (max x.2.1 f < min x.2.2 t)
def fewB (a b c : Nat) : Bool := decide (a ≤ 40) && (decide (b ≤ 40) && decide (c ≤ 40))
set_option maxHeartbeats 800000 in
theorem few25_any (pp pf pt : Option Addr) (np nf nt cp cf ct : Nat) (w : World) :
    Calls Try.prog 13 #[.agg #[.slice pp np cp, .slice pf nf cf, .slice pt nt ct]] w fun e w' => e = .returned (.bool (fewB np nf nt)) ∧ Ext w w' := by
  have e : ∀ n : Nat, decide ((n : Int) ≤ 40) = decide (n ≤ 40) := fun n => by rw [Bool.eq_iff_iff, decide_eq_true_iff, decide_eq_true_iff]; omega
  have E := Lib.hid e
  clear e
  go_enter Try.func13, Try.ntmps13
  go_wp2
  all_goals
    go_ret
    exact ⟨ret_bool (by rw [fewB, ← E.out, ← E.out, ← E.out]; simp [*]; try (intros; omega)), (Ext.refl w).alloc _⟩
set_option maxHeartbeats 800000 in
theorem fact1_any (x : Rd) (key : ByteArray) (f t : Int) (B : Nat) (w : World) (h0 : w.cell? ⟨B, 0, none⟩ = some (.string key)) (h1 : w.cell? ⟨B, 1, none⟩ = some (.int .i64 f)) (h2 : w.cell? ⟨B, 2, none⟩ = some (.int .i64 t)) (hB : B < w.heap.size) :
    Calls Try.prog 52 #[.agg #[.string x.1, .int .i64 x.2.1, .int .i64 x.2.2], .pointer (some ⟨B, 0, none⟩)] w fun e w' => e = .returned (.bool (hitB key f t x)) ∧ Ext w w' := by
  have hne : B ≠ w.heap.size := by omega
  obtain ⟨s, a, b⟩ := x
  dsimp only
  obtain ⟨y, hy⟩ : ∃ y, (s.toList == key.toList) = y := ⟨_, rfl⟩
  cases y
  all_goals
    go_enter Try.func52, Try.ntmps52
    go_wp2
    go_ret
    exact ⟨ret_bool (by simp [hitB, hy]), (Ext.refl w).alloc _⟩
set_option maxHeartbeats 800000 in
theorem idxR_any (l : List Rd) (p : Option Addr) (c : Nat) (key : ByteArray) (f t : Int) (B : Nat) (w : World) (hl : Sl 3 encR w p l) (hm : l.length ≤ 9223372036854775807) (h0 : w.cell? ⟨B, 0, none⟩ = some (.string key)) (h1 : w.cell? ⟨B, 1, none⟩ = some (.int .i64 f)) (h2 : w.cell? ⟨B, 2, none⟩ = some (.int .i64 t)) (hB : B < w.heap.size) :
    Calls Try.prog 84 #[.slice p l.length c, .func (.func 52) #[] #[.pointer (some ⟨B, 0, none⟩)]] w fun e w' => ∃ i : Int, e = .returned (.int .i64 i) ∧ decide (0 ≤ i) = l.any (hitB key f t) ∧ Ext w w' := by
  go_enter Try.func84, Try.ntmps84
  go_wp2_with fail
  go_loopw [8] (fun i wr => ∃ (k : Nat), k ≤ l.length ∧ i = .int .i64 k ∧ Hid (l.any (hitB key f t) = (l.drop k).any (hitB key f t)) ∧ Ext w wr) (fun i _ => l.length - (intOf i).toNat)
  case atStart => exact ⟨0, by omega, rfl, rfl, Ext.refl _⟩
  case round =>
    obtain ⟨k, hk, rfl, hA, hx⟩ := hrel
    by_cases hlt : k < l.length
    · have hde : decide ((k : Int) < (l.length : Int)) = true := by simpa using hlt
      have hlt2 : (k : Int) < (l.length : Int) := by omega
      obtain ⟨b, off, rfl, hbl, c0, c1, c2⟩ := (hl.ext hx).at3R k hlt
      have HD : Hid (l.drop k = l[k] :: l.drop (k + 1)) := List.drop_eq_getElem_cons hlt
      obtain ⟨x, hxe⟩ : ∃ x, x = l[k] := ⟨_, rfl⟩
      rw [← hxe] at c0 c1 c2 HD
      clear hxe
      obtain ⟨y, hy⟩ : ∃ y, hitB key f t x = y := ⟨_, rfl⟩
      have HY := Lib.hid hy
      clear hy
      go_wp2_with fail
      refine (fact1_any x key f t B _ ((hx.cells.1 B 0 hB).trans h0) ((hx.cells.1 B 1 hB).trans h1) ((hx.cells.1 B 2 hB).trans h2) (Nat.lt_of_lt_of_le hB hx.size)).mono ?_
      rintro e wN ⟨he, hN⟩
      rw [HY.out] at he
      subst he
      cases y with
      | true =>
        go_wp2_with fail
        go_ret
        exact ⟨k, rfl, by rw [hA.out, HD.out, List.any_cons, HY.out]; simp, hx.trans hN⟩
      | false =>
        go_wp2_with fail
        go_roundw
        case rel => exact ⟨k + 1, by omega, by go_num, (by unfold Hid; rw [hA.out, HD.out, List.any_cons, HY.out]; rfl), hx.trans hN⟩
        case measure => simp [intOf]; omega
    · have hde : decide ((k : Int) < (l.length : Int)) = false := by simpa using hlt
      go_wp2_with fail
      go_ret
      exact ⟨-1, rfl, by rw [hA.out, drop_end hlt]; rfl, hx⟩
set_option maxHeartbeats 800000 in
theorem conR_any (l : List Rd) (p : Option Addr) (c : Nat) (key : ByteArray) (f t : Int) (B : Nat) (w : World) (hl : Sl 3 encR w p l) (hm : l.length ≤ 9223372036854775807) (h0 : w.cell? ⟨B, 0, none⟩ = some (.string key)) (h1 : w.cell? ⟨B, 1, none⟩ = some (.int .i64 f)) (h2 : w.cell? ⟨B, 2, none⟩ = some (.int .i64 t)) (hB : B < w.heap.size) :
    Calls Try.prog 51 #[.slice p l.length c, .func (.func 52) #[] #[.pointer (some ⟨B, 0, none⟩)]] w fun e w' => e = .returned (.bool (l.any (hitB key f t))) ∧ Ext w w' := by
  go_enter Try.func51, Try.ntmps51
  go_wp2_with fail
  refine (idxR_any l p c key f t B w hl hm h0 h1 h2 hB).mono ?_
  rintro e wN ⟨i, rfl, hi, hx⟩
  have HI := Lib.hid hi
  clear hi
  go_wp2_with fail
  go_ret
  exact ⟨ret_bool HI.out, hx⟩
set_option maxHeartbeats 800000 in
theorem fact_any (fs : List Rd) (pp pf pt : Option Addr) (np nt cp cf ct : Nat) (key : ByteArray) (f t kn known : Int) (x4 x5 x6 x7 x8 x9 x10 : Value) (w : World) (hl : Sl 3 encR w pf fs) (hm : fs.length ≤ 9223372036854775807) :
    Calls Try.prog 18 #[.agg #[.slice pp np cp, .slice pf fs.length cf, .slice pt nt ct], .agg #[.string key, .int .i64 f, .int .i64 t, .int .i64 kn, x4, x5, x6, x7, x8, x9, x10], .int .i64 known] w fun e w' => e = .returned (.bool (decide (kn ≤ known) && fs.any (hitB key f t))) ∧ Ext w w' := by
  by_cases hk : kn ≤ known
  · have hde : decide (kn ≤ known) = true := by simpa using hk
    go_enter Try.func18, Try.ntmps18
    go_wp2_with fail
    refine (conR_any fs pf cf key f t (w.heap.size + 1) _ (hl.ext (((Ext.refl w).alloc _).alloc _)) hm (by go_simp) (by go_simp) (by go_simp) (by simp)).mono ?_
    rintro e wN ⟨rfl, hx⟩
    go_wp2_with fail
    go_ret
    exact ⟨ret_bool (by first | rfl | (rw [hde]; rfl) | simp [hk]), (((Ext.refl w).alloc _).alloc _).trans hx⟩
  · have hde : decide (kn ≤ known) = false := by simpa using hk
    go_enter Try.func18, Try.ntmps18
    go_wp2
    go_ret
    exact ⟨ret_bool (by first | rfl | (rw [hde]; rfl)), ((Ext.refl w).alloc _).alloc _⟩
end Go.Proofs.Ytbjhehmglahmpaa
