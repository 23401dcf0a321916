import Derived.Test.YtbjhehmglahmpaaSpanK2
/- The kit's writing over lent spans, walked: only the lent row changes. -/
namespace Go.Proofs.Ytbjhehmglahmpaa
open Go.RowKit

theorem flat2_set0 : ∀ (l : List Sp) (k : Nat) (h : k < l.length) (a : Int), (l.set k (a, l[k].2)).flatMap enc2 = (l.flatMap enc2).set (k * 2) (.int .i64 a)
  | s :: l, 0, _, a => by simp [enc2]
  | s :: l, k + 1, h, a => by
    have ih := flat2_set0 l k (by simpa using h) a
    simp only [List.set_cons_succ, List.getElem_cons_succ, List.flatMap_cons, ih]
    simp [enc2, show (k + 1) * 2 = k * 2 + 1 + 1 by omega]
theorem flat2_set1 : ∀ (l : List Sp) (k : Nat) (h : k < l.length) (a : Int), (l.set k (l[k].1, a)).flatMap enc2 = (l.flatMap enc2).set (k * 2 + 1) (.int .i64 a)
  | s :: l, 0, _, a => by simp [enc2]
  | s :: l, k + 1, h, a => by
    have ih := flat2_set1 l k (by simpa using h) a
    simp only [List.set_cons_succ, List.getElem_cons_succ, List.flatMap_cons, ih]
    simp [enc2, show (k + 1) * 2 + 1 = k * 2 + 1 + 1 + 1 by omega]
theorem Owns.put2 {B : Nat} {e : TypeId} {w : World} {g c n k : Nat} {ys : List Sp} (h : Owns B e 2 enc2 w (.slice (some ⟨g, 0, none⟩) n c) ys) (hn : ys.length = n) (hk : k < ys.length) (a b : Int) :
    Owns B e 2 enc2 ((w.setCell ⟨g, k * 2, none⟩ (.int .i64 a)).setCell ⟨g, k * 2 + 1, none⟩ (.int .i64 b)) (.slice (some ⟨g, 0, none⟩) n c) (ys.set k (a, b)) := by
  have h1 := h.store (ys := ys.set k (a, ys[k].2)) hn (by simpa using hn) (flat2_set0 ys k hk a)
  have hk2 : k < (ys.set k (a, ys[k].2)).length := by simpa using hk
  have h2 := h1.store (ys := (ys.set k (a, ys[k].2)).set k ((ys.set k (a, ys[k].2))[k].1, b)) (by simpa using hn) (by simpa using hn) (flat2_set1 _ k hk2 b)
  simpa using h2
theorem Owns.frozen {α : Type} {B : Nat} {e : TypeId} {k : Nat} {enc : α → List Value} {w : World} {g c n : Nat} {ys : List α} (h : Owns B e k enc w (.slice (some ⟨g, 0, none⟩) n c) ys) (hn : ys.length = n) : ∀ j, w.frozen? ⟨g, j, none⟩ = false := by
  subst hn; exact World.ownsRow.frozenAt h
theorem grown_same (w : World) (r : Option Nat) : w.grownBy w r := ⟨rfl, rfl, rfl, Nat.le_refl _, fun _ _ _ => rfl⟩
theorem grown_trans {a b c : World} {r : Option Nat} (h : a.grownBy b r) (k : b.grownBy c r) : a.grownBy c r :=
  ⟨k.os.trans h.os, k.tape.trans h.tape, k.output.trans h.output, Nat.le_trans h.size k.size, fun i hi hr => (k.block i (Nat.lt_of_lt_of_le hi h.size) hr).trans (h.block i hi hr)⟩
theorem grown_ext {a b : World} (h : Ext a b) (r : Option Nat) : a.grownBy b r := ⟨h.out.os, h.out.tape, h.out.output, h.out.size, fun i hi _ => h.out.block i hi⟩
theorem grown_set (w : World) (g j : Nat) (u : Value) : w.grownBy (w.setCell ⟨g, j, none⟩ u) (some g) :=
  ⟨rfl, rfl, rfl, by simp, fun i _ hi => heap_setCell_other w ⟨g, j, none⟩ i u (fun e => hi (by rw [e]))⟩
set_option maxHeartbeats 1600000 in
theorem over_any (n g : Nat) (xs : List Sp) (w w0 : World) (hn : n ≤ 1000) (hx : xs.length = n + 12) (ho : OwnS w0 w (.slice (some ⟨g, 0, none⟩) (n + 12) (n + 12)) xs) :
    Calls Try.prog 62 #[.slice (some ⟨g, 0, none⟩) n (n + 12)] w fun e w' => e = .returned (.tuple #[]) ∧ w.grownBy w' (some g) := by
  have HX := Lib.hid hx
  clear hx
  go_enter Try.func62, Try.ntmps62
  go_wp2_with fail
  go_loopw [3] (fun i wr => ∃ (k : Nat) (ys : List Sp), k ≤ n + 12 ∧ i = .int .i64 k ∧ Hid (ys.length = n + 12) ∧ OwnS w0 wr (.slice (some ⟨g, 0, none⟩) (n + 12) (n + 12)) ys ∧ w.grownBy wr (some g)) (fun i _ => n + 12 - (intOf i).toNat)
  case atStart => exact ⟨0, xs, by omega, rfl, HX, ho, grown_same _ _⟩
  case round =>
    obtain ⟨k, ys, hk, rfl, HY, hown, hg⟩ := hrel
    by_cases hlt : k < n + 12
    · have hde : decide ((k : Int) < ((n : Int) + 12)) = true := decide_eq_true (by omega)
      have hlt2 : (k : Int) < (n : Int) + 12 := by omega
      go_wp2_with fail
      refine (markSpan_any 2 k (9000027 + (k : Int)) _ (by omega) (by omega) (by omega)).mono ?_
      rintro e wN ⟨rfl, hxN⟩
      have hownN := hown.ext hxN
      have hg2 := grown_trans hg (grown_ext hxN _)
      obtain ⟨gl, c0, c1⟩ := (hownN.sl enc2_len).at2b k (by rw [HY.out]; exact hlt)
      have f0 := Owns.frozen hownN HY.out
      rw [Nat.zero_add] at c0 c1
      have hownP := Owns.put2 (k := k) hownN HY.out (by rw [HY.out]; exact hlt) (9000027 + (k : Int)) 0
      have HP := Lib.hid hownP
      clear hown hxN hg hownN hownP
      go_wp2_with fail
      go_roundw
      case rel => exact ⟨k + 1, _, by omega, by go_num, (by unfold Hid; rw [List.length_set]; exact HY.out), HP.out, grown_trans hg2 (grown_trans (grown_set _ _ _ _) (grown_set _ _ _ _))⟩
      case measure => simp [intOf]; omega
    · obtain rfl : k = n + 12 := by omega
      go_wp2_with fail
      go_end0
      exact ⟨rfl, hg⟩
end Go.Proofs.Ytbjhehmglahmpaa
