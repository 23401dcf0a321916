import Derived.Test.YtalconpcpegmlaaDoorSpanW1
import Derived.Test.YtalconpcpegmlaaDoorLibQuiet
import Derived.StillTailTactics
namespace Go.Proofs.YtalconpcpegmlaaDoor
open Go.RowKit

/-! ### span.cursor -/
theorem chs_even : ∀ (l : List Sp) (j : Nat) (h : j < l.length), (chs l)[2 * j]? = some l[j].1 ∧ (chs l)[2 * j + 1]? = some l[j].2
  | s :: l, 0, _ => by simp [chs]
  | s :: l, j + 1, h => by
    have := chs_even l j (by simpa using h)
    simp only [chs, List.getElem_cons_succ]
    rw [show 2 * (j + 1) = 2 * j + 1 + 1 by omega]
    simpa using this
theorem headD_drop {A : List Int} {k : Nat} {x d : Int} (h : A[k]? = some x) : (A.drop k).headD d = x := by
  obtain ⟨h1, h2⟩ := List.getElem?_eq_some_iff.1 h
  rw [List.drop_eq_getElem_cons h1]; exact h2
def nextS (l : List Sp) (k : Nat) : Int := ((chs l).drop k).headD 65537
set_option maxHeartbeats 800000 in
set_option maxRecDepth 100000 in
theorem next_any (l : List Sp) (p : Option Addr) (c X pa : Nat) (w : World) (hl : Sl 2 enc2 w p l) (hm : l.length ≤ 1000000) (hpa : pa ≤ 2 * l.length)
    (h0 : w.cell? ⟨X, 0, none⟩ = some (.slice p l.length c)) (h1 : w.cell? ⟨X, 1, none⟩ = some (.int .i64 pa)) (hX : X < w.heap.size) :
    Calls Tryd.prog 68 #[.pointer (some ⟨X, 0, none⟩)] w fun e w' => e = .returned (.int .i64 (nextS l pa)) ∧ Ext w w' := by
  have hwr := IntWalk.i64_in (2 * (l.length : Int)) (by omega)
  by_cases he : pa = 2 * l.length
  · have hE : ((pa : Int) == 2 * (l.length : Int)) = true := by simp; omega
    have HN : Hid (nextS l pa = 65537) := by
      unfold Hid nextS; rw [List.drop_eq_nil_of_le (by rw [chs_len]; omega)]; rfl
    clear he
    go_enter Tryd.func68, Tryd.ntmps68
    go_wp2
    go_quiet (fail)
    go_wp2
    go_ret
    exact ⟨by rw [HN.out]; rfl, (Ext.refl w).drewN _⟩
  · have hE : ((pa : Int) == 2 * (l.length : Int)) = false := by simp; omega
    have hj : pa / 2 < l.length := by omega
    have hj2 : ((pa : Int) / 2) < (l.length : Int) := by omega
    obtain ⟨b, off, f, t, rfl, hbl, c0, c1, _, HG⟩ := hl.at2 (pa / 2) hj
    have hev := chs_even l (pa / 2) hj
    rw [HG.out] at hev
    have HN : Hid (nextS l pa = if (pa : Int) % 2 = 0 then f else t) := by
      unfold Hid nextS
      by_cases hm2 : pa % 2 = 0
      · rw [if_pos (by omega), headD_drop (x := f)]; rw [show pa = 2 * (pa / 2) by omega]; exact hev.1
      · rw [if_neg (by omega), headD_drop (x := t)]; rw [show pa = 2 * (pa / 2) + 1 by omega]; exact hev.2
    clear hev hl he
    have hXn : X ≠ w.heap.size := by omega
    have hbn : b ≠ w.heap.size := by omega
    have hw2 := IntWalk.i64_in ((pa : Int) / 2) (by omega)
    have htn : ((pa : Int) / 2).toNat = pa / 2 := by omega
    have hj0 : 0 ≤ (pa : Int) / 2 := by omega
    go_enter Tryd.func68, Tryd.ntmps68
    go_wp2
    go_quiet (fail)
    have hx1 : Ext w (w.drewN nq) := (Ext.refl w).drewN nq
    have k0 : (w.drewN nq).cell? ⟨X, 0, none⟩ = _ := h0
    have k1 : (w.drewN nq).cell? ⟨X, 1, none⟩ = _ := h1
    have k2 : (w.drewN nq).cell? ⟨b, off + pa / 2 * 2, none⟩ = _ := c0
    have k3 : (w.drewN nq).cell? ⟨b, off + pa / 2 * 2 + 1, none⟩ = _ := c1
    have hXl : X < (w.drewN nq).heap.size := hX
    have hbl2 : b < (w.drewN nq).heap.size := hbl
    clear h0 h1 c0 c1 hX hbl hXn hbn
    generalize w.drewN nq = w1 at *
    have hXn : X ≠ w1.heap.size := by omega
    have hbn : b ≠ w1.heap.size := by omega
    go_wp2
    go_region
    all_goals
      go_wp2
      all_goals
        go_ret
        refine ⟨?_, ?_⟩
        · rw [HN.out]; simp_all
        · exact (hx1.alloc (.cells #[.int .i64 f, .int .i64 t] 57)).drew
set_option maxHeartbeats 400000 in
theorem curIn_any (X pa : Nat) (w : World) (hpa : pa ≤ 1000000000) (h1 : w.cell? ⟨X, 1, none⟩ = some (.int .i64 pa)) :
    Calls Tryd.prog 53 #[.pointer (some ⟨X, 0, none⟩)] w fun e w' => e = .returned (.bool (pa % 2 == 1)) ∧ w = w' := by
  have hm : (((pa : Int) % 2) == 1) = (pa % 2 == 1) := by rw [Bool.eq_iff_iff, beq_iff_eq, beq_iff_eq]; omega
  go_enter Tryd.func53, Tryd.ntmps53
  go_wp2
  go_ret
  exact ⟨rfl, rfl⟩
/-- The cursor's own block. -/
def Cur (w : World) (X : Nat) (v : Value) (pa : Nat) : Prop := w.heap[X]? = some (.cells #[v, .int .i64 pa] 88 (0, 0))
theorem Cur.cells {w : World} {X : Nat} {v : Value} {pa : Nat} (h : Cur w X v pa) : w.cell? ⟨X, 0, none⟩ = some v ∧ w.cell? ⟨X, 1, none⟩ = some (.int .i64 pa) ∧ (∀ j, w.frozen? ⟨X, j, none⟩ = false) ∧ X < w.heap.size := by
  unfold Cur at h
  refine ⟨by simp [World.cell?, h], by simp [World.cell?, h], fun j => by simp [World.frozen?, h], (Array.getElem?_eq_some_iff.1 h).1⟩
theorem Cur.ext {w w' : World} {X : Nat} {v : Value} {pa : Nat} (h : Cur w X v pa) (hx : Ext w w') : Cur w' X v pa := (hx.out.block X (Array.getElem?_eq_some_iff.1 h).1).trans h
theorem Cur.step {w : World} {X : Nat} {v : Value} {pa : Nat} (h : Cur w X v pa) : Cur (w.setCell ⟨X, 1, none⟩ (.int .i64 ((pa : Int) + 1))) X v (pa + 1) := by
  unfold Cur at *
  rw [heap_setCell_same w X 1 _ _ _ h]
  rfl
set_option maxHeartbeats 800000 in
theorem pass_any (l : List Sp) (p : Option Addr) (c X pa : Nat) (day : Int) (w : World) (hl : Sl 2 enc2 w p l) (hm : l.length ≤ 1000000) (hpa : pa ≤ 2 * l.length)
    (hc : Cur w X (.slice p l.length c) pa) :
    Calls Tryd.prog 69 #[.pointer (some ⟨X, 0, none⟩), .int .i64 day] w fun e w' => e = .returned (.tuple #[]) ∧
      ∃ w1, Ext w w1 ∧ (if nextS l pa = day then w' = w1.setCell ⟨X, 1, none⟩ (.int .i64 ((pa : Int) + 1)) else w' = w1) := by
  obtain ⟨h0, h1, hf, hX⟩ := hc.cells
  by_cases he : nextS l pa = day
  · simp only [if_pos he]
    have he2 : (nextS l pa == day) = true := by simpa using he
    have HE := Lib.hid he
    clear he
    go_enter Tryd.func69, Tryd.ntmps69
    go_wp2_with (go_at_call 68; refine (next_any l p c X pa _ hl hm hpa h0 h1 hX).mono ?_; rintro e w1 ⟨rfl, hx1⟩; have k1 := (hx1.cells.1 X 1 hX).trans h1; have k2 := (hx1.cells.2 X 1 hX).trans (hf 1); clear h0 h1 hf)
    go_end0
    exact ⟨rfl, w1, hx1, rfl⟩
  · simp only [if_neg he]
    have he2 : (nextS l pa == day) = false := by simpa using he
    have HE := Lib.hid he
    clear he
    go_enter Tryd.func69, Tryd.ntmps69
    go_wp2_with (go_at_call 68; refine (next_any l p c X pa _ hl hm hpa h0 h1 hX).mono ?_; rintro e w1 ⟨rfl, hx1⟩)
    go_end0
    exact ⟨rfl, w1, hx1, rfl⟩
end Go.Proofs.YtalconpcpegmlaaDoor
