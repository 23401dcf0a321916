import Derived.Test.YtalconpcpegmlaaDoorSpanW8
import Derived.Test.YtalconpcpegmlaaDoorSpanW4
import Derived.Test.YtalconpcpegmlaaDoorLibRange
import Derived.RangeFuncNested
import Derived.Shelf.RegionOpen
import Derived.OwnWalkIn
import Derived.TacticsInMore
import Derived.LoopIn
namespace Go.Proofs.YtalconpcpegmlaaDoor
open Go.RowKit
attribute [local go_sem] Oper.semAt_some

/-- The blocks of a run of combine. -/
structure Env where
  a : List Sp
  b : List Sp
  pa : Option Addr
  pb : Option Addr
  ca : Nat
  cb : Nat
  X : Nat
  Y : Nat
  Bx : Nat
  By : Nat
  Ba : Nat
  Bb : Nat
  Bk : Nat
  Bo : Nat
  Bf : Nat
  kv : Value
  w0 : World
def Env.va (E : Env) : Value := .slice E.pa E.a.length E.ca
def Env.vb (E : Env) : Value := .slice E.pb E.b.length E.cb
def Env.mut (E : Env) (n : Nat) : Prop := n = E.X ∨ n = E.Y ∨ n = E.Bo ∨ n = E.Bf
/-- What never changes. -/
structure Fix (E : Env) (W : World) : Prop where
  bx : W.heap[E.Bx]? = some (.cells #[.pointer (some ⟨E.X, 0, none⟩)] 86 (0, 0))
  by_ : W.heap[E.By]? = some (.cells #[.pointer (some ⟨E.Y, 0, none⟩)] 86 (0, 0))
  ba : W.heap[E.Ba]? = some (.cells #[.pointer (some ⟨E.X, 0, none⟩)] 86 (0, 0))
  bb : W.heap[E.Bb]? = some (.cells #[.pointer (some ⟨E.Y, 0, none⟩)] 86 (0, 0))
  bk : W.heap[E.Bk]? = some (.cells #[E.kv] 74 (0, 0))
  ext : Ext E.w0 W
/-- What a round changes. -/
structure Var (E : Env) (pa pb : Nat) (z : Int) (v : Value) (out : List Sp) (W : World) : Prop where
  cx : Cur W E.X E.va pa
  cy : Cur W E.Y E.vb pb
  bf : W.heap[E.Bf]? = some (.cells #[.int .i64 z] 3 (0, 0))
  bo : W.heap[E.Bo]? = some (.cells #[v] 37 (0, 0))
  own : OwnS E.w0 W v out
/-- The mutable blocks lie apart, and beyond what was there. -/
structure Wf (E : Env) : Prop where
  xy : E.X ≠ E.Y
  xo : E.X ≠ E.Bo
  xf : E.X ≠ E.Bf
  yo : E.Y ≠ E.Bo
  yf : E.Y ≠ E.Bf
  of_ : E.Bo ≠ E.Bf
  nx : ∀ n, E.mut n → E.w0.heap.size ≤ n
  bx : ¬ E.mut E.Bx
  by_ : ¬ E.mut E.By
  ba : ¬ E.mut E.Ba
  bb : ¬ E.mut E.Bb
  bk : ¬ E.mut E.Bk
  sa : Sl 2 enc2 E.w0 E.pa E.a
  sb : Sl 2 enc2 E.w0 E.pb E.b
  oa : Ok (-1) E.a
  ob : Ok (-1) E.b
  al : E.a.length ≤ 1000000
  bl : E.b.length ≤ 1000000
theorem Fix.to {E : Env} {W W' : World} (h : Fix E W) (hx : Ext W W') : Fix E W' :=
  ⟨heap_ext h.bx hx, heap_ext h.by_ hx, heap_ext h.ba hx, heap_ext h.bb hx, heap_ext h.bk hx, h.ext.trans hx⟩
theorem Var.to {E : Env} {pa pb : Nat} {z : Int} {v : Value} {out : List Sp} {W W' : World} (h : Var E pa pb z v out W) (hx : Ext W W') : Var E pa pb z v out W' :=
  ⟨h.cx.ext hx, h.cy.ext hx, heap_ext h.bf hx, heap_ext h.bo hx, Owns.ext h.own hx⟩
theorem Fix.set {E : Env} (wf : Wf E) {W : World} (h : Fix E W) {n j : Nat} (hn : E.mut n) (u : Value) : Fix E (W.setCell ⟨n, j, none⟩ u) := by
  have ne : ∀ m, ¬ E.mut m → m ≠ n := fun m hm e => hm (e ▸ hn)
  exact ⟨heap_other h.bx (ne _ wf.bx), heap_other h.by_ (ne _ wf.by_), heap_other h.ba (ne _ wf.ba), heap_other h.bb (ne _ wf.bb), heap_other h.bk (ne _ wf.bk), h.ext.setCell (wf.nx n hn) u⟩
section
variable {E : Env} {pa pb : Nat} {z : Int} {v : Value} {out : List Sp} {W : World}
theorem Var.setX (wf : Wf E) (h : Var E pa pb z v out W) : Var E (pa + 1) pb z v out (W.setCell ⟨E.X, 1, none⟩ (.int .i64 ((pa : Int) + 1))) :=
  ⟨h.cx.step, heap_other h.cy wf.xy.symm, heap_other h.bf wf.xf.symm, heap_other h.bo wf.xo.symm, Owns.other h.own h.cx (by decide)⟩
theorem Var.setY (wf : Wf E) (h : Var E pa pb z v out W) : Var E pa (pb + 1) z v out (W.setCell ⟨E.Y, 1, none⟩ (.int .i64 ((pb : Int) + 1))) :=
  ⟨heap_other h.cx wf.xy, h.cy.step, heap_other h.bf wf.yf.symm, heap_other h.bo wf.yo.symm, Owns.other h.own h.cy (by decide)⟩
theorem Var.setF (wf : Wf E) (h : Var E pa pb z v out W) (z' : Int) : Var E pa pb z' v out (W.setCell ⟨E.Bf, 0, none⟩ (.int .i64 z')) :=
  ⟨heap_other h.cx wf.xf, heap_other h.cy wf.yf, heap_same h.bf, heap_other h.bo wf.of_, Owns.other h.own h.bf (by decide)⟩
theorem Var.setO (wf : Wf E) (h : Var E pa pb z v out W) {v' : Value} {out' : List Sp} (ho : OwnS E.w0 W v' out') : Var E pa pb z v' out' (W.setCell ⟨E.Bo, 0, none⟩ v') :=
  ⟨heap_other h.cx wf.xo, heap_other h.cy wf.yo, heap_other h.bf wf.of_.symm, heap_same h.bo, Owns.other ho h.bo (by decide)⟩
end
def oddB (n : Nat) : Bool := n % 2 == 1
/-- Between two rounds: what is left to combine. -/
def Af (E : Env) (keep : Bool → Bool → Bool) (pa pb : Nat) (W : World) : Prop := ∃ z v out m, Fix E W ∧ Var E pa pb z v out W ∧ pa ≤ 2 * E.a.length ∧ pb ≤ 2 * E.b.length ∧ -1 ≤ z ∧ z ≤ 65536 ∧ 2 * E.a.length + 2 * E.b.length ≤ m + pa + pb ∧ out.length ≤ pa + pb ∧
  combS keep E.a E.b = out ++ comb keep m ((chs E.a).drop pa) ((chs E.b).drop pb) (oddB pa) (oddB pb) z
/-- What a round does with a day. -/
def stepS (keep : Bool → Bool → Bool) (n : Nat) (A B : List Int) (ia ib : Bool) (z day : Int) : List Sp :=
  if keep ia ib = true ∧ z < 0 then comb keep n A B ia ib day
  else if keep ia ib = false ∧ 0 ≤ z then (z, day) :: comb keep n A B ia ib (-1)
  else comb keep n A B ia ib z
def At (E : Env) (keep : Bool → Bool → Bool) (pa pb : Nat) (day : Int) (W : World) : Prop := ∃ z v out m, Fix E W ∧ Var E pa pb z v out W ∧ pa ≤ 2 * E.a.length ∧ pb ≤ 2 * E.b.length ∧ -1 ≤ z ∧ z ≤ 65536 ∧ 0 ≤ day ∧ day ≤ 65536 ∧ 2 * E.a.length + 2 * E.b.length ≤ m + pa + pb ∧ out.length + 1 ≤ pa + pb ∧
  combS keep E.a E.b = out ++ stepS keep m ((chs E.a).drop pa) ((chs E.b).drop pb) (oddB pa) (oddB pb) z day
def Fin (E : Env) (keep : Bool → Bool → Bool) (W : World) : Prop := ∃ pa pb z v out, Fix E W ∧ Var E pa pb z v out W ∧ combS keep E.a E.b = out
theorem chs_bound : ∀ {l : List Sp} {e x : Int}, Ok e l → x ∈ chs l → 0 ≤ x ∧ x ≤ 65536
  | [], _, _, _, h => by simp [chs] at h
  | s :: l, e, x, hk, h => by
    obtain ⟨h1, h2, h3, h4, h5⟩ := hk
    simp only [chs, List.mem_cons] at h
    rcases h with rfl | rfl | h
    · omega
    · omega
    · exact chs_bound h5 h
theorem nextS_bound {l : List Sp} {e : Int} (h : Ok e l) (k : Nat) : 0 ≤ nextS l k ∧ nextS l k ≤ 65537 := by
  unfold nextS
  cases hd : (chs l).drop k with
  | nil => simp
  | cons x A =>
    have : x ∈ chs l := List.mem_of_mem_drop (i := k) (by rw [hd]; simp)
    have := chs_bound h this
    simp only [List.headD_cons]; omega
theorem next_end {l : List Sp} {e : Int} (h : Ok e l) {k : Nat} (hk : 65536 < nextS l k) : (chs l).drop k = [] := by
  unfold nextS at hk
  cases hd : (chs l).drop k with
  | nil => rfl
  | cons x A =>
    have : x ∈ chs l := List.mem_of_mem_drop (i := k) (by rw [hd]; simp)
    have := chs_bound h this
    rw [hd] at hk
    simp only [List.headD_cons] at hk; omega
/-- The number of changes passed, behind a day. -/
def adv (l : List Sp) (k : Nat) (day : Int) : Nat := if nextS l k = day then k + 1 else k
theorem adv_drop {l : List Sp} {k : Nat} {day : Int} (hd : day ≤ 65536) : (chs l).drop (adv l k day) = (if ((chs l).drop k).headD 65537 = day then ((chs l).drop k).tail else (chs l).drop k) ∧
    oddB (adv l k day) = (if ((chs l).drop k).headD 65537 = day then !oddB k else oddB k) ∧ (k ≤ 2 * l.length → adv l k day ≤ 2 * l.length) := by
  unfold adv
  by_cases h : nextS l k = day
  · have h' : ((chs l).drop k).headD 65537 = day := h
    rw [if_pos h, if_pos h', if_pos h']
    refine ⟨by rw [List.tail_drop], ?_, fun _ => ?_⟩
    · unfold oddB
      rw [Bool.eq_iff_iff]; simp; omega
    · cases hc : (chs l).drop k with
      | nil => rw [hc] at h'; simp at h'; omega
      | cons x A =>
        have := congrArg List.length hc
        simp only [List.length_drop, chs_len, List.length_cons] at this
        omega
  · have h' : ¬ ((chs l).drop k).headD 65537 = day := h
    rw [if_neg h, if_neg h', if_neg h']
    exact ⟨rfl, rfl, fun h => h⟩
theorem comb_end {keep : Bool → Bool → Bool} {m : Nat} {A B : List Int} {ia ib : Bool} {z : Int} (h : 65536 < min (A.headD 65537) (B.headD 65537)) : comb keep m A B ia ib z = [] := by
  cases m with
  | zero => rfl
  | succ m => simp only [comb]; rw [if_pos h]
theorem comb_step {keep : Bool → Bool → Bool} {m : Nat} {A B : List Int} {ia ib : Bool} {z day : Int} (hd : min (A.headD 65537) (B.headD 65537) = day) (h : day ≤ 65536) :
    comb keep (m + 1) A B ia ib z = stepS keep m (if A.headD 65537 = day then A.tail else A) (if B.headD 65537 = day then B.tail else B) (if A.headD 65537 = day then !ia else ia) (if B.headD 65537 = day then !ib else ib) z day := by
  rw [comb, hd]
  simp only []
  rw [if_neg (by omega)]
  rfl
theorem at_of {E : Env} {keep : Bool → Bool → Bool} {pa pb m : Nat} {z : Int} {out : List Sp} {day : Int} (wf : Wf E) (hpa : pa ≤ 2 * E.a.length) (hpb : pb ≤ 2 * E.b.length) (hm : 2 * E.a.length + 2 * E.b.length ≤ m + pa + pb)
    (hd : min (nextS E.a pa) (nextS E.b pb) = day) (h6 : day ≤ 65536) (hl : out.length ≤ pa + pb) (hc : combS keep E.a E.b = out ++ comb keep m ((chs E.a).drop pa) ((chs E.b).drop pb) (oddB pa) (oddB pb) z) :
    ∃ m', 2 * E.a.length + 2 * E.b.length ≤ m' + adv E.a pa day + adv E.b pb day ∧ 0 ≤ day ∧ out.length + 1 ≤ adv E.a pa day + adv E.b pb day ∧ adv E.a pa day ≤ 2 * E.a.length ∧ adv E.b pb day ≤ 2 * E.b.length ∧
      combS keep E.a E.b = out ++ stepS keep m' ((chs E.a).drop (adv E.a pa day)) ((chs E.b).drop (adv E.b pb day)) (oddB (adv E.a pa day)) (oddB (adv E.b pb day)) z day := by
  have ba := nextS_bound wf.oa pa
  have bb := nextS_bound wf.ob pb
  obtain ⟨a1, a2, a3⟩ := adv_drop (l := E.a) (k := pa) h6
  obtain ⟨b1, b2, b3⟩ := adv_drop (l := E.b) (k := pb) h6
  have hadv : pa + pb + 1 ≤ adv E.a pa day + adv E.b pb day := by
    unfold adv
    rcases (by omega : nextS E.a pa = day ∨ nextS E.b pb = day) with h | h
    · rw [if_pos h]; split <;> omega
    · rw [if_pos h]; split <;> omega
  have hA := a3 hpa
  have hB := b3 hpb
  cases m with
  | zero => omega
  | succ m =>
    refine ⟨m, by omega, by omega, by omega, hA, hB, ?_⟩
    rw [hc, comb_step hd h6, a1, b1, a2, b2]
end Go.Proofs.YtalconpcpegmlaaDoor
