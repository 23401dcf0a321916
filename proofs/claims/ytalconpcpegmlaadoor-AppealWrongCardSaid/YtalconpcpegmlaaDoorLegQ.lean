import Derived.Test.YtalconpcpegmlaaDoorLegP
import Derived.Test.YtalconpcpegmlaaDoorLibStep
/- annuitantlaw40.AppealWrong, walked. -/
namespace Go.Proofs.YtalconpcpegmlaaDoor
open Go.RowKit
set_option linter.unusedVariables false

theorem step_append_any {P : Program} {ops : Array Oper} {o : Oper} {a : Act} {K : Act → World → Prop} {Q : Exit → Act → World → Prop} {E : Prop} {w w0 : World} {α : Type} {k : Nat} {enc : α → List Value}
    (hgd : o.guard = none) (s x : Operand) (t e : TypeId) (bytes : Nat) (z : Value) (he : ∀ x, (enc x).length = k) (h1 : ∀ x, ∀ u ∈ enc x, u.oneCell' = true) (hk : 0 < k)
    (ho : o.op = .call { callee := .builtin .append, args := #[s, x], argTypes := #[t, t] }) (ht : P.underlying t = some (.slice e))
    (hinfo : (P.info? e).map (fun i => (i.zero, i.size, i.bytes)) = some (some z, k, bytes)) (hzs : z.cells.size = k)
    {v : Value} (xs ys : List α) (hown : Owns w0.heap.size e k enc w v xs) (hext : Ext w0 w) (p : Option Addr) (c : Nat)
    (hs : a.eval s = v) (hx : a.eval x = .slice p ys.length c) (hys : Sl k enc w p ys) (hpc : p = none → c = 0) (hlen : (xs.length + ys.length) * bytes ≤ 140737488355328) (hlen2 : xs.length + ys.length ≤ 9223372036854775807)
    (h : ∀ p' c' w', Owns w0.heap.size e k enc w' (.slice p' (xs ++ ys).length c') (xs ++ ys) → Ext w0 w' → w.grownBy w' v.ownBlock → K (a.put o.dst (.slice p' (xs ++ ys).length c')) w') :
    if Region.wanted o (yielded ops a.tmps) = true then Oper.wp P o a w K Q else E := by
  obtain ⟨i0, hi, hz0, hz1, hz2⟩ := info_parts hinfo
  have hw : Region.wanted o (yielded ops a.tmps) = true := by simp [Region.wanted, hgd]
  rw [if_pos hw]
  cases p with
  | none =>
    obtain rfl := hys.of_none
    obtain rfl := hpc rfl
    have hr := run_append_owned_none (P := P) w w0.heap.size t o.type e i0 k ht hi v xs.length (xs.flatMap enc) hown
    obtain ⟨p', c', rfl, _⟩ := hown.read he
    have hx' : a.eval x = .slice none 0 0 := hx
    have := h p' c' w (by rw [List.append_nil]; exact hown) hext ⟨rfl, rfl, rfl, Nat.le_refl _, fun _ _ _ => rfl⟩
    rw [List.append_nil] at this
    unfold Oper.wp execOp
    simp only [ho, resolve, invoke, builtin, Sem.run_bind, Sem.run_pure, Result.andThen_ok, List.map_toArray, List.map_cons, List.map_nil, hs, hx', hr]
    exact this
  | some ad =>
    refine wp_append_own w s x t ho w0.heap.size e i0 z k bytes ht hi hz0 hz1 hz2 hzs hk v xs.length _ hs hown ad ys.length c (ys.flatMap enc) hx (flat_len he ys) (hys.news he) (fun u hu => ?_) (by unfold maxLen; omega) hlen hext.size ?_
    · obtain ⟨y, _, hy⟩ := List.mem_flatMap.1 hu
      exact h1 y u hy
    intro v' w' hown' hgrow _
    have ho2 : Owns w0.heap.size e k enc w' v' (xs ++ ys) := by unfold Owns; rw [List.length_append, List.flatMap_append]; exact hown'
    obtain ⟨p3, c3, rfl, _⟩ := ho2.read he
    exact h p3 c3 w' ho2 (hext.grown hgrow fun j hj => (World.ownsRow.lt hown j hj).1) hgrow
theorem wpList_build12 {P : Program} {ops : Array Oper} {rest : List Oper} {o : Oper} {a : Act} {Q : Exit → Act → World → Prop} {w : World} {t : TypeId} {parts : Array (Nat × Operand)} (hgd : o.guard = none) (ho : o.op = .build t parts)
    (v : Value) (hr : (Instr.build t (parts.map fun (i, x) => (i, a.eval x))).run P w = .ok v w) (h : wpList P ops Q rest (a.put o.dst v) w) : wpList P ops Q (o :: rest) a w := by
  refine wpList_plain hgd fun _ hK => ?_
  unfold Oper.wp execOp
  simp only [ho, Sem.run_bind, Sem.run_pure, Result.andThen_ok, hr]
  exact hK _ _ h
theorem wpList_index12 {P : Program} {ops : Array Oper} {rest : List Oper} {o : Oper} {a : Act} {Q : Exit → Act → World → Prop} {w : World} {t : TypeId} {x i : Operand} (hgd : o.guard = none) (ho : o.op = .index t x i)
    (v : Value) (hr : (Instr.index t (a.eval x) (a.eval i)).run P w = .ok v w) (h : wpList P ops Q rest (a.put o.dst v) w) : wpList P ops Q (o :: rest) a w := by
  refine wpList_plain hgd fun _ hK => ?_
  unfold Oper.wp execOp
  simp only [ho, Sem.run_bind, Sem.run_pure, Result.andThen_ok, hr]
  exact hK _ _ h
theorem idx12_0 (lo hi mx : Int) (w : World) : (Instr.index 52 (.agg #[.int .u8 0, .int .i64 0, .int .i64 0, .int .i64 0, .int .i64 0, .bool false, .int .u8 8, .int .i64 0, .int .i64 1, .int .i64 0, .int .i64 0, .bool false, .int .u8 4, .int .i64 lo, .int .i64 0, .int .i64 3, .int .i64 0, .bool false, .int .u8 4, .int .i64 hi, .int .i64 0, .int .i64 3, .int .i64 0, .bool false, .int .u8 4, .int .i64 3, .int .i64 0, .int .i64 mx, .int .i64 0, .bool false, .int .u8 1, .int .i64 3, .int .i64 0, .int .i64 1, .int .i64 9, .bool false, .int .u8 1, .int .i64 3, .int .i64 0, .int .i64 2, .int .i64 2, .bool false, .int .u8 1, .int .i64 3, .int .i64 0, .int .i64 2, .int .i64 hi, .bool false, .int .u8 5, .int .i64 3, .int .i64 lo, .int .i64 0, .int .i64 0, .bool false, .int .u8 6, .int .i64 3, .int .i64 1, .int .i64 3, .int .i64 0, .bool false, .int .u8 3, .int .i64 3, .int .i64 1, .int .i64 0, .int .i64 0, .bool true, .int .u8 7, .int .i64 3, .int .i64 1, .int .i64 0, .int .i64 5, .bool false]) (.int .u8 0)).run Tryd.prog w = .ok (.agg #[.int .u8 0, .int .i64 0, .int .i64 0, .int .i64 0, .int .i64 0, .bool false]) w := by kernel_rfl
theorem idx12_1 (lo hi mx : Int) (w : World) : (Instr.index 52 (.agg #[.int .u8 0, .int .i64 0, .int .i64 0, .int .i64 0, .int .i64 0, .bool false, .int .u8 8, .int .i64 0, .int .i64 1, .int .i64 0, .int .i64 0, .bool false, .int .u8 4, .int .i64 lo, .int .i64 0, .int .i64 3, .int .i64 0, .bool false, .int .u8 4, .int .i64 hi, .int .i64 0, .int .i64 3, .int .i64 0, .bool false, .int .u8 4, .int .i64 3, .int .i64 0, .int .i64 mx, .int .i64 0, .bool false, .int .u8 1, .int .i64 3, .int .i64 0, .int .i64 1, .int .i64 9, .bool false, .int .u8 1, .int .i64 3, .int .i64 0, .int .i64 2, .int .i64 2, .bool false, .int .u8 1, .int .i64 3, .int .i64 0, .int .i64 2, .int .i64 hi, .bool false, .int .u8 5, .int .i64 3, .int .i64 lo, .int .i64 0, .int .i64 0, .bool false, .int .u8 6, .int .i64 3, .int .i64 1, .int .i64 3, .int .i64 0, .bool false, .int .u8 3, .int .i64 3, .int .i64 1, .int .i64 0, .int .i64 0, .bool true, .int .u8 7, .int .i64 3, .int .i64 1, .int .i64 0, .int .i64 5, .bool false]) (.int .u8 1)).run Tryd.prog w = .ok (.agg #[.int .u8 8, .int .i64 0, .int .i64 1, .int .i64 0, .int .i64 0, .bool false]) w := by kernel_rfl
theorem idx12_2 (lo hi mx : Int) (w : World) : (Instr.index 52 (.agg #[.int .u8 0, .int .i64 0, .int .i64 0, .int .i64 0, .int .i64 0, .bool false, .int .u8 8, .int .i64 0, .int .i64 1, .int .i64 0, .int .i64 0, .bool false, .int .u8 4, .int .i64 lo, .int .i64 0, .int .i64 3, .int .i64 0, .bool false, .int .u8 4, .int .i64 hi, .int .i64 0, .int .i64 3, .int .i64 0, .bool false, .int .u8 4, .int .i64 3, .int .i64 0, .int .i64 mx, .int .i64 0, .bool false, .int .u8 1, .int .i64 3, .int .i64 0, .int .i64 1, .int .i64 9, .bool false, .int .u8 1, .int .i64 3, .int .i64 0, .int .i64 2, .int .i64 2, .bool false, .int .u8 1, .int .i64 3, .int .i64 0, .int .i64 2, .int .i64 hi, .bool false, .int .u8 5, .int .i64 3, .int .i64 lo, .int .i64 0, .int .i64 0, .bool false, .int .u8 6, .int .i64 3, .int .i64 1, .int .i64 3, .int .i64 0, .bool false, .int .u8 3, .int .i64 3, .int .i64 1, .int .i64 0, .int .i64 0, .bool true, .int .u8 7, .int .i64 3, .int .i64 1, .int .i64 0, .int .i64 5, .bool false]) (.int .u8 2)).run Tryd.prog w = .ok (.agg #[.int .u8 4, .int .i64 lo, .int .i64 0, .int .i64 3, .int .i64 0, .bool false]) w := by kernel_rfl
theorem idx12_3 (lo hi mx : Int) (w : World) : (Instr.index 52 (.agg #[.int .u8 0, .int .i64 0, .int .i64 0, .int .i64 0, .int .i64 0, .bool false, .int .u8 8, .int .i64 0, .int .i64 1, .int .i64 0, .int .i64 0, .bool false, .int .u8 4, .int .i64 lo, .int .i64 0, .int .i64 3, .int .i64 0, .bool false, .int .u8 4, .int .i64 hi, .int .i64 0, .int .i64 3, .int .i64 0, .bool false, .int .u8 4, .int .i64 3, .int .i64 0, .int .i64 mx, .int .i64 0, .bool false, .int .u8 1, .int .i64 3, .int .i64 0, .int .i64 1, .int .i64 9, .bool false, .int .u8 1, .int .i64 3, .int .i64 0, .int .i64 2, .int .i64 2, .bool false, .int .u8 1, .int .i64 3, .int .i64 0, .int .i64 2, .int .i64 hi, .bool false, .int .u8 5, .int .i64 3, .int .i64 lo, .int .i64 0, .int .i64 0, .bool false, .int .u8 6, .int .i64 3, .int .i64 1, .int .i64 3, .int .i64 0, .bool false, .int .u8 3, .int .i64 3, .int .i64 1, .int .i64 0, .int .i64 0, .bool true, .int .u8 7, .int .i64 3, .int .i64 1, .int .i64 0, .int .i64 5, .bool false]) (.int .u8 3)).run Tryd.prog w = .ok (.agg #[.int .u8 4, .int .i64 hi, .int .i64 0, .int .i64 3, .int .i64 0, .bool false]) w := by kernel_rfl
theorem idx12_4 (lo hi mx : Int) (w : World) : (Instr.index 52 (.agg #[.int .u8 0, .int .i64 0, .int .i64 0, .int .i64 0, .int .i64 0, .bool false, .int .u8 8, .int .i64 0, .int .i64 1, .int .i64 0, .int .i64 0, .bool false, .int .u8 4, .int .i64 lo, .int .i64 0, .int .i64 3, .int .i64 0, .bool false, .int .u8 4, .int .i64 hi, .int .i64 0, .int .i64 3, .int .i64 0, .bool false, .int .u8 4, .int .i64 3, .int .i64 0, .int .i64 mx, .int .i64 0, .bool false, .int .u8 1, .int .i64 3, .int .i64 0, .int .i64 1, .int .i64 9, .bool false, .int .u8 1, .int .i64 3, .int .i64 0, .int .i64 2, .int .i64 2, .bool false, .int .u8 1, .int .i64 3, .int .i64 0, .int .i64 2, .int .i64 hi, .bool false, .int .u8 5, .int .i64 3, .int .i64 lo, .int .i64 0, .int .i64 0, .bool false, .int .u8 6, .int .i64 3, .int .i64 1, .int .i64 3, .int .i64 0, .bool false, .int .u8 3, .int .i64 3, .int .i64 1, .int .i64 0, .int .i64 0, .bool true, .int .u8 7, .int .i64 3, .int .i64 1, .int .i64 0, .int .i64 5, .bool false]) (.int .u8 4)).run Tryd.prog w = .ok (.agg #[.int .u8 4, .int .i64 3, .int .i64 0, .int .i64 mx, .int .i64 0, .bool false]) w := by kernel_rfl
theorem idx12_5 (lo hi mx : Int) (w : World) : (Instr.index 52 (.agg #[.int .u8 0, .int .i64 0, .int .i64 0, .int .i64 0, .int .i64 0, .bool false, .int .u8 8, .int .i64 0, .int .i64 1, .int .i64 0, .int .i64 0, .bool false, .int .u8 4, .int .i64 lo, .int .i64 0, .int .i64 3, .int .i64 0, .bool false, .int .u8 4, .int .i64 hi, .int .i64 0, .int .i64 3, .int .i64 0, .bool false, .int .u8 4, .int .i64 3, .int .i64 0, .int .i64 mx, .int .i64 0, .bool false, .int .u8 1, .int .i64 3, .int .i64 0, .int .i64 1, .int .i64 9, .bool false, .int .u8 1, .int .i64 3, .int .i64 0, .int .i64 2, .int .i64 2, .bool false, .int .u8 1, .int .i64 3, .int .i64 0, .int .i64 2, .int .i64 hi, .bool false, .int .u8 5, .int .i64 3, .int .i64 lo, .int .i64 0, .int .i64 0, .bool false, .int .u8 6, .int .i64 3, .int .i64 1, .int .i64 3, .int .i64 0, .bool false, .int .u8 3, .int .i64 3, .int .i64 1, .int .i64 0, .int .i64 0, .bool true, .int .u8 7, .int .i64 3, .int .i64 1, .int .i64 0, .int .i64 5, .bool false]) (.int .u8 5)).run Tryd.prog w = .ok (.agg #[.int .u8 1, .int .i64 3, .int .i64 0, .int .i64 1, .int .i64 9, .bool false]) w := by kernel_rfl
theorem idx12_6 (lo hi mx : Int) (w : World) : (Instr.index 52 (.agg #[.int .u8 0, .int .i64 0, .int .i64 0, .int .i64 0, .int .i64 0, .bool false, .int .u8 8, .int .i64 0, .int .i64 1, .int .i64 0, .int .i64 0, .bool false, .int .u8 4, .int .i64 lo, .int .i64 0, .int .i64 3, .int .i64 0, .bool false, .int .u8 4, .int .i64 hi, .int .i64 0, .int .i64 3, .int .i64 0, .bool false, .int .u8 4, .int .i64 3, .int .i64 0, .int .i64 mx, .int .i64 0, .bool false, .int .u8 1, .int .i64 3, .int .i64 0, .int .i64 1, .int .i64 9, .bool false, .int .u8 1, .int .i64 3, .int .i64 0, .int .i64 2, .int .i64 2, .bool false, .int .u8 1, .int .i64 3, .int .i64 0, .int .i64 2, .int .i64 hi, .bool false, .int .u8 5, .int .i64 3, .int .i64 lo, .int .i64 0, .int .i64 0, .bool false, .int .u8 6, .int .i64 3, .int .i64 1, .int .i64 3, .int .i64 0, .bool false, .int .u8 3, .int .i64 3, .int .i64 1, .int .i64 0, .int .i64 0, .bool true, .int .u8 7, .int .i64 3, .int .i64 1, .int .i64 0, .int .i64 5, .bool false]) (.int .u8 6)).run Tryd.prog w = .ok (.agg #[.int .u8 1, .int .i64 3, .int .i64 0, .int .i64 2, .int .i64 2, .bool false]) w := by kernel_rfl
theorem idx12_7 (lo hi mx : Int) (w : World) : (Instr.index 52 (.agg #[.int .u8 0, .int .i64 0, .int .i64 0, .int .i64 0, .int .i64 0, .bool false, .int .u8 8, .int .i64 0, .int .i64 1, .int .i64 0, .int .i64 0, .bool false, .int .u8 4, .int .i64 lo, .int .i64 0, .int .i64 3, .int .i64 0, .bool false, .int .u8 4, .int .i64 hi, .int .i64 0, .int .i64 3, .int .i64 0, .bool false, .int .u8 4, .int .i64 3, .int .i64 0, .int .i64 mx, .int .i64 0, .bool false, .int .u8 1, .int .i64 3, .int .i64 0, .int .i64 1, .int .i64 9, .bool false, .int .u8 1, .int .i64 3, .int .i64 0, .int .i64 2, .int .i64 2, .bool false, .int .u8 1, .int .i64 3, .int .i64 0, .int .i64 2, .int .i64 hi, .bool false, .int .u8 5, .int .i64 3, .int .i64 lo, .int .i64 0, .int .i64 0, .bool false, .int .u8 6, .int .i64 3, .int .i64 1, .int .i64 3, .int .i64 0, .bool false, .int .u8 3, .int .i64 3, .int .i64 1, .int .i64 0, .int .i64 0, .bool true, .int .u8 7, .int .i64 3, .int .i64 1, .int .i64 0, .int .i64 5, .bool false]) (.int .u8 7)).run Tryd.prog w = .ok (.agg #[.int .u8 1, .int .i64 3, .int .i64 0, .int .i64 2, .int .i64 hi, .bool false]) w := by kernel_rfl
theorem idx12_8 (lo hi mx : Int) (w : World) : (Instr.index 52 (.agg #[.int .u8 0, .int .i64 0, .int .i64 0, .int .i64 0, .int .i64 0, .bool false, .int .u8 8, .int .i64 0, .int .i64 1, .int .i64 0, .int .i64 0, .bool false, .int .u8 4, .int .i64 lo, .int .i64 0, .int .i64 3, .int .i64 0, .bool false, .int .u8 4, .int .i64 hi, .int .i64 0, .int .i64 3, .int .i64 0, .bool false, .int .u8 4, .int .i64 3, .int .i64 0, .int .i64 mx, .int .i64 0, .bool false, .int .u8 1, .int .i64 3, .int .i64 0, .int .i64 1, .int .i64 9, .bool false, .int .u8 1, .int .i64 3, .int .i64 0, .int .i64 2, .int .i64 2, .bool false, .int .u8 1, .int .i64 3, .int .i64 0, .int .i64 2, .int .i64 hi, .bool false, .int .u8 5, .int .i64 3, .int .i64 lo, .int .i64 0, .int .i64 0, .bool false, .int .u8 6, .int .i64 3, .int .i64 1, .int .i64 3, .int .i64 0, .bool false, .int .u8 3, .int .i64 3, .int .i64 1, .int .i64 0, .int .i64 0, .bool true, .int .u8 7, .int .i64 3, .int .i64 1, .int .i64 0, .int .i64 5, .bool false]) (.int .u8 8)).run Tryd.prog w = .ok (.agg #[.int .u8 5, .int .i64 3, .int .i64 lo, .int .i64 0, .int .i64 0, .bool false]) w := by kernel_rfl
theorem idx12_9 (lo hi mx : Int) (w : World) : (Instr.index 52 (.agg #[.int .u8 0, .int .i64 0, .int .i64 0, .int .i64 0, .int .i64 0, .bool false, .int .u8 8, .int .i64 0, .int .i64 1, .int .i64 0, .int .i64 0, .bool false, .int .u8 4, .int .i64 lo, .int .i64 0, .int .i64 3, .int .i64 0, .bool false, .int .u8 4, .int .i64 hi, .int .i64 0, .int .i64 3, .int .i64 0, .bool false, .int .u8 4, .int .i64 3, .int .i64 0, .int .i64 mx, .int .i64 0, .bool false, .int .u8 1, .int .i64 3, .int .i64 0, .int .i64 1, .int .i64 9, .bool false, .int .u8 1, .int .i64 3, .int .i64 0, .int .i64 2, .int .i64 2, .bool false, .int .u8 1, .int .i64 3, .int .i64 0, .int .i64 2, .int .i64 hi, .bool false, .int .u8 5, .int .i64 3, .int .i64 lo, .int .i64 0, .int .i64 0, .bool false, .int .u8 6, .int .i64 3, .int .i64 1, .int .i64 3, .int .i64 0, .bool false, .int .u8 3, .int .i64 3, .int .i64 1, .int .i64 0, .int .i64 0, .bool true, .int .u8 7, .int .i64 3, .int .i64 1, .int .i64 0, .int .i64 5, .bool false]) (.int .u8 9)).run Tryd.prog w = .ok (.agg #[.int .u8 6, .int .i64 3, .int .i64 1, .int .i64 3, .int .i64 0, .bool false]) w := by kernel_rfl
theorem idx12_10 (lo hi mx : Int) (w : World) : (Instr.index 52 (.agg #[.int .u8 0, .int .i64 0, .int .i64 0, .int .i64 0, .int .i64 0, .bool false, .int .u8 8, .int .i64 0, .int .i64 1, .int .i64 0, .int .i64 0, .bool false, .int .u8 4, .int .i64 lo, .int .i64 0, .int .i64 3, .int .i64 0, .bool false, .int .u8 4, .int .i64 hi, .int .i64 0, .int .i64 3, .int .i64 0, .bool false, .int .u8 4, .int .i64 3, .int .i64 0, .int .i64 mx, .int .i64 0, .bool false, .int .u8 1, .int .i64 3, .int .i64 0, .int .i64 1, .int .i64 9, .bool false, .int .u8 1, .int .i64 3, .int .i64 0, .int .i64 2, .int .i64 2, .bool false, .int .u8 1, .int .i64 3, .int .i64 0, .int .i64 2, .int .i64 hi, .bool false, .int .u8 5, .int .i64 3, .int .i64 lo, .int .i64 0, .int .i64 0, .bool false, .int .u8 6, .int .i64 3, .int .i64 1, .int .i64 3, .int .i64 0, .bool false, .int .u8 3, .int .i64 3, .int .i64 1, .int .i64 0, .int .i64 0, .bool true, .int .u8 7, .int .i64 3, .int .i64 1, .int .i64 0, .int .i64 5, .bool false]) (.int .u8 10)).run Tryd.prog w = .ok (.agg #[.int .u8 3, .int .i64 3, .int .i64 1, .int .i64 0, .int .i64 0, .bool true]) w := by kernel_rfl
theorem idx12_11 (lo hi mx : Int) (w : World) : (Instr.index 52 (.agg #[.int .u8 0, .int .i64 0, .int .i64 0, .int .i64 0, .int .i64 0, .bool false, .int .u8 8, .int .i64 0, .int .i64 1, .int .i64 0, .int .i64 0, .bool false, .int .u8 4, .int .i64 lo, .int .i64 0, .int .i64 3, .int .i64 0, .bool false, .int .u8 4, .int .i64 hi, .int .i64 0, .int .i64 3, .int .i64 0, .bool false, .int .u8 4, .int .i64 3, .int .i64 0, .int .i64 mx, .int .i64 0, .bool false, .int .u8 1, .int .i64 3, .int .i64 0, .int .i64 1, .int .i64 9, .bool false, .int .u8 1, .int .i64 3, .int .i64 0, .int .i64 2, .int .i64 2, .bool false, .int .u8 1, .int .i64 3, .int .i64 0, .int .i64 2, .int .i64 hi, .bool false, .int .u8 5, .int .i64 3, .int .i64 lo, .int .i64 0, .int .i64 0, .bool false, .int .u8 6, .int .i64 3, .int .i64 1, .int .i64 3, .int .i64 0, .bool false, .int .u8 3, .int .i64 3, .int .i64 1, .int .i64 0, .int .i64 0, .bool true, .int .u8 7, .int .i64 3, .int .i64 1, .int .i64 0, .int .i64 5, .bool false]) (.int .u8 11)).run Tryd.prog w = .ok (.agg #[.int .u8 7, .int .i64 3, .int .i64 1, .int .i64 0, .int .i64 5, .bool false]) w := by kernel_rfl
def badF (z lo hi mx : Int) : Fl :=
  if z = 0 then ⟨0, 0, 0, 0, 0, false⟩ else if z = 1 then ⟨8, 0, 1, 0, 0, false⟩ else if z = 2 then ⟨4, lo, 0, 3, 0, false⟩ else if z = 3 then ⟨4, hi, 0, 3, 0, false⟩ else if z = 4 then ⟨4, 3, 0, mx, 0, false⟩ else if z = 5 then ⟨1, 3, 0, 1, 9, false⟩ else if z = 6 then ⟨1, 3, 0, 2, 2, false⟩ else if z = 7 then ⟨1, 3, 0, 2, hi, false⟩ else if z = 8 then ⟨5, 3, lo, 0, 0, false⟩ else if z = 9 then ⟨6, 3, 1, 3, 0, false⟩ else if z = 10 then ⟨3, 3, 1, 0, 0, true⟩ else ⟨7, 3, 1, 0, 5, false⟩
theorem idx12 (z lo hi mx : Int) (hz : 0 ≤ z ∧ z < 12) (w : World) : (Instr.index 52 (.agg #[.int .u8 0, .int .i64 0, .int .i64 0, .int .i64 0, .int .i64 0, .bool false, .int .u8 8, .int .i64 0, .int .i64 1, .int .i64 0, .int .i64 0, .bool false, .int .u8 4, .int .i64 lo, .int .i64 0, .int .i64 3, .int .i64 0, .bool false, .int .u8 4, .int .i64 hi, .int .i64 0, .int .i64 3, .int .i64 0, .bool false, .int .u8 4, .int .i64 3, .int .i64 0, .int .i64 mx, .int .i64 0, .bool false, .int .u8 1, .int .i64 3, .int .i64 0, .int .i64 1, .int .i64 9, .bool false, .int .u8 1, .int .i64 3, .int .i64 0, .int .i64 2, .int .i64 2, .bool false, .int .u8 1, .int .i64 3, .int .i64 0, .int .i64 2, .int .i64 hi, .bool false, .int .u8 5, .int .i64 3, .int .i64 lo, .int .i64 0, .int .i64 0, .bool false, .int .u8 6, .int .i64 3, .int .i64 1, .int .i64 3, .int .i64 0, .bool false, .int .u8 3, .int .i64 3, .int .i64 1, .int .i64 0, .int .i64 0, .bool true, .int .u8 7, .int .i64 3, .int .i64 1, .int .i64 0, .int .i64 5, .bool false]) (.int .u8 z)).run Tryd.prog w = .ok (.agg #[.int .u8 (badF z lo hi mx).kind, .int .i64 (badF z lo hi mx).day, .int .i64 (badF z lo hi mx).cs, .int .i64 (badF z lo hi mx).n, .int .i64 (badF z lo hi mx).un, .bool (badF z lo hi mx).hold]) w := by
  rcases (by omega : z = 0 ∨ z = 1 ∨ z = 2 ∨ z = 3 ∨ z = 4 ∨ z = 5 ∨ z = 6 ∨ z = 7 ∨ z = 8 ∨ z = 9 ∨ z = 10 ∨ z = 11) with rfl | rfl | rfl | rfl | rfl | rfl | rfl | rfl | rfl | rfl | rfl | rfl
  · exact idx12_0 lo hi mx w
  · exact idx12_1 lo hi mx w
  · exact idx12_2 lo hi mx w
  · exact idx12_3 lo hi mx w
  · exact idx12_4 lo hi mx w
  · exact idx12_5 lo hi mx w
  · exact idx12_6 lo hi mx w
  · exact idx12_7 lo hi mx w
  · exact idx12_8 lo hi mx w
  · exact idx12_9 lo hi mx w
  · exact idx12_10 lo hi mx w
  · exact idx12_11 lo hi mx w
theorem badF_bad (z lo hi mx : Int) (hz : 0 ≤ z ∧ z < 12) (hlo : lo ≤ -1) (hhi : 65536 ≤ hi) (hmx : 401 ≤ mx) : formedB (badF z lo hi mx) = false ∧ 0 ≤ (badF z lo hi mx).kind ∧ (badF z lo hi mx).kind < 256 := by
  rcases (by omega : z = 0 ∨ z = 1 ∨ z = 2 ∨ z = 3 ∨ z = 4 ∨ z = 5 ∨ z = 6 ∨ z = 7 ∨ z = 8 ∨ z = 9 ∨ z = 10 ∨ z = 11) with rfl | rfl | rfl | rfl | rfl | rfl | rfl | rfl | rfl | rfl | rfl | rfl
  all_goals
    simp [badF, formedB, rowP] <;> omega
theorem Owns.form {α : Type} {N : Nat} {e : TypeId} {k n cap : Nat} {enc : α → List Value} {w : World} {p : Option Addr} {xs : List α} (h : Owns N e k enc w (.slice p n cap) xs) : (p = none ∧ n = 0 ∧ cap = 0) ∨ ∃ g, p = some ⟨g, 0, none⟩ := by
  rcases h.2 with ⟨hv, _⟩ | ⟨g, c, cur, hv, _⟩
  · simp only [Value.slice.injEq] at hv; exact .inl hv
  · simp only [Value.slice.injEq] at hv; exact .inr ⟨g, hv.1⟩
theorem Sl.dropA {α : Type} {k : Nat} {enc : α → List Value} {w : World} {g off : Nat} {l : List α} (h : Sl k enc w (some ⟨g, off, none⟩) l) (n : Nat) : Sl k enc w (some ⟨g, off + n * k, none⟩) (l.drop n) := fun j hj => by
  have hj' : n + j < l.length := by rw [List.length_drop] at hj; omega
  obtain ⟨b, off', e, hb, hc⟩ := h (n + j) hj'
  simp only [Option.some.injEq, Addr.mk.injEq, and_true] at e
  obtain ⟨rfl, rfl⟩ := e
  refine ⟨g, off + n * k, rfl, hb, fun i u hu => ?_⟩
  rw [List.getElem_drop] at hu
  have := hc i u hu
  rw [show off + n * k + j * k + i = off + (n + j) * k + i by rw [Nat.add_mul]; omega]
  exact this
theorem at_m (l : List Fl) (n : Nat) (hn : l.length = n) (day : Int) (p : Option Addr) (c : Nat) (m : Option Nat) (w : World) (hl : Sl 6 encF w p l) (hm : n ≤ 1000000) (hr : RowsAt m w) (hk : ∀ f ∈ l, 0 ≤ f.kind ∧ f.kind < 256) :
    Calls Tryd.prog 16 #[.slice p n c, .int .i64 day] w fun e w' => RdAt w w' l day e := by subst hn; exact at_c l day p c m w hl hm hr hk
theorem run_n (l : List Fl) (n : Nat) (hn : l.length = n) (p : Option Addr) (c : Nat) (m : Option Nat) (w : World) (hl : Sl 6 encF w p l) (hm : n ≤ 1000000) (hr : RowsAt m w) (hk : ∀ f ∈ l, 0 ≤ f.kind ∧ f.kind < 256) :
    Calls Tryd.prog 14 #[.slice p n c] w fun e w' => ∃ v, e = .returned v ∧ Owns w.heap.size 31 1 encE w' v (runP l) ∧ Ext w w' := by subst hn; exact run_c l p c m w hl hm hr hk
theorem last_n (l : List Fl) (n : Nat) (hn : l.length = n) (p : Option Addr) (c : Nat) (m : Option Nat) (w : World) (hl : Sl 6 encF w p l) (hm : n ≤ 1000) (hr : RowsAt m w) (hk : ∀ f ∈ l, 0 ≤ f.kind ∧ f.kind < 256) :
    Calls Tryd.prog 15 #[.slice p n c] w fun e w' => e = .returned (.int .i64 (dockP l).2) ∧ Ext w w' := by subst hn; exact last_c l p c m w hl hm hr hk
theorem heap_kept2 {w w' : World} {k : Nat} {o : Obj} {row : Option Nat} (h : w.heap[k]? = some o) (hg : w.grownBy w' row) (hne : some k ≠ row) : w'.heap[k]? = some o :=
  (hg.block k (lt_of h) hne).trans h
theorem Sl.ofHeap {w : World} {b : Nat} {T : TypeId} {fr : Nat × Nat} {f : Fl} (h : w.heap[b]? = some (.cells #[.int .u8 f.kind, .int .i64 f.day, .int .i64 f.cs, .int .i64 f.n, .int .i64 f.un, .bool f.hold] T fr)) : Sl 6 encF w (some ⟨b, 0, none⟩) [f] := fun j hj => by
  refine ⟨b, 0, rfl, lt_of h, fun i u hu => ?_⟩
  obtain rfl : j = 0 := by simpa using hj
  rw [cell_of h]
  simpa [encF] using hu
theorem Owns.empty1 {α : Type} {B : Nat} {e : TypeId} {k : Nat} {enc : α → List Value} {w : World} {o : Obj} (hB : B ≤ w.heap.size + 1) : Owns B e k enc ((w.alloc o).alloc (.cells #[] e)) (.slice (some ⟨w.heap.size + 1, 0, none⟩) 0 0) ([] : List α) := by
  have hz : (w.alloc o).heap.size = w.heap.size + 1 := by simp
  have := Owns.empty (α := α) (k := k) (enc := enc) (e := e) (w := w.alloc o) (B := B) (by rw [hz]; exact hB)
  rw [hz] at this
  exact this
set_option maxHeartbeats 6400000 in
set_option maxRecDepth 100000 in
theorem wrongLaw_c (l : List Nt) (way at' low high : Int) (p : Option Addr) (c : Nat) (m : Option Nat) (w : World) (hl : Sl 5 encN w p l) (hm : l.length ≤ 9223372036854775807) (hu : BtU l) (hway : 0 ≤ way ∧ way ≤ 255) (hat : 0 ≤ at' ∧ at' ≤ 255)
    (hlow : -9223372036854775808 ≤ low ∧ low ≤ 9223372036854775807) (hhigh : -9223372036854775808 ≤ high ∧ high ≤ 9223372036854775807) (hr : RowsAt m w) (haw : AwakeOk m) :
    Calls Tryd.prog 9 #[.slice p l.length c, .int .u8 way, .int .u8 at', .int .i64 low, .int .i64 high] w fun e w' => e = .returned (.bool true) ∧ Ext w w' := by
  have HU := Lib.hid hu
  have HR := Lib.hid hr
  have HAW := Lib.hid haw
  clear hu hr haw
  go_enter Tryd.func9, Tryd.ntmps9
  go_wp2_with fail
  refine (HAW.out _ HR.out).mono ?_
  rintro e w1 ⟨rfl, x1⟩
  go_wp2_with fail
  refine (built_c l p c _ (hl.ext x1) hm HU.out).mono ?_
  rintro e w2 ⟨pf, cf, fs, rfl, hof, hlf, hff, x2⟩
  have HK := Lib.hid (kinds_of hff)
  have HS := Lib.hid (hof.slOf encF_len)
  have HX2 := Lib.hid (x1.trans x2)
  have HFO := Lib.hid hof.form
  have hcap := hof.cap
  obtain ⟨n, HN⟩ : ∃ n, Hid (fs.length = n) := ⟨_, rfl⟩
  rw [HN.out] at hlf hcap ⊢
  clear hof hff hl x1 x2
  go_upto_region 5 with fail
  obtain ⟨lo, HLO⟩ : ∃ x, Hid (min low (-1) = x) := ⟨_, rfl⟩
  obtain ⟨hi, HHI⟩ : ∃ x, Hid (max high 65536 = x) := ⟨_, rfl⟩
  have hlo : -9223372036854775808 ≤ lo ∧ lo ≤ -1 := by rw [← HLO.out]; omega
  have hhi : 65536 ≤ hi ∧ hi ≤ 9223372036854775807 := by rw [← HHI.out]; omega
  rw [HLO.out, HHI.out]
  clear hlow hhigh
  go_cut [12] (fun s12 wx => ∃ f : Fl, s12 = .pointer (some ⟨w2.heap.size, 0, none⟩) ∧ Hid (formedB f = false) ∧ Hid (0 ≤ f.kind ∧ f.kind < 256) ∧ wx = w2.alloc (.cells #[.int .u8 f.kind, .int .i64 f.day, .int .i64 f.cs, .int .i64 f.n, .int .i64 f.un, .bool f.hold] 30))
  case first =>
    obtain ⟨z, HZ⟩ : ∃ z, Hid (way % 12 = z) := ⟨_, rfl⟩
    have hz : 0 ≤ z ∧ z < 12 := by rw [← HZ.out]; omega
    have hbad := badF_bad z lo hi (max hi 401) hz hlo.2 hhi.1 (by omega)
    have HIX := Lib.hid (idx12 z lo hi (max hi 401) hz)
    obtain ⟨f, HF⟩ : ∃ f, Hid (badF z lo hi (max hi 401) = f) := ⟨_, rfl⟩
    rw [HF.out] at hbad HIX
    go_wp2_with (first
      | (refine wpList_build12 (t := 52) rfl rfl (.agg #[.int .u8 0, .int .i64 0, .int .i64 0, .int .i64 0, .int .i64 0, .bool false, .int .u8 8, .int .i64 0, .int .i64 1, .int .i64 0, .int .i64 0, .bool false, .int .u8 4, .int .i64 lo, .int .i64 0, .int .i64 3, .int .i64 0, .bool false, .int .u8 4, .int .i64 hi, .int .i64 0, .int .i64 3, .int .i64 0, .bool false, .int .u8 4, .int .i64 3, .int .i64 0, .int .i64 (max hi 401), .int .i64 0, .bool false, .int .u8 1, .int .i64 3, .int .i64 0, .int .i64 1, .int .i64 9, .bool false, .int .u8 1, .int .i64 3, .int .i64 0, .int .i64 2, .int .i64 2, .bool false, .int .u8 1, .int .i64 3, .int .i64 0, .int .i64 2, .int .i64 hi, .bool false, .int .u8 5, .int .i64 3, .int .i64 lo, .int .i64 0, .int .i64 0, .bool false, .int .u8 6, .int .i64 3, .int .i64 1, .int .i64 3, .int .i64 0, .bool false, .int .u8 3, .int .i64 3, .int .i64 1, .int .i64 0, .int .i64 0, .bool true, .int .u8 7, .int .i64 3, .int .i64 1, .int .i64 0, .int .i64 5, .bool false]) (by kernel_rfl) ?_)
      | (simp only [HZ.out]; refine wpList_index12 (t := 52) rfl rfl _ (HIX.out _) ?_))
    go_meet
    exact ⟨f, rfl, hbad.1, hbad.2, rfl⟩
  case rest =>
  obtain ⟨f, rfl, HFB, HFK, rfl⟩ := hcut
  have hB := heap_new w2 (.cells #[.int .u8 f.kind, .int .i64 f.day, .int .i64 f.cs, .int .i64 f.n, .int .i64 f.un, .bool f.hold] 30)
  have hxa := (Ext.refl w2).alloc (.cells #[.int .u8 f.kind, .int .i64 f.day, .int .i64 f.cs, .int .i64 f.n, .int .i64 f.un, .bool f.hold] 30)
  generalize w2.alloc (.cells #[.int .u8 f.kind, .int .i64 f.day, .int .i64 f.cs, .int .i64 f.n, .int .i64 f.un, .bool f.hold] 30) = W at hB hxa ⊢
  obtain ⟨X, HXX⟩ : ∃ x, Hid (w2.heap.size = x) := ⟨_, rfl⟩
  rw [HXX.out] at hB ⊢
  have HX5 := Lib.hid (HX2.out.trans hxa)
  have HS5 := Lib.hid (HS.out.ext hxa)
  have HR5 := Lib.hid (HR.out.ext HX5.out)
  obtain ⟨m0, m1, m2, m3, m4, m5⟩ := cells6 hB
  have hXl := lt_of hB
  clear hxa
  go_upto_region 7 with fail
  obtain ⟨k, HKV, hkn⟩ : ∃ k : Nat, Hid (at' % ((n : Int) + 1) = (k : Int)) ∧ k ≤ n := by
    have h0 := Int.emod_nonneg at' (show (n : Int) + 1 ≠ 0 by omega)
    have h1 := Int.emod_lt_of_pos at' (show 0 < (n : Int) + 1 by omega)
    exact ⟨(at' % ((n : Int) + 1)).toNat, by unfold Hid; omega, by omega⟩
  rw [HKV.out]
  obtain ⟨A, HA⟩ : ∃ A, Hid (fs.take k = A) := ⟨_, rfl⟩
  obtain ⟨B, HBD⟩ : ∃ B, Hid (fs.drop k = B) := ⟨_, rfl⟩
  have HAL : Hid (A.length = k) := by unfold Hid; rw [← HA.out, List.length_take, HN.out]; omega
  have HBL : Hid (B.length = n - k) := by unfold Hid; rw [← HBD.out, List.length_drop, HN.out]
  obtain ⟨A2, HA2⟩ : ∃ A2, Hid (A ++ [f] = A2) := ⟨_, rfl⟩
  have HA2L : Hid (A2.length = k + 1) := by unfold Hid; rw [← HA2.out, List.length_append, HAL.out]; rfl
  have hkc : k ≤ cf := by omega
  have hkci : (k : Int) ≤ (cf : Int) := by omega
  have hkni : (k : Int) ≤ (n : Int) := by omega
  go_cut [14] (fun s14 wx => ∃ pm cm, s14 = .slice pm (n + 1) cm ∧ Hid (Sl 6 encF wx pm (A2 ++ B)) ∧ Ext W wx)
  case first =>
    rcases HFO.out with ⟨rfl, hn0, rfl⟩ | ⟨g, rfl⟩
    · have hn1 : n = 0 := by rw [← HN.out]; exact hn0
      have hk0 : k = 0 := by omega
      have hA0 : A = [] := List.eq_nil_of_length_eq_zero (by rw [HAL.out]; exact hk0)
      have hB0 : B = [] := List.eq_nil_of_length_eq_zero (by rw [HBL.out]; try omega)
      have HSA : Hid (Sl 6 encF W none A) := by unfold Hid; rw [hA0]; exact Sl.nil
      have HSB : Hid (Sl 6 encF W none B) := by unfold Hid; rw [hB0]; exact Sl.nil
      clear hA0 hB0 hn0
      subst hk0
      subst hn1
      go_region_held3 (fun w' => w'.cell? ⟨X, 0, none⟩ = some (.int .u8 f.kind) ∧ w'.cell? ⟨X, 1, none⟩ = some (.int .i64 f.day) ∧ w'.cell? ⟨X, 2, none⟩ = some (.int .i64 f.cs) ∧ w'.cell? ⟨X, 3, none⟩ = some (.int .i64 f.n) ∧ w'.cell? ⟨X, 4, none⟩ = some (.int .i64 f.un) ∧ w'.cell? ⟨X, 5, none⟩ = some (.bool f.hold)) ((repeat' apply And.intro) <;> (refine keep_cell2 (w0 := W) (by assumption) (by first | assumption | exact (Ext.refl _).drew | exact ((Ext.refl _).drew).alloc _ | exact (((Ext.refl _).drew).alloc _).alloc _ | exact Ext.alloc (by assumption) _)))
        (first
          | (refine step_append_any (w0 := W) rfl _ _ 22 30 48 _ encF_len encF_one (by decide) rfl Tryd.underlying22 infoF rfl [] A (Owns.empty (Nat.le_refl _)) (((Ext.refl W).drew).alloc _) none 0 rfl (by rw [HAL.out]; rfl) (HSA.out.ext (((Ext.refl W).drew).alloc _)) (fun _ => rfl) (by rw [HAL.out]; simp only [List.length_nil]; omega) (by rw [HAL.out]; simp only [List.length_nil]; omega) ?_; intro p3 c3 w3 hown3 X3 hg3; rw [show ([] ++ A : List Fl).length = 0 from HAL.out]; have V1 : Owns W.heap.size 30 6 encF w3 (.slice p3 0 c3) A := (by have := hown3; rw [List.nil_append, HAL.out] at this; exact this); clear hown3 hg3)
          | (refine step_append_any (w0 := W) rfl _ _ 22 30 48 _ encF_len encF_one (by decide) rfl Tryd.underlying22 infoF rfl [] A (Owns.empty1 (Nat.le_succ _)) ((((Ext.refl W).drew).alloc _).alloc _) none 0 rfl (by rw [HAL.out]; rfl) (HSA.out.ext ((((Ext.refl W).drew).alloc _).alloc _)) (fun _ => rfl) (by rw [HAL.out]; simp only [List.length_nil]; omega) (by rw [HAL.out]; simp only [List.length_nil]; omega) ?_; intro p3 c3 w3 hown3 X3 hg3; rw [show ([] ++ A : List Fl).length = 0 from HAL.out]; have V1 : Owns W.heap.size 30 6 encF w3 (.slice p3 0 c3) A := (by have := hown3; rw [List.nil_append, HAL.out] at this; exact this); have Y1 : Sl 6 encF w3 (some ⟨W.heap.size, 0, none⟩) [f] := Sl.ofHeap (heap_kept2 (heap_ext (heap_new W.drew (.cells #[.int .u8 f.kind, .int .i64 f.day, .int .i64 f.cs, .int .i64 f.n, .int .i64 f.un, .bool f.hold] 30)) ((Ext.refl _).alloc (.cells #[] 30))) hg3 (by simp [Value.ownBlock])); clear hown3 hg3)
          | (refine step_append_any (w0 := W) rfl _ _ 22 30 48 _ encF_len encF_one (by decide) rfl Tryd.underlying22 infoF rfl [] A (Owns.alloc (Owns.empty (Nat.le_refl _)) _) ((((Ext.refl W).drew).alloc _).alloc _) none 0 rfl (by rw [HAL.out]; rfl) (HSA.out.ext ((((Ext.refl W).drew).alloc _).alloc _)) (fun _ => rfl) (by rw [HAL.out]; simp only [List.length_nil]; omega) (by rw [HAL.out]; simp only [List.length_nil]; omega) ?_; intro p3 c3 w3 hown3 X3 hg3; rw [show ([] ++ A : List Fl).length = 0 from HAL.out]; have V1 : Owns W.heap.size 30 6 encF w3 (.slice p3 0 c3) A := (by have := hown3; rw [List.nil_append, HAL.out] at this; exact this); have Y1 : Sl 6 encF w3 (some ⟨W.heap.size + 1, 0, none⟩) [f] := Sl.ofHeap (heap_kept2 (heap_new1 W.drew (.cells #[] 30) (.cells #[.int .u8 f.kind, .int .i64 f.day, .int .i64 f.cs, .int .i64 f.n, .int .i64 f.un, .bool f.hold] 30)) hg3 (by simp [Value.ownBlock])); clear hown3 hg3)
          | (refine step_append_any (w0 := W) rfl _ _ 22 30 48 _ encF_len encF_one (by decide) rfl Tryd.underlying22 infoF rfl A [f] (Owns.alloc V1 _) (X3.alloc _) _ 1 rfl rfl (Sl.litAny encF_len [f] rfl) (fun h => by cases h) (by rw [HAL.out]; simp only [List.length_cons, List.length_nil]; omega) (by rw [HAL.out]; simp only [List.length_cons, List.length_nil]; omega) ?_; intro p4 c4 w4 hown4 X4 hg4; rw [show (A ++ [f]).length = 0 + 1 from (by rw [HA2.out]; exact HA2L.out)]; have V2 : Owns W.heap.size 30 6 encF w4 (.slice p4 (0 + 1) c4) A2 := (by have := hown4; rw [HA2.out, HA2L.out] at this; exact this); clear hown4 hg4)
          | (refine step_append_any (w0 := W) rfl _ _ 22 30 48 _ encF_len encF_one (by decide) rfl Tryd.underlying22 infoF rfl A [f] V1 X3 _ 1 rfl rfl Y1 (fun h => by cases h) (by rw [HAL.out]; simp only [List.length_cons, List.length_nil]; omega) (by rw [HAL.out]; simp only [List.length_cons, List.length_nil]; omega) ?_; intro p4 c4 w4 hown4 X4 hg4; rw [show (A ++ [f]).length = 0 + 1 from (by rw [HA2.out]; exact HA2L.out)]; have V2 : Owns W.heap.size 30 6 encF w4 (.slice p4 (0 + 1) c4) A2 := (by have := hown4; rw [HA2.out, HA2L.out] at this; exact this); clear hown4 hg4)
          | (refine step_append_any (w0 := W) rfl _ _ 22 30 48 _ encF_len encF_one (by decide) rfl Tryd.underlying22 infoF rfl A2 B V2 X4 none 0 rfl (by rw [HBL.out]; rfl) (HSB.out.ext X4) (fun _ => rfl) (by rw [HA2L.out, HBL.out]; try omega) (by rw [HA2L.out, HBL.out]; try omega) ?_; intro p5 c5 w5 hown5 X5 hg5; clear hg5; have HML : (A2 ++ B).length = 0 + 1 := (by rw [List.length_append, HA2L.out, HBL.out]; try omega); rw [HML] at hown5 ⊢))
      all_goals
        go_wp2_with fail
        go_meet
        exact ⟨p5, c5, rfl, hown5.slOf encF_len, X5⟩
    · have HSA : Hid (Sl 6 encF W (some ⟨g, 0, none⟩) A) := by unfold Hid; rw [← HA.out]; exact HS5.out.takeA k
      by_cases hck : cf = k
      · have hB0 : B = [] := List.eq_nil_of_length_eq_zero (by rw [HBL.out]; try omega)
        have HSB : Hid (Sl 6 encF W (some ⟨g, 0, none⟩) B) := by unfold Hid; rw [hB0]; exact Sl.nil
        have HB00 : Hid (B.length = 0) := by unfold Hid; rw [hB0]; rfl
        clear hB0
        have hck2 : k = cf := hck.symm
        clear hck
        subst hck2
        go_region_held3 (fun w' => w'.cell? ⟨X, 0, none⟩ = some (.int .u8 f.kind) ∧ w'.cell? ⟨X, 1, none⟩ = some (.int .i64 f.day) ∧ w'.cell? ⟨X, 2, none⟩ = some (.int .i64 f.cs) ∧ w'.cell? ⟨X, 3, none⟩ = some (.int .i64 f.n) ∧ w'.cell? ⟨X, 4, none⟩ = some (.int .i64 f.un) ∧ w'.cell? ⟨X, 5, none⟩ = some (.bool f.hold)) ((repeat' apply And.intro) <;> (refine keep_cell2 (w0 := W) (by assumption) (by first | assumption | exact (Ext.refl _).drew | exact ((Ext.refl _).drew).alloc _ | exact (((Ext.refl _).drew).alloc _).alloc _ | exact Ext.alloc (by assumption) _)))
          (first
            | (refine step_append_any (w0 := W) rfl _ _ 22 30 48 _ encF_len encF_one (by decide) rfl Tryd.underlying22 infoF rfl [] A (Owns.empty (Nat.le_refl _)) (((Ext.refl W).drew).alloc _) (some ⟨g, 0, none⟩) k rfl (by rw [HAL.out]; rfl) (HSA.out.ext (((Ext.refl W).drew).alloc _)) (fun h => by cases h) (by rw [HAL.out]; simp only [List.length_nil]; omega) (by rw [HAL.out]; simp only [List.length_nil]; omega) ?_; intro p3 c3 w3 hown3 X3 hg3; rw [show ([] ++ A : List Fl).length = k from HAL.out]; have V1 : Owns W.heap.size 30 6 encF w3 (.slice p3 k c3) A := (by have := hown3; rw [List.nil_append, HAL.out] at this; exact this); clear hown3 hg3)
            | (refine step_append_any (w0 := W) rfl _ _ 22 30 48 _ encF_len encF_one (by decide) rfl Tryd.underlying22 infoF rfl [] A (Owns.empty1 (Nat.le_succ _)) ((((Ext.refl W).drew).alloc _).alloc _) (some ⟨g, 0, none⟩) k rfl (by rw [HAL.out]; rfl) (HSA.out.ext ((((Ext.refl W).drew).alloc _).alloc _)) (fun h => by cases h) (by rw [HAL.out]; simp only [List.length_nil]; omega) (by rw [HAL.out]; simp only [List.length_nil]; omega) ?_; intro p3 c3 w3 hown3 X3 hg3; rw [show ([] ++ A : List Fl).length = k from HAL.out]; have V1 : Owns W.heap.size 30 6 encF w3 (.slice p3 k c3) A := (by have := hown3; rw [List.nil_append, HAL.out] at this; exact this); have Y1 : Sl 6 encF w3 (some ⟨W.heap.size, 0, none⟩) [f] := Sl.ofHeap (heap_kept2 (heap_ext (heap_new W.drew (.cells #[.int .u8 f.kind, .int .i64 f.day, .int .i64 f.cs, .int .i64 f.n, .int .i64 f.un, .bool f.hold] 30)) ((Ext.refl _).alloc (.cells #[] 30))) hg3 (by simp [Value.ownBlock])); clear hown3 hg3)
            | (refine step_append_any (w0 := W) rfl _ _ 22 30 48 _ encF_len encF_one (by decide) rfl Tryd.underlying22 infoF rfl [] A (Owns.alloc (Owns.empty (Nat.le_refl _)) _) ((((Ext.refl W).drew).alloc _).alloc _) (some ⟨g, 0, none⟩) k rfl (by rw [HAL.out]; rfl) (HSA.out.ext ((((Ext.refl W).drew).alloc _).alloc _)) (fun h => by cases h) (by rw [HAL.out]; simp only [List.length_nil]; omega) (by rw [HAL.out]; simp only [List.length_nil]; omega) ?_; intro p3 c3 w3 hown3 X3 hg3; rw [show ([] ++ A : List Fl).length = k from HAL.out]; have V1 : Owns W.heap.size 30 6 encF w3 (.slice p3 k c3) A := (by have := hown3; rw [List.nil_append, HAL.out] at this; exact this); have Y1 : Sl 6 encF w3 (some ⟨W.heap.size + 1, 0, none⟩) [f] := Sl.ofHeap (heap_kept2 (heap_new1 W.drew (.cells #[] 30) (.cells #[.int .u8 f.kind, .int .i64 f.day, .int .i64 f.cs, .int .i64 f.n, .int .i64 f.un, .bool f.hold] 30)) hg3 (by simp [Value.ownBlock])); clear hown3 hg3)
            | (refine step_append_any (w0 := W) rfl _ _ 22 30 48 _ encF_len encF_one (by decide) rfl Tryd.underlying22 infoF rfl A [f] (Owns.alloc V1 _) (X3.alloc _) _ 1 rfl rfl (Sl.litAny encF_len [f] rfl) (fun h => by cases h) (by rw [HAL.out]; simp only [List.length_cons, List.length_nil]; omega) (by rw [HAL.out]; simp only [List.length_cons, List.length_nil]; omega) ?_; intro p4 c4 w4 hown4 X4 hg4; rw [show (A ++ [f]).length = k + 1 from (by rw [HA2.out]; exact HA2L.out)]; have V2 : Owns W.heap.size 30 6 encF w4 (.slice p4 (k + 1) c4) A2 := (by have := hown4; rw [HA2.out, HA2L.out] at this; exact this); clear hown4 hg4)
            | (refine step_append_any (w0 := W) rfl _ _ 22 30 48 _ encF_len encF_one (by decide) rfl Tryd.underlying22 infoF rfl A [f] V1 X3 _ 1 rfl rfl Y1 (fun h => by cases h) (by rw [HAL.out]; simp only [List.length_cons, List.length_nil]; omega) (by rw [HAL.out]; simp only [List.length_cons, List.length_nil]; omega) ?_; intro p4 c4 w4 hown4 X4 hg4; rw [show (A ++ [f]).length = k + 1 from (by rw [HA2.out]; exact HA2L.out)]; have V2 : Owns W.heap.size 30 6 encF w4 (.slice p4 (k + 1) c4) A2 := (by have := hown4; rw [HA2.out, HA2L.out] at this; exact this); clear hown4 hg4)
            | (refine step_append_any (w0 := W) rfl _ _ 22 30 48 _ encF_len encF_one (by decide) rfl Tryd.underlying22 infoF rfl A2 B V2 X4 (some ⟨g, 0, none⟩) 0 rfl (by rw [HB00.out]; rfl) (HSB.out.ext X4) (fun h => by cases h) (by rw [HA2L.out, HBL.out]; try omega) (by rw [HA2L.out, HBL.out]; try omega) ?_; intro p5 c5 w5 hown5 X5 hg5; clear hg5; have HML : (A2 ++ B).length = n + 1 := (by rw [List.length_append, HA2L.out, HBL.out]; try omega); rw [HML] at hown5 ⊢))
        all_goals
          go_wp2_with fail
          go_meet
          exact ⟨p5, c5, rfl, hown5.slOf encF_len, X5⟩
      · have HSB : Hid (Sl 6 encF W (some ⟨g, k * 6, none⟩) B) := by
          unfold Hid
          rw [← HBD.out]
          have := HS5.out.dropA k
          rw [Nat.zero_add] at this
          exact this
        go_region_held3 (fun w' => w'.cell? ⟨X, 0, none⟩ = some (.int .u8 f.kind) ∧ w'.cell? ⟨X, 1, none⟩ = some (.int .i64 f.day) ∧ w'.cell? ⟨X, 2, none⟩ = some (.int .i64 f.cs) ∧ w'.cell? ⟨X, 3, none⟩ = some (.int .i64 f.n) ∧ w'.cell? ⟨X, 4, none⟩ = some (.int .i64 f.un) ∧ w'.cell? ⟨X, 5, none⟩ = some (.bool f.hold)) ((repeat' apply And.intro) <;> (refine keep_cell2 (w0 := W) (by assumption) (by first | assumption | exact (Ext.refl _).drew | exact ((Ext.refl _).drew).alloc _ | exact (((Ext.refl _).drew).alloc _).alloc _ | exact Ext.alloc (by assumption) _)))
          (first
            | (refine step_append_any (w0 := W) rfl _ _ 22 30 48 _ encF_len encF_one (by decide) rfl Tryd.underlying22 infoF rfl [] A (Owns.empty (Nat.le_refl _)) (((Ext.refl W).drew).alloc _) (some ⟨g, 0, none⟩) cf rfl (by rw [HAL.out]; rfl) (HSA.out.ext (((Ext.refl W).drew).alloc _)) (fun h => by cases h) (by rw [HAL.out]; simp only [List.length_nil]; omega) (by rw [HAL.out]; simp only [List.length_nil]; omega) ?_; intro p3 c3 w3 hown3 X3 hg3; rw [show ([] ++ A : List Fl).length = k from HAL.out]; have V1 : Owns W.heap.size 30 6 encF w3 (.slice p3 k c3) A := (by have := hown3; rw [List.nil_append, HAL.out] at this; exact this); clear hown3 hg3)
            | (refine step_append_any (w0 := W) rfl _ _ 22 30 48 _ encF_len encF_one (by decide) rfl Tryd.underlying22 infoF rfl [] A (Owns.empty1 (Nat.le_succ _)) ((((Ext.refl W).drew).alloc _).alloc _) (some ⟨g, 0, none⟩) cf rfl (by rw [HAL.out]; rfl) (HSA.out.ext ((((Ext.refl W).drew).alloc _).alloc _)) (fun h => by cases h) (by rw [HAL.out]; simp only [List.length_nil]; omega) (by rw [HAL.out]; simp only [List.length_nil]; omega) ?_; intro p3 c3 w3 hown3 X3 hg3; rw [show ([] ++ A : List Fl).length = k from HAL.out]; have V1 : Owns W.heap.size 30 6 encF w3 (.slice p3 k c3) A := (by have := hown3; rw [List.nil_append, HAL.out] at this; exact this); have Y1 : Sl 6 encF w3 (some ⟨W.heap.size, 0, none⟩) [f] := Sl.ofHeap (heap_kept2 (heap_ext (heap_new W.drew (.cells #[.int .u8 f.kind, .int .i64 f.day, .int .i64 f.cs, .int .i64 f.n, .int .i64 f.un, .bool f.hold] 30)) ((Ext.refl _).alloc (.cells #[] 30))) hg3 (by simp [Value.ownBlock])); clear hown3 hg3)
            | (refine step_append_any (w0 := W) rfl _ _ 22 30 48 _ encF_len encF_one (by decide) rfl Tryd.underlying22 infoF rfl [] A (Owns.alloc (Owns.empty (Nat.le_refl _)) _) ((((Ext.refl W).drew).alloc _).alloc _) (some ⟨g, 0, none⟩) cf rfl (by rw [HAL.out]; rfl) (HSA.out.ext ((((Ext.refl W).drew).alloc _).alloc _)) (fun h => by cases h) (by rw [HAL.out]; simp only [List.length_nil]; omega) (by rw [HAL.out]; simp only [List.length_nil]; omega) ?_; intro p3 c3 w3 hown3 X3 hg3; rw [show ([] ++ A : List Fl).length = k from HAL.out]; have V1 : Owns W.heap.size 30 6 encF w3 (.slice p3 k c3) A := (by have := hown3; rw [List.nil_append, HAL.out] at this; exact this); have Y1 : Sl 6 encF w3 (some ⟨W.heap.size + 1, 0, none⟩) [f] := Sl.ofHeap (heap_kept2 (heap_new1 W.drew (.cells #[] 30) (.cells #[.int .u8 f.kind, .int .i64 f.day, .int .i64 f.cs, .int .i64 f.n, .int .i64 f.un, .bool f.hold] 30)) hg3 (by simp [Value.ownBlock])); clear hown3 hg3)
            | (refine step_append_any (w0 := W) rfl _ _ 22 30 48 _ encF_len encF_one (by decide) rfl Tryd.underlying22 infoF rfl A [f] (Owns.alloc V1 _) (X3.alloc _) _ 1 rfl rfl (Sl.litAny encF_len [f] rfl) (fun h => by cases h) (by rw [HAL.out]; simp only [List.length_cons, List.length_nil]; omega) (by rw [HAL.out]; simp only [List.length_cons, List.length_nil]; omega) ?_; intro p4 c4 w4 hown4 X4 hg4; rw [show (A ++ [f]).length = k + 1 from (by rw [HA2.out]; exact HA2L.out)]; have V2 : Owns W.heap.size 30 6 encF w4 (.slice p4 (k + 1) c4) A2 := (by have := hown4; rw [HA2.out, HA2L.out] at this; exact this); clear hown4 hg4)
            | (refine step_append_any (w0 := W) rfl _ _ 22 30 48 _ encF_len encF_one (by decide) rfl Tryd.underlying22 infoF rfl A [f] V1 X3 _ 1 rfl rfl Y1 (fun h => by cases h) (by rw [HAL.out]; simp only [List.length_cons, List.length_nil]; omega) (by rw [HAL.out]; simp only [List.length_cons, List.length_nil]; omega) ?_; intro p4 c4 w4 hown4 X4 hg4; rw [show (A ++ [f]).length = k + 1 from (by rw [HA2.out]; exact HA2L.out)]; have V2 : Owns W.heap.size 30 6 encF w4 (.slice p4 (k + 1) c4) A2 := (by have := hown4; rw [HA2.out, HA2L.out] at this; exact this); clear hown4 hg4)
            | (refine step_append_any (w0 := W) rfl _ _ 22 30 48 _ encF_len encF_one (by decide) rfl Tryd.underlying22 infoF rfl A2 B V2 X4 (some ⟨g, k * 6, none⟩) (cf - k) rfl (by rw [HBL.out]; rfl) (HSB.out.ext X4) (fun h => by cases h) (by rw [HA2L.out, HBL.out]; try omega) (by rw [HA2L.out, HBL.out]; try omega) ?_; intro p5 c5 w5 hown5 X5 hg5; clear hg5; have HML : (A2 ++ B).length = n + 1 := (by rw [List.length_append, HA2L.out, HBL.out]; try omega); rw [HML] at hown5 ⊢))
        all_goals
          go_wp2_with fail
          go_meet
          exact ⟨p5, c5, rfl, hown5.slOf encF_len, X5⟩
  case rest =>
  obtain ⟨pm, cm, rfl, HSM, x7⟩ := hcut
  rename World => W7
  have HML : Hid ((A2 ++ B).length = n + 1) := by unfold Hid; rw [List.length_append, HA2L.out, HBL.out]; omega
  have hn1000 : fs.length < 1000 := by rw [HN.out]; omega
  have HMQ : Hid (dockP (A2 ++ B) = dockP fs ∧ runP (A2 ++ B) = (runP fs).take k ++ [2] ++ (runP fs).drop k) := by
    unfold Hid
    rw [← HA2.out, ← HA.out, ← HBD.out]
    exact wrong_run HFB.out (by rw [HN.out]; exact hkn) hn1000
  have HKM : Hid (∀ g ∈ A2 ++ B, 0 ≤ g.kind ∧ g.kind < 256) := by
    intro g hg
    rw [← HA2.out, ← HA.out, ← HBD.out] at hg
    rcases List.mem_append.1 hg with hg | hg
    · rcases List.mem_append.1 hg with hg | hg
      · exact HK.out g (List.mem_of_mem_take hg)
      · rw [List.mem_singleton] at hg; subst hg; exact HFK.out
    · exact HK.out g (List.mem_of_mem_drop hg)
  obtain ⟨M, HM⟩ : ∃ M, Hid (A2 ++ B = M) := ⟨_, rfl⟩
  rw [HM.out] at HML HMQ HKM HSM
  have HX7 := Lib.hid (HX5.out.trans x7)
  have HS7 := Lib.hid (HS5.out.ext x7)
  have HR7 := Lib.hid (HR5.out.ext x7)
  clear x7 hB hXl m0 m1 m2 m3 m4 m5 hkc hkci hcap hn1000
  go_wp2_with fail
  refine (run_n M (n + 1) HML.out pm cm m _ HSM.out (by omega) HR7.out HKM.out).mono ?_
  rintro e w8 ⟨v8, rfl, ho8, x8⟩
  obtain ⟨p8, c8, rfl, hs8⟩ := ho8.read encE_len
  obtain ⟨R1, HR1⟩ : ∃ R, Hid (runP M = R) := ⟨_, rfl⟩
  have HR1L : Hid (R1.length = n + 1) := by unfold Hid; rw [← HR1.out, runP_len, HML.out]
  rw [HR1.out] at hs8 ⊢
  rw [HR1L.out]
  clear ho8
  go_wp2_with fail
  refine (run_n fs n HN.out pf cf m _ (HS7.out.ext x8) (by omega) (HR7.out.ext x8) HK.out).mono ?_
  rintro e w9 ⟨v9, rfl, ho9, x9⟩
  obtain ⟨p9, c9, rfl, hs9⟩ := ho9.read encE_len
  obtain ⟨R0, HR0⟩ : ∃ R, Hid (runP fs = R) := ⟨_, rfl⟩
  have HR0L : Hid (R0.length = n) := by unfold Hid; rw [← HR0.out, runP_len, HN.out]
  have HRR : Hid (R1 = R0.take k ++ [2] ++ R0.drop k) := by unfold Hid; rw [← HR1.out, HMQ.out.2, HR0.out]
  rw [HR0.out] at hs9 ⊢
  rw [HR0L.out]
  have HX9 := Lib.hid ((HX7.out.trans x8).trans x9)
  have HS9 := Lib.hid ((HS7.out.ext x8).ext x9)
  have HSM9 := Lib.hid ((HSM.out.ext x8).ext x9)
  have HR9 := Lib.hid ((HR7.out.ext x8).ext x9)
  have HQ1 := Lib.hid (hs8.ext x9)
  have HQ0 := Lib.hid hs9
  have htk : (R0.take k).length = k := by rw [List.length_take, HR0L.out]; omega
  have HAT : Hid (R1[k]? = some 2) := by
    unfold Hid
    rw [HRR.out, List.append_assoc, List.getElem?_append_right (by omega), htk, Nat.sub_self]
    rfl
  have HLO1 : Hid (∀ j, j < k → R1[j]? = R0[j]?) := by
    intro j hj
    rw [HRR.out, List.append_assoc, List.getElem?_append_left (by omega), List.getElem?_take_of_lt hj]
  have HHI1 : Hid (∀ j, k ≤ j → R1[j + 1]? = R0[j]?) := by
    intro j hj
    rw [HRR.out, List.getElem?_append_right (by rw [List.length_append, htk]; simp only [List.length_cons, List.length_nil]; omega), List.length_append, htk, List.getElem?_drop]
    congr 1
    simp only [List.length_cons, List.length_nil]; omega
  clear ho9 hs8 hs9 x8 x9 htk
  have hkl : k < R1.length := by rw [HR1L.out]; omega
  obtain ⟨b1, of1, x1, rfl, hb1, r1, HXE1⟩ := HQ1.out.atE k hkl
  have hx1 : x1 = 2 := by
    have := HAT.out
    rw [List.getElem?_eq_getElem hkl, HXE1.out] at this
    exact Option.some.inj this
  subst hx1
  have hkn1 : (k : Int) < (n : Int) + 1 := by omega
  go_wp2_with fail
  go_loopw [105] (fun i wr => ∃ j : Nat, j ≤ n ∧ i = .int .i64 j ∧ Ext w9 wr) (fun i _ => n - (intOf i).toNat)
  case atStart => exact ⟨0, Nat.zero_le _, rfl, Ext.refl _⟩
  case round =>
    obtain ⟨j, hj, rfl, hxj⟩ := hrel
    clear r1 hb1
    by_cases hlt : j < n
    · have hlt1 : (j : Int) < (n : Int) := by omega
      have hj0 : j < R0.length := by rw [HR0L.out]; exact hlt
      obtain ⟨b0, of0, x0, rfl, hb0, r0, HXE0⟩ := (HQ0.out.ext hxj).atE j hj0
      by_cases hjk : j < k
      · have hj1 : j < R1.length := by rw [HR1L.out]; omega
        obtain ⟨_, _, y, e1, hb1, r1, HYE⟩ := (HQ1.out.ext hxj).atE j hj1
        simp only [Option.some.injEq, Addr.mk.injEq, and_true] at e1
        obtain ⟨rfl, rfl⟩ := e1
        have hyx : y = x0 := by
          have := HLO1.out j hjk
          rw [List.getElem?_eq_getElem hj1, List.getElem?_eq_getElem hj0, HYE.out, HXE0.out] at this
          exact Option.some.inj this
        subst hyx
        have qk : decide ((k : Int) ≤ (j : Int)) = false := by simp; omega
        have qkn : decide (k ≤ j) = false := by simp; omega
        have hjn1 : (j : Int) < (n : Int) + 1 := by omega
        clear hjk
        go_wp2_with fail
        go_roundw
        case rel => exact ⟨j + 1, by omega, by go_num, hxj⟩
        case measure => simp [intOf]; omega
      · have hj1 : j + 1 < R1.length := by rw [HR1L.out]; omega
        obtain ⟨_, _, y, e1, hb1, r1, HYE⟩ := (HQ1.out.ext hxj).atE (j + 1) hj1
        simp only [Option.some.injEq, Addr.mk.injEq, and_true] at e1
        obtain ⟨rfl, rfl⟩ := e1
        have hyx : y = x0 := by
          have := HHI1.out j (by omega)
          rw [List.getElem?_eq_getElem hj1, List.getElem?_eq_getElem hj0, HYE.out, HXE0.out] at this
          exact Option.some.inj this
        subst hyx
        have qk : decide ((k : Int) ≤ (j : Int)) = true := by simp; omega
        have qkn : decide (k ≤ j) = true := by simp; omega
        have hjw := IntWalk.i64_in ((j : Int) + 1) (by omega)
        have hjn1 : (j : Int) + 1 < (n : Int) + 1 := by omega
        have hjn2 : (j : Int) < (n : Int) := hlt1
        clear hjk
        go_wp2_with fail
        go_roundw
        case rel => exact ⟨j + 1, by omega, by go_num, hxj⟩
        case measure => simp [intOf]; omega
    · have hlt1 : ¬ (j : Int) < (n : Int) := by omega
      have HXa := Lib.hid (HX9.out.trans hxj)
      have HSa := Lib.hid (HS9.out.ext hxj)
      have HSMa := Lib.hid (HSM9.out.ext hxj)
      have HRa := Lib.hid (HR9.out.ext hxj)
      have hn2 : fs.length ≤ 1000 := by rw [HN.out]; omega
      clear hxj
      go_wp2_with fail
      refine (last_n fs n HN.out pf cf m _ HSa.out (by omega) HRa.out HK.out).mono ?_
      rintro e wa ⟨rfl, xa⟩
      have HLB := Lib.hid (DI.dock fs).last
      obtain ⟨L, HL⟩ : ∃ L, Hid ((dockP fs).2 = L) := ⟨_, rfl⟩
      have HA0 : Hid (atP fs L = ((dockP fs).1.map (onP · L), 0)) := by unfold Hid; rw [← HL.out]; exact at_from (Int.le_refl _) HLB.out.2
      have HA1 : Hid (atP M L = ((dockP fs).1.map (onP · L), 0)) := by
        unfold Hid
        rw [← HA0.out]
        unfold atP; rw [HMQ.out.1]
      have HA2' : Hid (atP fs lo = ([], 2)) := by unfold Hid atP; rw [if_pos (.inl (by omega))]
      have HA3 : Hid (atP fs hi = ([], 2)) := by unfold Hid atP; rw [if_pos (.inr (by omega))]
      rw [HL.out] at HLB ⊢
      have HXb := Lib.hid (HXa.out.trans xa)
      have HSb := Lib.hid (HSa.out.ext xa)
      have HSMb := Lib.hid (HSMa.out.ext xa)
      have HRb := Lib.hid (HRa.out.ext xa)
      clear xa
      go_wp2_with fail
      refine (at_m fs n HN.out L pf cf m _ HSb.out (by omega) HRb.out HK.out).mono ?_
      rintro e wc ⟨p1, cap1, xs, rfl, hm1, ho1, hh1, xc⟩
      have HC1 := Lib.hid (csl_at ho1 hh1 hm1)
      rw [HA0.out] at hm1 ⊢
      have hxl : xs.length ≤ 1000000 := by
        have h1 := congrArg List.length hm1
        rw [List.length_map, List.length_map] at h1
        have h2 := (DI.dock fs).len
        omega
      have HM1 := Lib.hid hm1
      have HXc := Lib.hid (HXb.out.trans xc)
      have HSc := Lib.hid (HSb.out.ext xc)
      have HSMc := Lib.hid (HSMb.out.ext xc)
      have HRc := Lib.hid (HRb.out.ext xc)
      clear ho1 hh1 hm1 xc
      go_wp2_with fail
      refine (at_m M (n + 1) HML.out L pm cm m _ HSMc.out (by omega) HRc.out HKM.out).mono ?_
      rintro e wd ⟨p2, cap2, ys, rfl, hm2, ho2, hh2, xd⟩
      have HC2 := Lib.hid (csl_at ho2 hh2 hm2)
      rw [HA1.out] at hm2 ⊢
      have HME : Hid (xs.map (·.1) = ys.map (·.1)) := by unfold Hid; rw [HM1.out, hm2]
      have HC1d := Lib.hid (HC1.out.ext xd)
      have HXd := Lib.hid (HXc.out.trans xd)
      have HSd := Lib.hid (HSc.out.ext xd)
      have HRd := Lib.hid (HRc.out.ext xd)
      clear ho2 hh2 hm2 xd
      go_wp2_with fail
      refine (at_m fs n HN.out lo pf cf m _ HSd.out (by omega) HRd.out HK.out).mono ?_
      rintro e we ⟨p3, cap3, zs, rfl, _, _, _, xe⟩
      rw [HA2'.out]
      have HXe := Lib.hid (HXd.out.trans xe)
      have HSe := Lib.hid (HSd.out.ext xe)
      have HRe := Lib.hid (HRd.out.ext xe)
      have HC1e := Lib.hid (HC1d.out.ext xe)
      have HC2e := Lib.hid (HC2.out.ext xe)
      clear xe
      go_wp2_with fail
      refine (at_m fs n HN.out hi pf cf m _ HSe.out (by omega) HRe.out HK.out).mono ?_
      rintro e wf ⟨p4, cap4, us, rfl, _, _, _, xf⟩
      rw [HA3.out]
      have HXf := Lib.hid (HXe.out.trans xf)
      have HSf := Lib.hid (HSe.out.ext xf)
      have HRf := Lib.hid (HRe.out.ext xf)
      have HC1f := Lib.hid (HC1e.out.ext xf)
      have HC2f := Lib.hid (HC2e.out.ext xf)
      clear xf
      have hLw := IntWalk.i64_in (L - 1) (by have := HLB.out; omega)
      go_wp2_with fail
      refine (at_m fs n HN.out (L - 1) pf cf m _ HSf.out (by omega) HRf.out HK.out).mono ?_
      rintro e wg ⟨p5, cap5, vs, rfl, _, _, _, xg⟩
      have HXg := Lib.hid (HXf.out.trans xg)
      have HC1g := HC1f.out.ext xg
      have HC2g := HC2f.out.ext xg
      clear xg
      by_cases hL0 : L = 0
      · have hA5 : atP fs (L - 1) = ([], 2) := by unfold atP; rw [if_pos (.inl (by omega))]
        rw [hA5]
        subst hL0
        clear hA5
        go_wp2_with fail
        refine (sameCases_c xs ys p1 p2 cap1 cap2 _ HC1g HC2g hxl HME.out).mono ?_
        rintro e wh ⟨rfl, xh⟩
        go_wp2_with fail
        go_ret
        exact ⟨rfl, HXg.out.trans xh⟩
      · have hA5 : atP fs (L - 1) = ([], 400) := by
          have := HLB.out
          unfold atP; rw [if_neg (by omega), if_pos (by rw [HL.out]; omega)]
        rw [hA5]
        have q0 : (L == 0) = false := by simpa using hL0
        have q1 : decide (0 < L) = true := by have := HLB.out; simp; omega
        clear hA5 hL0
        go_wp2_with fail
        refine (sameCases_c xs ys p1 p2 cap1 cap2 _ HC1g HC2g hxl HME.out).mono ?_
        rintro e wh ⟨rfl, xh⟩
        go_wp2_with fail
        go_ret
        exact ⟨rfl, HXg.out.trans xh⟩
end Go.Proofs.YtalconpcpegmlaaDoor
