import Derived.Test.YtbjhehmglahmpaaSpanW4
import Derived.Laws.OwnMore
/- The kit's lending of spans, walked: a copy with twelve marks behind it. -/
namespace Go.Proofs.Ytbjhehmglahmpaa
open Go.RowKit

/-- An append that fits stays in its row. -/
theorem wpList_append_fits {P : Program} {ops : Array Oper} {rest : List Oper} {o : Oper} {a : Act} {Q : Exit → Act → World → Prop} {w w0 : World} {α : Type} {k : Nat} {enc : α → List Value}
    (hgd : o.guard = none) (s x : Operand) (t e : TypeId) (bytes : Nat) (z : Value) (he : ∀ x, (enc x).length = k) (h1 : ∀ x, ∀ u ∈ enc x, u.oneCell' = true)
    (ho : o.op = .call { callee := .builtin .append, args := #[s, x], argTypes := #[t, t] }) (ht : P.underlying t = some (.slice e))
    (hinfo : (P.info? e).map (fun i => (i.zero, i.size, i.bytes)) = some (some z, k, bytes))
    {g n cap : Nat} (xs ys : List α) (hn : xs.length = n) (hown : Owns w0.heap.size e k enc w (.slice (some ⟨g, 0, none⟩) n cap) xs) (hext : Ext w0 w) (ad : Addr) (c : Nat)
    (hs : a.eval s = .slice (some ⟨g, 0, none⟩) n cap) (hx : a.eval x = .slice (some ad) ys.length c) (hys : Sl k enc w (some ad) ys) (hroom : n + ys.length ≤ cap)
    (h : ∀ w', Owns w0.heap.size e k enc w' (.slice (some ⟨g, 0, none⟩) (n + ys.length) cap) (xs ++ ys) → Ext w0 w' → wpList P ops Q rest (a.put o.dst (.slice (some ⟨g, 0, none⟩) (n + ys.length) cap)) w') : wpList P ops Q (o :: rest) a w := by
  subst hn
  obtain ⟨i0, hi, hz0, hz1, hz2⟩ := info_parts hinfo
  obtain ⟨w', hr, hown', hg⟩ := run_append_fits (P := P) w w0.heap.size t o.type e i0 k ht hi hz1 g xs.length cap (xs.flatMap enc) hown ad ys.length c (ys.flatMap enc) (flat_len he ys) (hys.news he) (fun u hu => by
    obtain ⟨y, _, hy⟩ := List.mem_flatMap.1 hu
    exact h1 y u hy) hroom
  have hgB : w0.heap.size ≤ g := (World.ownsRow.lt hown g rfl).1
  refine wpList_plain hgd fun _ hK => ?_
  unfold Oper.wp execOp
  simp only [ho, resolve, invoke, builtin, Sem.run_bind, Sem.run_pure, Result.andThen_ok, List.map_toArray, List.map_cons, List.map_nil, hs, hx, hr]
  refine hK _ _ (h w' ?_ (hext.grown hg fun j hj => by cases hj; exact hgB))
  unfold Owns
  rw [List.length_append, List.flatMap_append]
  exact hown'
/-- An append of nothing. -/
theorem wpList_append_nil {P : Program} {ops : Array Oper} {rest : List Oper} {o : Oper} {a : Act} {Q : Exit → Act → World → Prop} {w w0 : World} {α : Type} {k : Nat} {enc : α → List Value}
    (hgd : o.guard = none) (s x : Operand) (t e : TypeId) (bytes : Nat) (z : Value)
    (ho : o.op = .call { callee := .builtin .append, args := #[s, x], argTypes := #[t, t] }) (ht : P.underlying t = some (.slice e))
    (hinfo : (P.info? e).map (fun i => (i.zero, i.size, i.bytes)) = some (some z, k, bytes))
    {v : Value} {xs : List α} (hown : Owns w0.heap.size e k enc w v xs)
    (hs : a.eval s = v) (hx : a.eval x = .slice none 0 0)
    (h : wpList P ops Q rest (a.put o.dst v) w) : wpList P ops Q (o :: rest) a w := by
  obtain ⟨i0, hi, hz0, hz1, hz2⟩ := info_parts hinfo
  have hr := run_append_owned_none (P := P) w w0.heap.size t o.type e i0 k ht hi v xs.length (xs.flatMap enc) hown
  refine wpList_plain hgd fun _ hK => ?_
  unfold Oper.wp execOp
  simp only [ho, resolve, invoke, builtin, Sem.run_bind, Sem.run_pure, Result.andThen_ok, List.map_toArray, List.map_cons, List.map_nil, hs, hx, hr]
  exact hK _ _ h
theorem Owns.sl {α : Type} {B : Nat} {e : TypeId} {k : Nat} {enc : α → List Value} {w : World} {p : Option Addr} {n c : Nat} {xs : List α} (he : ∀ x, (enc x).length = k) (h : Owns B e k enc w (.slice p n c) xs) : Sl k enc w p xs := by
  obtain ⟨p', c', e, hs⟩ := h.read he
  simp only [Value.slice.injEq] at e
  rw [e.1]; exact hs
theorem Sl.pre {α : Type} {k : Nat} {enc : α → List Value} {w : World} {p : Option Addr} {xs ys : List α} (h : Sl k enc w p (xs ++ ys)) : Sl k enc w p xs := fun j hj => by
  obtain ⟨b, off, e, hb, hc⟩ := h j (by rw [List.length_append]; omega)
  refine ⟨b, off, e, hb, fun i u hu => hc i u ?_⟩
  rw [List.getElem_append_left hj]; exact hu
def marks (k : Int) (n : Nat) : List Sp := (List.range n).map fun (i : Nat) => (1000003 * (k + 7) + (i : Int), (0 : Int))
theorem marks_succ (k : Int) (n : Nat) : marks k (n + 1) = marks k n ++ [(1000003 * (k + 7) + (n : Int), 0)] := by simp [marks, List.range_succ]
theorem marks_len (k : Int) (n : Nat) : (marks k n).length = n := by simp [marks]
theorem marks_at (k : Int) (n i : Nat) (h : i < (marks k n).length) : (marks k n)[i] = (1000003 * (k + 7) + (i : Int), 0) := by simp [marks]
theorem mark_any (k i : Int) (w : World) (hk : 0 ≤ k ∧ k ≤ 1000) (hi : 0 ≤ i ∧ i ≤ 2000000) :
    Calls Try.prog 100 #[.int .i64 k, .int .i64 i] w fun e w' => e = .returned (.int .i64 (1000003 * (k + 7) + i)) ∧ w = w' := by
  have h1 := IntWalk.i64_in (k + 7) (by omega)
  have h2 := IntWalk.i64_in (1000003 * (k + 7)) (by omega)
  have h3 := IntWalk.i64_in (1000003 * (k + 7) + i) (by omega)
  go_enter Try.func100, Try.ntmps100
  go_wp2
  go_ret
  exact ⟨rfl, rfl⟩
theorem markSpan_any (k i m : Int) (w : World) (hk : 0 ≤ k ∧ k ≤ 1000) (hi : 0 ≤ i ∧ i ≤ 2000000) (hm : 1000003 * (k + 7) + i = m) :
    Calls Try.prog 88 #[.int .i64 k, .int .i64 i] w fun e w' => e = .returned (.agg #[.int .i64 m, .int .i64 0]) ∧ Ext w w' := by
  have HM := Lib.hid hm
  clear hm
  go_enter Try.func88, Try.ntmps88
  go_wp2_with fail
  refine (mark_any k i _ hk hi).mono ?_
  rintro e wN ⟨rfl, rfl⟩
  rw [HM.out]
  go_wp2_with fail
  exact bodyPost_ret (v := .agg #[.int .i64 m, .int .i64 0]) (by simp [results, Try.results88, go_sem]) rfl ⟨rfl, (Ext.refl w).alloc _⟩
theorem run_mk (n : Nat) (m : Int) (hm : (n : Int) = m) (w : World) (h : n ≤ 1000000) :
    ∃ wM, (Instr.makeSlice 52 (.int .i64 0) (.int .i64 m)).run Try.prog w = .ok (.slice (some ⟨w.heap.size, 0, none⟩) 0 n) wM ∧ OwnS w wM (.slice (some ⟨w.heap.size, 0, none⟩) 0 n) ([] : List Sp) ∧ Ext w wM := by
  subst hm
  obtain ⟨i0, hi, hz0, hz1, hz2⟩ := info_parts infoSp
  obtain ⟨wM, hmk, hown0, hgM⟩ := run_make_own (P := Try.prog) w w.heap.size 52 65 i0 _ 2 Try.underlying52 hi hz0 hz1 .i64 .i64 n (by rw [hz2]; omega) (by unfold maxLen; omega) (Nat.le_refl _)
  exact ⟨wM, hmk, hown0, (Ext.refl w).grown hgM (fun k hk => by cases hk)⟩
set_option maxHeartbeats 1600000 in
theorem lent_any (l : List Sp) (p : Option Addr) (c : Nat) (w : World) (hl : Sl 2 enc2 w p l) (hm : l.length ≤ 1000) (hc : p = none → c = 0) :
    Calls Try.prog 58 #[.slice p l.length c] w fun e w' => ∃ g, e = .returned (.slice (some ⟨g, 0, none⟩) l.length (l.length + 12)) ∧ OwnS w w' (.slice (some ⟨g, 0, none⟩) (l.length + 12) (l.length + 12)) (l ++ marks 1 12) ∧ Ext w w' := by
  obtain ⟨wM, hmk, hownM, hxM⟩ := run_mk (l.length + 12) ((l.length : Int) + 12) (by omega) w (by omega)
  cases p with
  | none =>
    obtain rfl := hl.of_none
    obtain rfl := hc rfl
    simp only [List.length_nil, Int.natCast_zero, Nat.zero_add, Int.zero_add] at hmk hownM ⊢
    go_enter Try.func58, Try.ntmps58
    go_wp2_with (at_builtin; refine wpList_append_nil (w0 := w) (k := 2) (enc := enc2) rfl _ _ 52 65 16 _ rfl Try.underlying52 infoSp hownM rfl rfl ?_)
    have hown1 := hownM
    have hx1 := hxM
    clear hmk hownM hxM
    generalize w.heap.size = g at hown1 ⊢
    go_loopw [3, 4] (fun v i wr => ∃ (n : Nat), n ≤ 12 ∧ i = .int .i64 n ∧ v = .slice (some ⟨g, 0, none⟩) (n) (12) ∧ OwnS w wr (.slice (some ⟨g, 0, none⟩) (n) (12)) (marks 1 n) ∧ Ext w wr) (fun _ i _ => 12 - (intOf i).toNat)
    case atStart => exact ⟨0, by omega, rfl, rfl, by simpa [marks] using hown1, hx1⟩
    case round =>
      obtain ⟨n, hn, rfl, rfl, hown, hx⟩ := hrel
      by_cases hlt : n < 12
      · have hde : decide ((n : Int) < 12) = true := by simpa using (by omega : (n : Int) < 12)
        have hlt2 : (n : Int) < 12 := by omega
        go_wp2_with fail
        refine (markSpan_any 1 n (8000024 + (n : Int)) _ (by omega) (by omega) (by omega)).mono ?_
        rintro e wN ⟨rfl, hxN⟩
        have hownN := hown.ext hxN
        have hxx := hx.trans hxN
        clear hown hx hxN
        go_wp2_with (at_builtin; refine wpList_append_fits (w0 := w) rfl _ _ 52 65 16 _ enc2_len enc2_one rfl Try.underlying52 infoSp (marks 1 n) [(8000024 + (n : Int), 0)] (by simp [marks_len]) (Owns.alloc hownN _) (hxx.alloc _) ⟨wN.heap.size, 0, none⟩ 1 rfl rfl (Sl.lit [(8000024 + (n : Int), 0)] rfl) (by simp; omega) ?_; intro w3 hown3 hx3)
        go_roundw
        case rel =>
          refine ⟨n + 1, by omega, by go_num, rfl, ?_, hx3⟩
          rw [marks_succ]
          exact hown3
        case measure => simp [intOf]; omega
      · have hde : decide ((n : Int) < 12) = false := by simpa using (by omega : ¬ (n : Int) < 12)
        obtain rfl : n = 12 := by omega
        go_wp2_with fail
        go_ret
        exact ⟨g, rfl, hown, hx⟩
  | some a =>
    have hla := hl.ext hxM
    clear hl hc
    go_enter Try.func58, Try.ntmps58
    go_wp2_with (at_builtin; refine wpList_append_fits (n := 0) (w0 := w) rfl _ _ 52 65 16 _ enc2_len enc2_one rfl Try.underlying52 infoSp ([] : List Sp) l rfl hownM hxM a c rfl rfl hla (by omega) ?_; intro w1 hown1 hx1)
    rw [Nat.zero_add, List.nil_append] at hown1
    have hown1 : OwnS w w1 (.slice (some ⟨w.heap.size, 0, none⟩) l.length (l.length + 12)) l := hown1
    clear hmk hownM
    generalize w.heap.size = g at hown1 ⊢
    go_loopw [3, 4] (fun v i wr => ∃ (n : Nat), n ≤ 12 ∧ i = .int .i64 n ∧ v = .slice (some ⟨g, 0, none⟩) (l.length + n) (l.length + 12) ∧ OwnS w wr (.slice (some ⟨g, 0, none⟩) (l.length + n) (l.length + 12)) (l ++ marks 1 n) ∧ Ext w wr) (fun _ i _ => 12 - (intOf i).toNat)
    case atStart => exact ⟨0, by omega, rfl, rfl, by simpa [marks] using hown1, hx1⟩
    case round =>
      obtain ⟨n, hn, rfl, rfl, hown, hx⟩ := hrel
      by_cases hlt : n < 12
      · have hde : decide ((n : Int) < 12) = true := by simpa using (by omega : (n : Int) < 12)
        have hlt2 : (n : Int) < 12 := by omega
        go_wp2_with fail
        refine (markSpan_any 1 n (8000024 + (n : Int)) _ (by omega) (by omega) (by omega)).mono ?_
        rintro e wN ⟨rfl, hxN⟩
        have hownN := hown.ext hxN
        have hxx := hx.trans hxN
        clear hown hx hxN
        go_wp2_with (at_builtin; refine wpList_append_fits (w0 := w) rfl _ _ 52 65 16 _ enc2_len enc2_one rfl Try.underlying52 infoSp (l ++ marks 1 n) [(8000024 + (n : Int), 0)] (by simp [marks_len]) (Owns.alloc hownN _) (hxx.alloc _) ⟨wN.heap.size, 0, none⟩ 1 rfl rfl (Sl.lit [(8000024 + (n : Int), 0)] rfl) (by simp; omega) ?_; intro w3 hown3 hx3)
        go_roundw
        case rel =>
          refine ⟨n + 1, by omega, by go_num, rfl, ?_, hx3⟩
          rw [marks_succ, ← List.append_assoc]
          exact hown3
        case measure => simp [intOf]; omega
      · have hde : decide ((n : Int) < 12) = false := by simpa using (by omega : ¬ (n : Int) < 12)
        obtain rfl : n = 12 := by omega
        go_wp2_with fail
        go_ret
        exact ⟨g, rfl, hown, hx⟩
end Go.Proofs.Ytbjhehmglahmpaa
