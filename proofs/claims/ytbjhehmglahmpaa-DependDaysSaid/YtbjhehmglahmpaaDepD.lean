import Derived.Test.YtbjhehmglahmpaaDepC
import Derived.Deep.DeepCutAuto
/- The examples of chapter 25, walked. -/
namespace Go.Proofs.Ytbjhehmglahmpaa
open Go.RowKit

theorem Sl.litE {α : Type} {k : Nat} {enc : α → List Value} (he : ∀ x, (enc x).length = k) {w : World} {T : TypeId} {b : Nat} (xs : List α) (hb : b = w.heap.size) : Sl k enc (w.alloc (.cells (xs.flatMap enc).toArray T)) (some ⟨b, 0, none⟩) xs := by
  subst hb
  intro j hj
  refine ⟨w.heap.size, 0, rfl, by simp, fun i u hu => ?_⟩
  have hi : i < k := by have := (List.getElem?_eq_some_iff.1 hu).1; rwa [he] at this
  rw [cell_of (heap_new w _), Nat.zero_add, List.getElem?_toArray, flat_at he xs j hj i hi]
  exact hu
theorem wpList_load_row_g {P : Program} {ops : Array Oper} {rest : List Oper} {o : Oper} {a : Act} {w : World} {Q : Exit → Act → World → Prop} (hw : Region.wanted o (yielded ops a.tmps) = true) (ty : TypeId) (x : Operand) (ho : o.op = .load ty x)
    (g : Nat) (hx : a.eval x = .pointer (some ⟨g, 0, none⟩)) (t : TypeId) (cs : Array Value) (fr : Nat × Nat) (d : TypeDesc) (hg : w.heap[g]? = some (.cells cs t fr))
    (hu : P.underlying ty = some d) (hd : (match d with | .struct _ | .array _ _ => true | _ => false) = true) (hi : (P.info? ty).map (·.size) = some cs.size)
    (h : wpList P ops Q rest (a.put o.dst (.agg cs)) w) : wpList P ops Q (o :: rest) a w :=
  wpList_step fun K hK => by rw [if_pos hw]; exact wp_load_row ty x ho g hx t cs fr d hg hu hd hi (hK _ _ h)
theorem setRow_ext (w : World) (o : Obj) (cs : Array Value) : Ext w ((w.alloc o).setRow w.heap.size cs) := by
  refine ⟨rfl, rfl, rfl, by simp [World.setRow], fun i hi => ?_⟩
  rw [setRow_other _ _ _ _ (by omega)]
  exact heap_alloc_old w o hi
theorem cells3 {w : World} {b : Nat} {T : TypeId} {fr : Nat × Nat} {x0 x1 x2 : Value} (h : w.heap[b]? = some (.cells #[x0, x1, x2] T fr)) :
    w.cell? ⟨b, 0, none⟩ = some x0 ∧ w.cell? ⟨b, 1, none⟩ = some x1 ∧ w.cell? ⟨b, 2, none⟩ = some x2 :=
  ⟨(cell_of h).trans rfl, (cell_of h).trans rfl, (cell_of h).trans rfl⟩
theorem cells24 {w : World} {b : Nat} {T : TypeId} {fr : Nat × Nat} {x0 x1 x2 x3 x4 x5 x6 x7 x8 x9 x10 x11 x12 x13 x14 x15 x16 x17 x18 x19 x20 x21 x22 x23 : Value} (h : w.heap[b]? = some (.cells #[x0, x1, x2, x3, x4, x5, x6, x7, x8, x9, x10, x11, x12, x13, x14, x15, x16, x17, x18, x19, x20, x21, x22, x23] T fr)) :
    w.cell? ⟨b, 0, none⟩ = some x0 ∧ w.cell? ⟨b, 1, none⟩ = some x1 ∧ w.cell? ⟨b, 2, none⟩ = some x2 ∧ w.cell? ⟨b, 3, none⟩ = some x3 ∧ w.cell? ⟨b, 4, none⟩ = some x4 ∧ w.cell? ⟨b, 5, none⟩ = some x5 ∧ w.cell? ⟨b, 6, none⟩ = some x6 ∧ w.cell? ⟨b, 7, none⟩ = some x7 ∧ w.cell? ⟨b, 8, none⟩ = some x8 ∧ w.cell? ⟨b, 9, none⟩ = some x9 ∧ w.cell? ⟨b, 10, none⟩ = some x10 ∧ w.cell? ⟨b, 11, none⟩ = some x11 ∧ w.cell? ⟨b, 12, none⟩ = some x12 ∧ w.cell? ⟨b, 13, none⟩ = some x13 ∧ w.cell? ⟨b, 14, none⟩ = some x14 ∧ w.cell? ⟨b, 15, none⟩ = some x15 ∧ w.cell? ⟨b, 16, none⟩ = some x16 ∧ w.cell? ⟨b, 17, none⟩ = some x17 ∧ w.cell? ⟨b, 18, none⟩ = some x18 ∧ w.cell? ⟨b, 19, none⟩ = some x19 ∧ w.cell? ⟨b, 20, none⟩ = some x20 ∧ w.cell? ⟨b, 21, none⟩ = some x21 ∧ w.cell? ⟨b, 22, none⟩ = some x22 ∧ w.cell? ⟨b, 23, none⟩ = some x23 :=
  ⟨(cell_of h).trans rfl, (cell_of h).trans rfl, (cell_of h).trans rfl, (cell_of h).trans rfl, (cell_of h).trans rfl, (cell_of h).trans rfl, (cell_of h).trans rfl, (cell_of h).trans rfl, (cell_of h).trans rfl, (cell_of h).trans rfl, (cell_of h).trans rfl, (cell_of h).trans rfl, (cell_of h).trans rfl, (cell_of h).trans rfl, (cell_of h).trans rfl, (cell_of h).trans rfl, (cell_of h).trans rfl, (cell_of h).trans rfl, (cell_of h).trans rfl, (cell_of h).trans rfl, (cell_of h).trans rfl, (cell_of h).trans rfl, (cell_of h).trans rfl, (cell_of h).trans rfl⟩
theorem cells11 {w : World} {b : Nat} {T : TypeId} {fr : Nat × Nat} {x0 x1 x2 x3 x4 x5 x6 x7 x8 x9 x10 : Value} (h : w.heap[b]? = some (.cells #[x0, x1, x2, x3, x4, x5, x6, x7, x8, x9, x10] T fr)) :
    w.cell? ⟨b, 0, none⟩ = some x0 ∧ w.cell? ⟨b, 1, none⟩ = some x1 ∧ w.cell? ⟨b, 2, none⟩ = some x2 ∧ w.cell? ⟨b, 3, none⟩ = some x3 ∧ w.cell? ⟨b, 4, none⟩ = some x4 ∧ w.cell? ⟨b, 5, none⟩ = some x5 ∧
    w.cell? ⟨b, 6, none⟩ = some x6 ∧ w.cell? ⟨b, 7, none⟩ = some x7 ∧ w.cell? ⟨b, 8, none⟩ = some x8 ∧ w.cell? ⟨b, 9, none⟩ = some x9 ∧ w.cell? ⟨b, 10, none⟩ = some x10 :=
  ⟨(cell_of h).trans rfl, (cell_of h).trans rfl, (cell_of h).trans rfl, (cell_of h).trans rfl, (cell_of h).trans rfl, (cell_of h).trans rfl, (cell_of h).trans rfl, (cell_of h).trans rfl, (cell_of h).trans rfl, (cell_of h).trans rfl, (cell_of h).trans rfl⟩
theorem keyB_dec (a b : ByteArray) : (a.toList == b.toList) = decide (a = b) := by rw [Bool.eq_iff_iff, keyB_iff, decide_eq_true_iff]
theorem ex_s : spansOf ⟨#[112, 97, 121]⟩ [(⟨#[112, 97, 121]⟩, 100, 101), (⟨#[112, 97, 121]⟩, 50, 90)] = [(100, 101), (50, 90)] := by
  have e : ∀ f t : Int, spanB ⟨#[112, 97, 121]⟩ (⟨#[112, 97, 121]⟩, f, t) = decide (f < t) := fun f t => by simp [spanB]
  simp [spansOf, List.filter, e]
theorem ex_e : makeE (spansOf ⟨#[112, 97, 121]⟩ [(⟨#[112, 97, 121]⟩, 100, 101), (⟨#[112, 97, 121]⟩, 50, 90)]) = 0 := by rw [ex_s]; decide
theorem ex_v : makeV (spansOf ⟨#[112, 97, 121]⟩ [(⟨#[112, 97, 121]⟩, 100, 101), (⟨#[112, 97, 121]⟩, 50, 90)]) = [(50, 90), (100, 101)] := by
  rw [ex_s, ← merge_unique (l := [(100, 101), (50, 90)]) (l' := [(50, 90), (100, 101)]) (by decide) (by decide) ⟨50, by simp [Asc]⟩]
  decide
theorem ex_f1 : (decide ((7 : Int) ≤ 7) && ([(⟨#[112, 97, 121]⟩, 100, 101), (⟨#[112, 97, 121]⟩, 50, 90)] : List Rd).any (hitB ⟨#[112, 97, 121]⟩ 89 95)) = true := by simp only [List.any_cons, List.any_nil, hitB, keyB_dec]; decide
theorem ex_f2 : (decide ((7 : Int) ≤ 6) && ([(⟨#[112, 97, 121]⟩, 100, 101), (⟨#[112, 97, 121]⟩, 50, 90)] : List Rd).any (hitB ⟨#[112, 97, 121]⟩ 89 95)) = false := by simp only [List.any_cons, List.any_nil, hitB, keyB_dec]; decide
theorem ex_f3 : (decide ((7 : Int) ≤ 7) && ([(⟨#[112, 97, 121]⟩, 100, 101), (⟨#[112, 97, 121]⟩, 50, 90)] : List Rd).any (hitB ⟨#[112, 97, 121]⟩ 90 100)) = false := by simp only [List.any_cons, List.any_nil, hitB, keyB_dec]; decide
theorem ex_f4 : (decide ((7 : Int) ≤ 7) && ([(⟨#[112, 97, 121]⟩, 100, 101), (⟨#[112, 97, 121]⟩, 50, 90)] : List Rd).any (hitB ⟨#[97, 103, 101]⟩ 89 95)) = false := by simp only [List.any_cons, List.any_nil, hitB, keyB_dec]; decide
theorem ex_c1 : (decide ((0 : Int) ≤ 0) && ([(⟨#[112, 101, 110, 115, 105, 111, 110]⟩, 100)] : List Pr).any (hitP ⟨#[112, 101, 110, 115, 105, 111, 110]⟩ 0 100)) = false := by simp only [List.any_cons, List.any_nil, hitP, keyB_dec]; decide
theorem ex_c2 : (decide ((0 : Int) ≤ 0) && ([(⟨#[112, 101, 110, 115, 105, 111, 110]⟩, 100)] : List Pr).any (hitP ⟨#[112, 101, 110, 115, 105, 111, 110]⟩ 100 101)) = true := by simp only [List.any_cons, List.any_nil, hitP, keyB_dec]; decide
theorem ex_r1 : (decide ((0 : Int) ≤ 0) && hasB ⟨#[116]⟩ [⟨#[116]⟩]) = true := by simp only [hasB, List.any_cons, List.any_nil, keyB_dec]; decide
theorem ex_r2 : (decide ((0 : Int) ≤ 0) && hasB ⟨#[117]⟩ [⟨#[116]⟩]) = false := by simp only [hasB, List.any_cons, List.any_nil, keyB_dec]; decide
set_option maxHeartbeats 3200000 in
set_option maxRecDepth 100000 in
theorem awake25 (w : World) : Calls Try.prog 14 #[] w fun e w' => e = .returned (.bool true) ∧ Ext w w' := by
  go_enter Try.func14, Try.ntmps14
  go_upto_region 3 with fail
  have s1 := (Sl.litE (w := w) (T := 84) encP_len [(⟨#[112, 101, 110, 115, 105, 111, 110]⟩, 100)] rfl)
  have s2 := (Sl.litE (w := w.alloc (.cells #[.string ⟨#[112, 101, 110, 115, 105, 111, 110]⟩, .int .i64 100] 84)) (T := 86) (b := w.heap.size + 1) encR_len [(⟨#[112, 97, 121]⟩, 100, 101), (⟨#[112, 97, 121]⟩, 50, 90)] (by simp))
  have s3 := (Sl.litE (w := (w.alloc (.cells #[.string ⟨#[112, 101, 110, 115, 105, 111, 110]⟩, .int .i64 100] 84)).alloc (.cells #[.string ⟨#[112, 97, 121]⟩, .int .i64 100, .int .i64 101, .string ⟨#[112, 97, 121]⟩, .int .i64 50, .int .i64 90] 86)) (T := 9) (b := w.heap.size + 1 + 1) encS_len [⟨#[116]⟩] (by simp))
  have e0 := Ext.refl w
  have e1 := e0.alloc (.cells #[.string ⟨#[112, 101, 110, 115, 105, 111, 110]⟩, .int .i64 100] 84)
  have e2 := e1.alloc (.cells #[.string ⟨#[112, 97, 121]⟩, .int .i64 100, .int .i64 101, .string ⟨#[112, 97, 121]⟩, .int .i64 50, .int .i64 90] 86)
  have e3 := e2.alloc (.cells #[.string ⟨#[116]⟩] 9)
  generalize hW3 : ((w.alloc (.cells #[.string ⟨#[112, 101, 110, 115, 105, 111, 110]⟩, .int .i64 100] 84)).alloc (.cells #[.string ⟨#[112, 97, 121]⟩, .int .i64 100, .int .i64 101, .string ⟨#[112, 97, 121]⟩, .int .i64 50, .int .i64 90] 86)).alloc (.cells #[.string ⟨#[116]⟩] 9) = W3 at e3 ⊢
  replace s2 : Sl 3 encR W3 (some ⟨w.heap.size + 1, 0, none⟩) [(⟨#[112, 97, 121]⟩, 100, 101), (⟨#[112, 97, 121]⟩, 50, 90)] := by rw [← hW3]; exact s2.ext ((Ext.refl _).alloc _)
  replace s1 : Sl 2 encP W3 (some ⟨w.heap.size, 0, none⟩) [(⟨#[112, 101, 110, 115, 105, 111, 110]⟩, 100)] := by rw [← hW3]; exact (s1.ext ((Ext.refl _).alloc _)).ext ((Ext.refl _).alloc _)
  have hz : W3.heap.size = w.heap.size + 1 + 1 + 1 := by rw [← hW3]; simp
  replace s3 : Sl 1 encS W3 (some ⟨w.heap.size + 1 + 1, 0, none⟩) [⟨#[116]⟩] := by rw [← hW3]; exact s3
  rw [← hz]
  clear e0 e1 e2 hW3 hz
  generalize w.heap.size + 1 + 1 = bT at s3 ⊢
  generalize w.heap.size + 1 = bF at s2 ⊢
  generalize w.heap.size = bP at s1 ⊢
  have hR := heap_ext (heap_new W3 (.cells #[.slice (some ⟨bP, 0, none⟩) 1 1, .slice (some ⟨bF, 0, none⟩) 2 2, .slice (some ⟨bT, 0, none⟩) 1 1] 26)) ((Ext.refl _).alloc (.cells #[.string ⟨#[112, 97, 121]⟩, .int .i64 89, .int .i64 95, .int .i64 7, .bool false, .int .u8 0, .bool false, .slice none 0 0, .bool false, .slice none 0 0, .int .i64 0] 35))
  have hK := heap_new (W3.alloc (.cells #[.slice (some ⟨bP, 0, none⟩) 1 1, .slice (some ⟨bF, 0, none⟩) 2 2, .slice (some ⟨bT, 0, none⟩) 1 1] 26)) (.cells #[.string ⟨#[112, 97, 121]⟩, .int .i64 89, .int .i64 95, .int .i64 7, .bool false, .int .u8 0, .bool false, .slice none 0 0, .bool false, .slice none 0 0, .int .i64 0] 35)
  have e5 := ((Ext.refl W3).alloc (.cells #[.slice (some ⟨bP, 0, none⟩) 1 1, .slice (some ⟨bF, 0, none⟩) 2 2, .slice (some ⟨bT, 0, none⟩) 1 1] 26)).alloc (.cells #[.string ⟨#[112, 97, 121]⟩, .int .i64 89, .int .i64 95, .int .i64 7, .bool false, .int .u8 0, .bool false, .slice none 0 0, .bool false, .slice none 0 0, .int .i64 0] 35)
  have hz : (W3.alloc (.cells #[.slice (some ⟨bP, 0, none⟩) 1 1, .slice (some ⟨bF, 0, none⟩) 2 2, .slice (some ⟨bT, 0, none⟩) 1 1] 26)).heap.size = W3.heap.size + 1 := by simp
  rw [hz] at hK
  generalize (W3.alloc (.cells #[.slice (some ⟨bP, 0, none⟩) 1 1, .slice (some ⟨bF, 0, none⟩) 2 2, .slice (some ⟨bT, 0, none⟩) 1 1] 26)).alloc (.cells #[.string ⟨#[112, 97, 121]⟩, .int .i64 89, .int .i64 95, .int .i64 7, .bool false, .int .u8 0, .bool false, .slice none 0 0, .bool false, .slice none 0 0, .int .i64 0] 35) = W5 at hR hK e5 ⊢
  generalize W3.heap.size + 1 = bK at hK ⊢
  generalize W3.heap.size = bR at hR ⊢
  replace s1 := s1.ext e5
  replace s2 := s2.ext e5
  replace s3 := s3.ext e5
  replace e3 := e3.trans e5
  clear e5 hz
  have hKl := lt_of hK
  have hRl := lt_of hR
  have k0 := cell_of (j := 0) hK
  have k1 := cell_of (j := 1) hK
  have k2 := cell_of (j := 2) hK
  have k3 := cell_of (j := 3) hK
  have k4 := cell_of (j := 4) hK
  have k5 := cell_of (j := 5) hK
  have k6 := cell_of (j := 6) hK
  have k7 := cell_of (j := 7) hK
  have k8 := cell_of (j := 8) hK
  have k9 := cell_of (j := 9) hK
  have k10 := cell_of (j := 10) hK
  simp only [List.getElem?_toArray, List.getElem?_cons_zero, List.getElem?_cons_succ] at k0 k1 k2 k3 k4 k5 k6 k7 k8 k9 k10
  have HK := Lib.hid hK
  have HR := Lib.hid hR
  clear hK hR
  have g1 := heap_new (W5.drew.alloc (.cells #[.string ⟨#[112, 97, 121]⟩, .int .i64 89, .int .i64 95, .int .i64 7, .bool false, .int .u8 0, .bool false, .slice none 0 0, .bool false, .slice none 0 0, .int .i64 0] 35)) (.cells #[.string ⟨#[112, 97, 121]⟩, .int .i64 89, .int .i64 95, .int .i64 7, .bool false, .int .u8 0, .bool false, .slice none 0 0, .bool false, .slice none 0 0, .int .i64 0] 35)
  have g0 := heap_ext (heap_new W5.drew (.cells #[.string ⟨#[112, 97, 121]⟩, .int .i64 89, .int .i64 95, .int .i64 7, .bool false, .int .u8 0, .bool false, .slice none 0 0, .bool false, .slice none 0 0, .int .i64 0] 35)) ((Ext.refl _).alloc (.cells #[.string ⟨#[112, 97, 121]⟩, .int .i64 89, .int .i64 95, .int .i64 7, .bool false, .int .u8 0, .bool false, .slice none 0 0, .bool false, .slice none 0 0, .int .i64 0] 35))
  have hsz : (W5.drew.alloc (.cells #[.string ⟨#[112, 97, 121]⟩, .int .i64 89, .int .i64 95, .int .i64 7, .bool false, .int .u8 0, .bool false, .slice none 0 0, .bool false, .slice none 0 0, .int .i64 0] 35)).heap.size = W5.heap.size + 1 := by simp
  have hsz0 : W5.drew.heap.size = W5.heap.size := rfl
  rw [hsz] at g1
  rw [hsz0] at g0
  have e6 : Ext W5 ((W5.drew.alloc (.cells #[.string ⟨#[112, 97, 121]⟩, .int .i64 89, .int .i64 95, .int .i64 7, .bool false, .int .u8 0, .bool false, .slice none 0 0, .bool false, .slice none 0 0, .int .i64 0] 35)).alloc (.cells #[.string ⟨#[112, 97, 121]⟩, .int .i64 89, .int .i64 95, .int .i64 7, .bool false, .int .u8 0, .bool false, .slice none 0 0, .bool false, .slice none 0 0, .int .i64 0] 35)) := ((Ext.refl W5).drew.alloc _).alloc _
  have G0 := Lib.hid g0
  have G1 := Lib.hid g1
  have E6 := Lib.hid e6
  clear g0 g1 e6 hsz hsz0
  go_cut [3, 4] (fun s3 s4 wx => ∃ G H, s3 = .pointer (some ⟨G, 0, none⟩) ∧ s4 = .pointer (some ⟨H, 0, none⟩) ∧ G ≠ H ∧ W5.heap.size ≤ G ∧ W5.heap.size ≤ H ∧ wx.heap[G]? = some (.cells #[.string ⟨#[112, 97, 121]⟩, .int .i64 89, .int .i64 95, .int .i64 7, .bool false, .int .u8 0, .bool false, .slice none 0 0, .bool false, .slice none 0 0, .int .i64 0] 35 (0, 0)) ∧ wx.heap[H]? = some (.cells #[.string ⟨#[112, 97, 121]⟩, .int .i64 89, .int .i64 95, .int .i64 7, .bool false, .int .u8 0, .bool false, .slice none 0 0, .bool false, .slice none 0 0, .int .i64 0] 35 (0, 0)) ∧ Ext W5 wx)
  case first => as_aux_lemma =>
    go_region
    all_goals
      go_wp2_with fail
      go_meet
      first
        | exact ⟨_, _, rfl, rfl, by omega, by omega, by omega, G0.out, G1.out, E6.out⟩
        | exact ⟨_, _, rfl, rfl, by omega, by omega, by omega, G1.out, G0.out, E6.out⟩
  case rest => as_aux_lemma =>
    obtain ⟨G, H, rfl, rfl, hGH, hGB, hHB, hG, hH, hx⟩ := hcut
    have q0 := lt_of hG
    have q1 := lt_of hH
    have q2 := frozen_of (j := 1) hG
    have q3 := frozen_of (j := 2) hG
    have q4 := frozen_of (j := 0) hH
    have q5 := cell_of (j := 1) hG
    have q6 := cell_of (j := 2) hG
    have q7 := cell_of (j := 0) hH
    simp only [List.getElem?_toArray, List.getElem?_cons_zero, List.getElem?_cons_succ] at q5 q6 q7
    have HG := Lib.hid hG
    have HH := Lib.hid hH
    clear hG hH k0 k1 k2 k3 k4 k5 k6 k7 k8 k9 k10
    go_upto_region 5 with fail
    have h1 := heap_same (j := 2) (u := .int .i64 100) (heap_same (j := 1) (u := .int .i64 90) HG.out)
    have h2 := heap_other (n := H) (j := 0) (u := .string ⟨#[97, 103, 101]⟩) h1 hGH
    have h3 := heap_same (j := 0) (u := .string ⟨#[97, 103, 101]⟩) (heap_other (n := G) (j := 2) (u := .int .i64 100) (heap_other (n := G) (j := 1) (u := .int .i64 90) HH.out (Ne.symm hGH)) (Ne.symm hGH))
    have hxs := ((hx.setCell (p := ⟨G, 1, none⟩) hGB (.int .i64 90)).setCell (p := ⟨G, 2, none⟩) hGB (.int .i64 100)).setCell (p := ⟨H, 0, none⟩) hHB (.string ⟨#[97, 103, 101]⟩)
    have hz : (((wc.setCell ⟨G, 1, none⟩ (.int .i64 90)).setCell ⟨G, 2, none⟩ (.int .i64 100)).setCell ⟨H, 0, none⟩ (.string ⟨#[97, 103, 101]⟩)).heap.size = wc.heap.size := by simp
    generalize ((wc.setCell ⟨G, 1, none⟩ (.int .i64 90)).setCell ⟨G, 2, none⟩ (.int .i64 100)).setCell ⟨H, 0, none⟩ (.string ⟨#[97, 103, 101]⟩) = W6 at h2 h3 hxs hz ⊢
    clear hz
    go_cut [5] (fun s5 wx => ∃ bC, s5 = .pointer (some ⟨bC, 0, none⟩) ∧ wx.heap[bC]? = some (.cells #[.string ⟨#[112, 101, 110, 115, 105, 111, 110]⟩, .string ⟨#[]⟩, .int .i64 0, .int .i64 100, .int .i64 0, .bool false, .int .u8 0, .string ⟨#[]⟩, .int .u8 0, .bool false, .slice none 0 0, .bool false, .slice none 0 0, .int .i64 0, .slice none 0 0, .int .u8 0, .string ⟨#[]⟩, .int .u8 0, .bool false, .slice none 0 0, .bool false, .slice none 0 0, .int .i64 0, .slice none 0 0] 40 (0, 0)) ∧ Ext W6 wx)
    case first => as_aux_lemma =>
      go_wp2_with (refine wpList_store_row rfl 40 _ _ rfl _ _ rfl rfl 40 _ (heap_new W6 _) (by kernel_rfl) (by rfl) (by simp [Value.oneCell']) ?_)
      go_meet
      exact ⟨_, rfl, setRow_heap _ _ _ _ _ _ (heap_new W6 _), setRow_ext W6 _ _⟩
    case rest => as_aux_lemma =>
    obtain ⟨bC, rfl, hC, hx7⟩ := hcut
    go_upto_region 6 with fail
    obtain ⟨W7, rfl⟩ : ∃ W7, W7 = wc := ⟨_, rfl⟩
    go_cut [6] (fun s6 wx => ∃ bD, s6 = .pointer (some ⟨bD, 0, none⟩) ∧ wx.heap[bD]? = some (.cells #[.string ⟨#[112, 101, 110, 115, 105, 111, 110]⟩, .string ⟨#[]⟩, .int .i64 100, .int .i64 101, .int .i64 0, .bool false, .int .u8 0, .string ⟨#[]⟩, .int .u8 0, .bool false, .slice none 0 0, .bool false, .slice none 0 0, .int .i64 0, .slice none 0 0, .int .u8 0, .string ⟨#[]⟩, .int .u8 0, .bool false, .slice none 0 0, .bool false, .slice none 0 0, .int .i64 0, .slice none 0 0] 40 (0, 0)) ∧ Ext W7 wx)
    case first => as_aux_lemma =>
      go_wp2_with (refine wpList_store_row rfl 40 _ _ rfl _ _ rfl rfl 40 _ (heap_new W7 _) (by kernel_rfl) (by rfl) (by simp [Value.oneCell']) ?_)
      go_meet
      exact ⟨_, rfl, setRow_heap _ _ _ _ _ _ (heap_new W7 _), setRow_ext W7 _ _⟩
    case rest => as_aux_lemma =>
    obtain ⟨bD, rfl, hD, hx8a⟩ := hcut
    obtain ⟨W8, rfl⟩ : ∃ W8, W8 = wc := ⟨_, rfl⟩
    have e8 := hx7.trans hx8a
    have HD := Lib.hid hD
    have HC := Lib.hid (heap_ext hC hx8a)
    have HG2 : Hid (W8.heap[G]? = some (.cells #[.string ⟨#[112, 97, 121]⟩, .int .i64 90, .int .i64 100, .int .i64 7, .bool false, .int .u8 0, .bool false, .slice none 0 0, .bool false, .slice none 0 0, .int .i64 0] 35 (0, 0))) := heap_ext h2 e8
    have HH2 : Hid (W8.heap[H]? = some (.cells #[.string ⟨#[97, 103, 101]⟩, .int .i64 89, .int .i64 95, .int .i64 7, .bool false, .int .u8 0, .bool false, .slice none 0 0, .bool false, .slice none 0 0, .int .i64 0] 35 (0, 0))) := heap_ext h3 e8
    have hx8 := hxs.trans e8
    have HR8 := Lib.hid (heap_ext HR.out hx8)
    have HK8 := Lib.hid (heap_ext HK.out hx8)
    replace s1 := s1.ext hx8
    replace s2 := s2.ext hx8
    replace s3 := s3.ext hx8
    replace e3 := e3.trans hx8
    clear q0 q1 q2 q3 q4 q5 q6 q7 h1 h2 h3 hxs e8 hx8 hx HG HH HR HK hKl hRl G0 G1 E6 hGB hHB hC hD hx7 hx8a
    obtain ⟨r0, r1, r2⟩ := cells3 HR8.out
    have rl := lt_of HR8.out
    go_wp2_with fail
    refine (days25_any [(⟨#[112, 97, 121]⟩, 100, 101), (⟨#[112, 97, 121]⟩, 50, 90)] _ _ _ _ _ _ _ _ ⟨#[112, 97, 121]⟩ _ s2 (by simp)).mono ?_
    rintro e wN ⟨v, he, hv, hx⟩
    rw [ex_v] at hv
    rw [ex_e] at he
    subst he
    clear r0 r1 r2 rl
    obtain ⟨pv, cv, rfl, hsv⟩ := hv.read enc2_len
    clear hv
    obtain ⟨w1, rfl⟩ : ∃ w1, w1 = wN := ⟨_, rfl⟩
    have hx1 := Lib.hid hx
    replace s1 := s1.ext hx
    replace s2 := s2.ext hx
    replace s3 := s3.ext hx
    replace HR8 := Lib.hid (heap_ext HR8.out hx)
    replace HK8 := Lib.hid (heap_ext HK8.out hx)
    replace HG2 := Lib.hid (heap_ext HG2.out hx)
    replace HH2 := Lib.hid (heap_ext HH2.out hx)
    replace HC := Lib.hid (heap_ext HC.out hx)
    replace HD := Lib.hid (heap_ext HD.out hx)
    replace hx : Ext w1 w1 := Ext.refl _
    obtain ⟨r0, r1, r2⟩ := cells3 (heap_ext HR8.out hx)
    have rl := lt_of (heap_ext HR8.out hx)
    obtain ⟨k0, k1, k2, k3, k4, k5, k6, k7, k8, k9, k10⟩ := cells11 (heap_ext HK8.out hx)
    have kl := lt_of (heap_ext HK8.out hx)
    go_wp2_with fail
    refine (fact_any [(⟨#[112, 97, 121]⟩, 100, 101), (⟨#[112, 97, 121]⟩, 50, 90)] _ _ _ _ _ _ _ _ ⟨#[112, 97, 121]⟩ 89 95 7 7 _ _ _ _ _ _ _ _ (s2.ext hx) (by simp)).mono ?_
    clear k0 k1 k2 k3 k4 k5 k6 k7 k8 k9 k10 kl
    rintro e wN ⟨he, hN⟩
    rw [ex_f1] at he
    subst he
    replace hx := hx.trans hN
    clear hN r0 r1 r2 rl
    as_aux_lemma =>
    obtain ⟨r0, r1, r2⟩ := cells3 (heap_ext HR8.out hx)
    have rl := lt_of (heap_ext HR8.out hx)
    obtain ⟨k0, k1, k2, k3, k4, k5, k6, k7, k8, k9, k10⟩ := cells11 (heap_ext HK8.out hx)
    have kl := lt_of (heap_ext HK8.out hx)
    go_wp2_with fail
    refine (fact_any [(⟨#[112, 97, 121]⟩, 100, 101), (⟨#[112, 97, 121]⟩, 50, 90)] _ _ _ _ _ _ _ _ ⟨#[112, 97, 121]⟩ 89 95 7 6 _ _ _ _ _ _ _ _ (s2.ext hx) (by simp)).mono ?_
    clear k0 k1 k2 k3 k4 k5 k6 k7 k8 k9 k10 kl
    rintro e wN ⟨he, hN⟩
    rw [ex_f2] at he
    subst he
    replace hx := hx.trans hN
    clear hN r0 r1 r2 rl
    as_aux_lemma =>
    obtain ⟨r0, r1, r2⟩ := cells3 (heap_ext HR8.out hx)
    have rl := lt_of (heap_ext HR8.out hx)
    obtain ⟨k0, k1, k2, k3, k4, k5, k6, k7, k8, k9, k10⟩ := cells11 (heap_ext HG2.out hx)
    have kl := lt_of (heap_ext HG2.out hx)
    go_wp2_with fail
    refine (fact_any [(⟨#[112, 97, 121]⟩, 100, 101), (⟨#[112, 97, 121]⟩, 50, 90)] _ _ _ _ _ _ _ _ ⟨#[112, 97, 121]⟩ 90 100 7 7 _ _ _ _ _ _ _ _ (s2.ext hx) (by simp)).mono ?_
    clear k0 k1 k2 k3 k4 k5 k6 k7 k8 k9 k10 kl
    rintro e wN ⟨he, hN⟩
    rw [ex_f3] at he
    subst he
    replace hx := hx.trans hN
    clear hN r0 r1 r2 rl
    as_aux_lemma =>
    obtain ⟨r0, r1, r2⟩ := cells3 (heap_ext HR8.out hx)
    have rl := lt_of (heap_ext HR8.out hx)
    obtain ⟨k0, k1, k2, k3, k4, k5, k6, k7, k8, k9, k10⟩ := cells11 (heap_ext HH2.out hx)
    have kl := lt_of (heap_ext HH2.out hx)
    go_wp2_with fail
    refine (fact_any [(⟨#[112, 97, 121]⟩, 100, 101), (⟨#[112, 97, 121]⟩, 50, 90)] _ _ _ _ _ _ _ _ ⟨#[97, 103, 101]⟩ 89 95 7 7 _ _ _ _ _ _ _ _ (s2.ext hx) (by simp)).mono ?_
    clear k0 k1 k2 k3 k4 k5 k6 k7 k8 k9 k10 kl
    rintro e wN ⟨he, hN⟩
    rw [ex_f4] at he
    subst he
    replace hx := hx.trans hN
    clear hN r0 r1 r2 rl
    as_aux_lemma =>
    obtain ⟨r0, r1, r2⟩ := cells3 (heap_ext HR8.out hx)
    have rl := lt_of (heap_ext HR8.out hx)
    have hcl := heap_ext HC.out hx
    go_wp2_with (refine wpList_load_row_g (by rfl) 40 _ rfl _ rfl 40 _ _ _ hcl Try.underlying40 rfl (by kernel_rfl) ?_)
    refine (clause_any [(⟨#[112, 101, 110, 115, 105, 111, 110]⟩, 100)] _ _ _ _ _ _ _ _ ⟨#[112, 101, 110, 115, 105, 111, 110]⟩ 0 100 0 0 _ _ _ _ _ _ _ _ _ _ _ _ _ _ _ _ _ _ _ _ _ (s1.ext hx) (by simp)).mono ?_
    clear hcl
    rintro e wN ⟨he, hN⟩
    rw [ex_c1] at he
    subst he
    replace hx := hx.trans hN
    clear hN r0 r1 r2 rl
    as_aux_lemma =>
    obtain ⟨r0, r1, r2⟩ := cells3 (heap_ext HR8.out hx)
    have rl := lt_of (heap_ext HR8.out hx)
    have hcl := heap_ext HD.out hx
    go_wp2_with (refine wpList_load_row_g (by rfl) 40 _ rfl _ rfl 40 _ _ _ hcl Try.underlying40 rfl (by kernel_rfl) ?_)
    refine (clause_any [(⟨#[112, 101, 110, 115, 105, 111, 110]⟩, 100)] _ _ _ _ _ _ _ _ ⟨#[112, 101, 110, 115, 105, 111, 110]⟩ 100 101 0 0 _ _ _ _ _ _ _ _ _ _ _ _ _ _ _ _ _ _ _ _ _ (s1.ext hx) (by simp)).mono ?_
    clear hcl
    rintro e wN ⟨he, hN⟩
    rw [ex_c2] at he
    subst he
    replace hx := hx.trans hN
    clear hN r0 r1 r2 rl
    as_aux_lemma =>
    obtain ⟨r0, r1, r2⟩ := cells3 (heap_ext HR8.out hx)
    have rl := lt_of (heap_ext HR8.out hx)
    go_wp2_with fail
    refine (row_any [⟨#[116]⟩] _ _ _ _ _ _ _ _ ⟨#[116]⟩ 0 0 _ _ _ _ _ _ _ (s3.ext hx) (by simp)).mono ?_
    rintro e wN ⟨he, hN⟩
    rw [ex_r1] at he
    subst he
    replace hx := hx.trans hN
    clear hN r0 r1 r2 rl
    as_aux_lemma =>
    obtain ⟨r0, r1, r2⟩ := cells3 (heap_ext HR8.out hx)
    have rl := lt_of (heap_ext HR8.out hx)
    go_wp2_with fail
    refine (row_any [⟨#[116]⟩] _ _ _ _ _ _ _ _ ⟨#[117]⟩ 0 0 _ _ _ _ _ _ _ (s3.ext hx) (by simp)).mono ?_
    rintro e wN ⟨he, hN⟩
    rw [ex_r2] at he
    subst he
    replace hx := hx.trans hN
    clear hN r0 r1 r2 rl
    as_aux_lemma =>
    have hsp := Sl.lit (w := wN) (T := 65) [(50, 90), (100, 101)] rfl
    have hxa := (Ext.refl wN).alloc (.cells #[.int .i64 50, .int .i64 90, .int .i64 100, .int .i64 101] 65)
    go_wp2_with fail
    refine (spans25_any [(50, 90), (100, 101)] pv _ cv 2 _ ((hsv.ext hx).ext hxa) hsp (by simp)).mono ?_
    rintro e wY ⟨rfl, hN⟩
    go_wp2_with fail
    go_ret
    exact ⟨rfl, ((e3.trans (hx1.out.trans hx)).trans hxa).trans hN⟩
end Go.Proofs.Ytbjhehmglahmpaa
