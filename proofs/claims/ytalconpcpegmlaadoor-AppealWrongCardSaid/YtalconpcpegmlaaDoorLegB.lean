import Derived.Test.YtalconpcpegmlaaDoorLegA
/- annuitantkit.SameCase, SameCases, Pick and annuitantlaw40.stays, walked. -/
namespace Go.Proofs.YtalconpcpegmlaaDoor
open Go.RowKit

theorem sameB_refl (a : List Sp) : sameB a a = true := (sameB_iff a a).2 rfl
set_option maxHeartbeats 1600000 in
set_option maxRecDepth 100000 in
theorem sameCase_c (c : Cs) (pa pb : Option Addr) (ca cb : Nat) (w : World) (ha : Sl 2 enc2 w pa c.held) (hb : Sl 2 enc2 w pb c.held) (hm : c.held.length ≤ 1000000) :
    Calls Tryd.prog 33 #[.agg #[.bool c.el, .int .u8 c.st, .int .i64 c.op, .int .i64 c.dy, .int .i64 c.ch, .int .i64 c.lv, .int .i64 c.due, .bool c.hd, .int .i64 c.sn, .slice pa c.held.length ca], .agg #[.bool c.el, .int .u8 c.st, .int .i64 c.op, .int .i64 c.dy, .int .i64 c.ch, .int .i64 c.lv, .int .i64 c.due, .bool c.hd, .int .i64 c.sn, .slice pb c.held.length cb]] w fun e w' => e = .returned (.bool true) ∧ Ext w w' := by
  have hx := ((Ext.refl w).alloc (.cells #[.bool c.el, .int .u8 c.st, .int .i64 c.op, .int .i64 c.dy, .int .i64 c.ch, .int .i64 c.lv, .int .i64 c.due, .bool c.hd, .int .i64 c.sn, .slice pa c.held.length ca] 39)).alloc (.cells #[.bool c.el, .int .u8 c.st, .int .i64 c.op, .int .i64 c.dy, .int .i64 c.ch, .int .i64 c.lv, .int .i64 c.due, .bool c.hd, .int .i64 c.sn, .slice pb c.held.length cb] 39)
  go_enter Tryd.func33, Tryd.ntmps33
  go_wp2_with fail
  refine (same_any c.held c.held pa pb ca cb _ (ha.ext hx) (hb.ext hx) (Nat.le_trans hm (by decide))).mono ?_
  rintro e w1 ⟨he, hx1⟩
  rw [sameB_refl] at he
  subst he
  go_wp2_with fail
  go_ret
  exact ⟨rfl, hx.trans hx1⟩
set_option maxHeartbeats 1600000 in
set_option maxRecDepth 100000 in
theorem stays_c (c : Cs) (pa pb : Option Addr) (ca cb : Nat) (w : World) (ha : Sl 2 enc2 w pa c.held) (hb : Sl 2 enc2 w pb c.held) (hm : c.held.length ≤ 1000000) :
    Calls Tryd.prog 17 #[.agg #[.bool c.el, .int .u8 c.st, .int .i64 c.op, .int .i64 c.dy, .int .i64 c.ch, .int .i64 c.lv, .int .i64 c.due, .bool c.hd, .int .i64 c.sn, .slice pa c.held.length ca], .agg #[.bool c.el, .int .u8 c.st, .int .i64 c.op, .int .i64 c.dy, .int .i64 c.ch, .int .i64 c.lv, .int .i64 c.due, .bool c.hd, .int .i64 c.sn, .slice pb c.held.length cb]] w fun e w' => e = .returned (.bool true) ∧ Ext w w' := by
  have hx := ((Ext.refl w).alloc (.cells #[.bool c.el, .int .u8 c.st, .int .i64 c.op, .int .i64 c.dy, .int .i64 c.ch, .int .i64 c.lv, .int .i64 c.due, .bool c.hd, .int .i64 c.sn, .slice pa c.held.length ca] 39)).alloc (.cells #[.bool c.el, .int .u8 c.st, .int .i64 c.op, .int .i64 c.dy, .int .i64 c.ch, .int .i64 c.lv, .int .i64 c.due, .bool c.hd, .int .i64 c.sn, .slice pb c.held.length cb] 39)
  go_enter Tryd.func17, Tryd.ntmps17
  go_wp2_with fail
  refine (sameCase_c c pa pb ca cb _ (ha.ext hx) (hb.ext hx) hm).mono ?_
  rintro e w1 ⟨rfl, hx1⟩
  go_wp2_with fail
  go_ret
  exact ⟨rfl, hx.trans hx1⟩
theorem Sl.atC {w : World} {p : Option Addr} {l : List Cv} (h : Sl 10 encC w p l) (k : Nat) (hk : k < l.length) :
    ∃ b off c pc cc, p = some ⟨b, off, none⟩ ∧ b < w.heap.size ∧ (w.cell? ⟨b, off + k * 10, none⟩ = some (.bool c.el) ∧ w.cell? ⟨b, off + k * 10 + 1, none⟩ = some (.int .u8 c.st) ∧ w.cell? ⟨b, off + k * 10 + 2, none⟩ = some (.int .i64 c.op) ∧ w.cell? ⟨b, off + k * 10 + 3, none⟩ = some (.int .i64 c.dy) ∧ w.cell? ⟨b, off + k * 10 + 4, none⟩ = some (.int .i64 c.ch) ∧ w.cell? ⟨b, off + k * 10 + 5, none⟩ = some (.int .i64 c.lv) ∧ w.cell? ⟨b, off + k * 10 + 6, none⟩ = some (.int .i64 c.due) ∧ w.cell? ⟨b, off + k * 10 + 7, none⟩ = some (.bool c.hd) ∧ w.cell? ⟨b, off + k * 10 + 8, none⟩ = some (.int .i64 c.sn) ∧ w.cell? ⟨b, off + k * 10 + 9, none⟩ = some (.slice pc c.held.length cc)) ∧ Hid (l[k] = (c, pc, cc)) := by
  obtain ⟨b, off, e, hb, hc⟩ := h k hk
  exact ⟨b, off, l[k].1, l[k].2.1, l[k].2.2, e, hb, ⟨hc 0 _ rfl, hc 1 _ rfl, hc 2 _ rfl, hc 3 _ rfl, hc 4 _ rfl, hc 5 _ rfl, hc 6 _ rfl, hc 7 _ rfl, hc 8 _ rfl, hc 9 _ rfl⟩, rfl⟩
/-- Cases that read as a list, with their held days. -/
structure Csl (w : World) (p : Option Addr) (xs : List Cv) : Prop where
  sl : Sl 10 encC w p xs
  held : ∀ x ∈ xs, Sl 2 enc2 w x.2.1 x.1.held
  small : ∀ x ∈ xs, x.1.held.length ≤ 1000000
theorem Csl.ext {w w' : World} {p : Option Addr} {xs : List Cv} (h : Csl w p xs) (hx : Ext w w') : Csl w' p xs := ⟨h.sl.ext hx, fun x hx' => (h.held x hx').ext hx, h.small⟩
set_option maxHeartbeats 1600000 in
set_option maxRecDepth 100000 in
theorem sameCases_c (xs ys : List Cv) (pa pb : Option Addr) (ca cb : Nat) (w : World) (ha : Csl w pa xs) (hb : Csl w pb ys) (hm : xs.length ≤ 1000000) (he : xs.map (·.1) = ys.map (·.1)) :
    Calls Tryd.prog 23 #[.slice pa xs.length ca, .slice pb ys.length cb] w fun e w' => e = .returned (.bool true) ∧ Ext w w' := by
  have hlen : ys.length = xs.length := by have := congrArg List.length he; simpa using this.symm
  rw [hlen]
  have HE := Lib.hid he
  have HLEN := Lib.hid hlen
  have HA := Lib.hid ha
  have HB := Lib.hid hb
  clear he hlen ha hb
  go_enter Tryd.func23, Tryd.ntmps23
  go_wp2_with fail
  go_loopw [5] (fun i wr => ∃ k : Nat, k ≤ xs.length ∧ i = .int .i64 k ∧ Ext w wr) (fun i _ => xs.length - (intOf i).toNat)
  case atStart => exact ⟨0, Nat.zero_le _, rfl, Ext.refl _⟩
  case round =>
    obtain ⟨k, hkl, rfl, hxr⟩ := hrel
    by_cases hlt : k < xs.length
    · have hlt1 : (k : Int) < (xs.length : Int) := by omega
      have hlty : k < ys.length := by have := HLEN.out; omega
      obtain ⟨q1, o1, c, p1, cc1, rfl, hl1, ⟨a0, a1, a2, a3, a4, a5, a6, a7, a8, a9⟩, HX⟩ := (HA.out.sl.ext hxr).atC k hlt
      obtain ⟨q2, o2, c', p2, cc2, rfl, hl2, ⟨b0, b1, b2, b3, b4, b5, b6, b7, b8, b9⟩, HY⟩ := (HB.out.sl.ext hxr).atC k hlty
      have hcc : c' = c := by
        have h1 : (xs.map (·.1))[k]? = some c := by rw [List.getElem?_map, List.getElem?_eq_getElem hlt, HX.out]; rfl
        have h2 : (ys.map (·.1))[k]? = some c' := by rw [List.getElem?_map, List.getElem?_eq_getElem hlty, HY.out]; rfl
        rw [HE.out, h2] at h1
        exact Option.some.inj h1
      subst hcc
      rename Cs => c
      have h1 : Sl 2 enc2 wr p1 c.held := by have := (HA.out.held _ (List.getElem_mem hlt)).ext hxr; rw [HX.out] at this; exact this
      have h2 : Sl 2 enc2 wr p2 c.held := by have := (HB.out.held _ (List.getElem_mem hlty)).ext hxr; rw [HY.out] at this; exact this
      have h3 : c.held.length ≤ 1000000 := by have := HA.out.small _ (List.getElem_mem hlt); rw [HX.out] at this; exact this
      go_wp2_with fail
      go_region_held3 (fun w' => (w'.cell? ⟨q1, o1 + k * 10, none⟩ = some (.bool c.el) ∧ w'.cell? ⟨q1, o1 + k * 10 + 1, none⟩ = some (.int .u8 c.st) ∧ w'.cell? ⟨q1, o1 + k * 10 + 2, none⟩ = some (.int .i64 c.op) ∧ w'.cell? ⟨q1, o1 + k * 10 + 3, none⟩ = some (.int .i64 c.dy) ∧ w'.cell? ⟨q1, o1 + k * 10 + 4, none⟩ = some (.int .i64 c.ch) ∧ w'.cell? ⟨q1, o1 + k * 10 + 5, none⟩ = some (.int .i64 c.lv) ∧ w'.cell? ⟨q1, o1 + k * 10 + 6, none⟩ = some (.int .i64 c.due) ∧ w'.cell? ⟨q1, o1 + k * 10 + 7, none⟩ = some (.bool c.hd) ∧ w'.cell? ⟨q1, o1 + k * 10 + 8, none⟩ = some (.int .i64 c.sn) ∧ w'.cell? ⟨q1, o1 + k * 10 + 9, none⟩ = some (.slice p1 c.held.length cc1)) ∧ w'.cell? ⟨q2, o2 + k * 10, none⟩ = some (.bool c.el) ∧ w'.cell? ⟨q2, o2 + k * 10 + 1, none⟩ = some (.int .u8 c.st) ∧ w'.cell? ⟨q2, o2 + k * 10 + 2, none⟩ = some (.int .i64 c.op) ∧ w'.cell? ⟨q2, o2 + k * 10 + 3, none⟩ = some (.int .i64 c.dy) ∧ w'.cell? ⟨q2, o2 + k * 10 + 4, none⟩ = some (.int .i64 c.ch) ∧ w'.cell? ⟨q2, o2 + k * 10 + 5, none⟩ = some (.int .i64 c.lv) ∧ w'.cell? ⟨q2, o2 + k * 10 + 6, none⟩ = some (.int .i64 c.due) ∧ w'.cell? ⟨q2, o2 + k * 10 + 7, none⟩ = some (.bool c.hd) ∧ w'.cell? ⟨q2, o2 + k * 10 + 8, none⟩ = some (.int .i64 c.sn) ∧ w'.cell? ⟨q2, o2 + k * 10 + 9, none⟩ = some (.slice p2 c.held.length cc2)) (go_keep)
        (first
          | (go_at_call 33; refine (sameCase_c c p1 p2 cc1 cc2 _ (h1.ext ((Ext.refl wr).drew)) (h2.ext ((Ext.refl wr).drew)) h3).mono ?_; rintro e w2 ⟨rfl, hx2⟩; have X1 : Ext wr w2 := ((Ext.refl wr).drew).trans hx2; clear hx2; have d0 := (X1.cells.1 q1 _ hl1).trans a0; have d1 := (X1.cells.1 q1 _ hl1).trans a1; have d2 := (X1.cells.1 q1 _ hl1).trans a2; have d3 := (X1.cells.1 q1 _ hl1).trans a3; have d4 := (X1.cells.1 q1 _ hl1).trans a4; have d5 := (X1.cells.1 q1 _ hl1).trans a5; have d6 := (X1.cells.1 q1 _ hl1).trans a6; have d7 := (X1.cells.1 q1 _ hl1).trans a7; have d8 := (X1.cells.1 q1 _ hl1).trans a8; have d9 := (X1.cells.1 q1 _ hl1).trans a9; have e0 := (X1.cells.1 q2 _ hl2).trans b0; have e1 := (X1.cells.1 q2 _ hl2).trans b1; have e2 := (X1.cells.1 q2 _ hl2).trans b2; have e3 := (X1.cells.1 q2 _ hl2).trans b3; have e4 := (X1.cells.1 q2 _ hl2).trans b4; have e5 := (X1.cells.1 q2 _ hl2).trans b5; have e6 := (X1.cells.1 q2 _ hl2).trans b6; have e7 := (X1.cells.1 q2 _ hl2).trans b7; have e8 := (X1.cells.1 q2 _ hl2).trans b8; have e9 := (X1.cells.1 q2 _ hl2).trans b9)
          | fail)
      all_goals
        go_wp2_with fail
        go_roundw
        case rel => exact ⟨k + 1, by omega, by go_num, hxr.trans X1⟩
        case measure => simp [intOf]; omega
    · have hlt1 : ¬ (k : Int) < (xs.length : Int) := by omega
      go_wp2_with fail
      go_ret
      exact ⟨rfl, hxr⟩
def pickP (x n : Int) : Int := if n < 1 then 0 else if x.tmod n < 0 then x.tmod n + n else x.tmod n
theorem pickP_bd (x : Int) {n : Int} (h : 1 ≤ n) : 0 ≤ pickP x n ∧ pickP x n < n := by
  unfold pickP
  rw [if_neg (by omega)]
  have h1 := Int.tmod_lt_of_pos x (show 0 < n by omega)
  have h2 : -n < x.tmod n := by
    by_cases h : 0 ≤ x
    · rw [Int.tmod_eq_emod_of_nonneg h]
      have := Int.emod_nonneg x (show n ≠ 0 by omega)
      omega
    · have e : x.tmod n = -((-x).tmod n) := by rw [Int.neg_tmod, Int.neg_neg]
      rw [e, Int.tmod_eq_emod_of_nonneg (by omega)]
      have := Int.emod_lt_of_pos (-x) (show 0 < n by omega)
      omega
  split <;> omega
end Go.Proofs.YtalconpcpegmlaaDoor
