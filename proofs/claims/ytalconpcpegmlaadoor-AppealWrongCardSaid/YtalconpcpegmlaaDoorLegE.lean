import Derived.Test.YtalconpcpegmlaaDoorLegD
/- annuitantlaw40.awake, walked: it returns true. -/
namespace Go.Proofs.YtalconpcpegmlaaDoor
open Go.RowKit

theorem Sl.preA {α : Type} {k : Nat} {enc : α → List Value} {w : World} {p : Option Addr} {xs ys : List α} (h : Sl k enc w p (xs ++ ys)) : Sl k enc w p xs := fun j hj => by
  obtain ⟨b, off, e, hb, hc⟩ := h j (by rw [List.length_append]; omega)
  exact ⟨b, off, e, hb, fun i u hu => hc i u (by rw [List.getElem_append_left hj]; exact hu)⟩
theorem exL_kinds : ∀ f ∈ exL, 0 ≤ f.kind ∧ f.kind < 256 := by decide
theorem map_one {xs : List Cv} {c : Cs} (h : xs.map (·.1) = [c]) : ∃ pc cc, xs = [(c, pc, cc)] := by
  match xs, h with
  | [(c', pc, cc)], h => simp only [List.map_cons, List.map_nil, List.cons.injEq, and_true] at h; subst h; exact ⟨pc, cc, rfl⟩
theorem map_two {xs : List Cv} {c d : Cs} (h : xs.map (·.1) = [c, d]) : ∃ pc cc pd cd, xs = [(c, pc, cc), (d, pd, cd)] := by
  match xs, h with
  | [(c', pc, cc), (d', pd, cd)], h => simp only [List.map_cons, List.map_nil, List.cons.injEq, and_true] at h; obtain ⟨rfl, rfl⟩ := h; exact ⟨pc, cc, pd, cd, rfl⟩
theorem lt_of_cell {w : World} {b j : Nat} {v : Value} (h : w.cell? ⟨b, j, none⟩ = some v) : b < w.heap.size := Nat.lt_of_not_le fun h0 => by
  have h9 : w.heap[b]? = none := Array.getElem?_eq_none h0
  simp [World.cell?, h9] at h
theorem new3_0 (w : World) (a b c : Obj) : (((w.alloc a).alloc b).alloc c).drew.heap[w.heap.size]? = some a := heap_ext (heap_new w a) ((((Ext.refl _).alloc b).alloc c).drew)
theorem new3_1 (w : World) (a b c : Obj) : (((w.alloc a).alloc b).alloc c).drew.heap[w.heap.size + 1]? = some b := heap_ext (heap_new1 w a b) (((Ext.refl _).alloc c).drew)
theorem new3_2 (w : World) (a b c : Obj) : (((w.alloc a).alloc b).alloc c).drew.heap[w.heap.size + 1 + 1]? = some c := heap_ext (heap_new2 w a b c) ((Ext.refl _).drew)
theorem keep_cell {w0 w : World} {b j : Nat} {v : Value} (h : w0.cell? ⟨b, j, none⟩ = some v) (hx : Ext w0 w) : w.cell? ⟨b, j, none⟩ = some v := (hx.cells.1 _ _ (lt_of_cell h)).trans h
theorem same_to (l : List Sp) (x : Sp) (p : Option Addr) (g c d : Nat) (w : World) (hl : Sl 2 enc2 w p l) (hg : Sl 2 enc2 w (some ⟨g, 0, none⟩) [x]) (he : l = [x]) :
    Calls Tryd.prog 30 #[.slice p l.length c, .slice (some ⟨g, 0, none⟩) 1 d] w fun e w' => e = .returned (.bool true) ∧ Ext w w' :=
  (same_any l [x] p (some ⟨g, 0, none⟩) c d w hl hg (by rw [he]; simp)).mono fun e w' ⟨h1, h2⟩ => ⟨by rw [h1, he, sameB_refl], h2⟩
theorem held_ex (day : Int) (x : Bool) (h : heldR exL 1 day = x) (g : Nat) (m : Option Nat) (w : World) (hl : Sl 6 encF w (some ⟨g, 0, none⟩) exL) (hr : RowsAt m w) :
    Calls Tryd.prog 21 #[.slice (some ⟨g, 0, none⟩) 8 8, .int .i64 1, .int .i64 day] w fun e w' => e = .returned (.bool x) ∧ Ext w w' := by
  have := held_c exL 1 day (some ⟨g, 0, none⟩) 8 m w hl (by decide) hr exL_kinds
  rw [h] at this
  exact this
def exR : List Int := [0, 0, 0, 0, 0, 402, 0, 401]
set_option maxHeartbeats 9600000 in
set_option maxRecDepth 100000 in
theorem awake_c (m : Option Nat) (w : World) (hr : RowsAt m w) : Calls Tryd.prog 12 #[] w fun e w' => e = .returned (.bool true) ∧ Ext w w' := by
  have HR := Lib.hid hr
  clear hr
  go_enter Tryd.func12, Tryd.ntmps12
  go_wp2_with fail
  refine (example_c _).mono ?_
  rintro e w1 ⟨g, rfl, hl, x1⟩
  go_wp2_with fail
  refine (run_c exL (some ⟨g, 0, none⟩) 8 m _ hl (by decide) (HR.out.ext x1) exL_kinds).mono ?_
  rintro e w2 ⟨v, rfl, ho, x2⟩
  rw [ex_run] at ho
  obtain ⟨pr, cr, rfl, hsr⟩ := ho.read encE_len
  have hpr : ∃ gr, pr = some ⟨gr, 0, none⟩ := by
    rcases ho.2 with ⟨h, _⟩ | ⟨g', cap', cur, h, _⟩
    · cases h
    · simp only [Value.slice.injEq] at h; exact ⟨g', h.1⟩
  obtain ⟨gr, rfl⟩ := hpr
  clear ho
  go_wp2_with fail
  have hlit := Sl.litAny (w := w2) (T := 31) encE_len exR rfl
  have x3 := (Ext.refl w2).alloc (.cells (exR.flatMap encE).toArray 31)
  replace hsr := hsr.ext x3
  have X3 := (x1.trans x2).trans x3
  have HL := Lib.hid (hl.ext (x2.trans x3))
  clear hl x1 x2 x3
  replace hlit : Sl 1 encE (w2.alloc (.cells #[.int .i64 0, .int .i64 0, .int .i64 0, .int .i64 0, .int .i64 0, .int .i64 402, .int .i64 0, .int .i64 401] 31)) (some ⟨w2.heap.size, 0, none⟩) exR := hlit
  replace X3 : Ext w (w2.alloc (.cells #[.int .i64 0, .int .i64 0, .int .i64 0, .int .i64 0, .int .i64 0, .int .i64 402, .int .i64 0, .int .i64 401] 31)) := X3
  replace hsr : Sl 1 encE (w2.alloc (.cells #[.int .i64 0, .int .i64 0, .int .i64 0, .int .i64 0, .int .i64 0, .int .i64 402, .int .i64 0, .int .i64 401] 31)) (some ⟨gr, 0, none⟩) exR := hsr
  replace HL : Hid (Sl 6 encF (w2.alloc (.cells #[.int .i64 0, .int .i64 0, .int .i64 0, .int .i64 0, .int .i64 0, .int .i64 402, .int .i64 0, .int .i64 401] 31)) (some ⟨g, 0, none⟩) exL) := HL
  generalize w2.alloc (.cells #[.int .i64 0, .int .i64 0, .int .i64 0, .int .i64 0, .int .i64 0, .int .i64 402, .int .i64 0, .int .i64 401] 31) = W3 at hlit hsr X3 HL ⊢
  generalize w2.heap.size = gb at hlit ⊢
  go_loopw [28] (fun i wr => ∃ k : Nat, k ≤ 8 ∧ i = .int .i64 k ∧ Ext W3 wr) (fun i _ => 8 - (intOf i).toNat)
  case atStart => exact ⟨0, by omega, rfl, Ext.refl _⟩
  case round =>
    obtain ⟨k, hk, rfl, hx⟩ := hrel
    by_cases hlt : k < 8
    · have hlt1 : (k : Int) < 8 := by omega
      have hk8 : k < exR.length := hlt
      obtain ⟨_, _, x, e1, hbl1, c1, HX⟩ := (hsr.ext hx).atE k hk8
      obtain ⟨_, _, y, e2, hbl2, c2, HY⟩ := (hlit.ext hx).atE k hk8
      simp only [Option.some.injEq, Addr.mk.injEq, and_true] at e1 e2
      obtain ⟨rfl, rfl⟩ := e1
      obtain ⟨rfl, rfl⟩ := e2
      obtain rfl : y = x := HY.out.symm.trans HX.out
      rw [Nat.zero_add] at c1 c2
      go_wp2_with fail
      go_region
      all_goals
        go_wp2_with fail
        go_roundw
        case rel => exact ⟨k + 1, by omega, by go_num, hx.drew⟩
        case measure => simp [intOf]; omega
    · have hlt1 : ¬ (k : Int) < 8 := by omega
      obtain ⟨a1, c, a2, a3, a4, a5, a6⟩ := ex_at1
      obtain ⟨b1, c', d', b2, b3, b4, b5, b6, b7, b8⟩ := ex_at2
      have HA := Lib.hid a2
      have HB := Lib.hid b2
      have HCH := Lib.hid a6
      have HDH := Lib.hid b6
      have HS1 := Lib.hid ex_set1
      have HS2 := Lib.hid ex_set2
      have HLx := Lib.hid (HL.out.ext hx)
      have HX := Lib.hid (X3.trans hx)
      clear hsr hlit hx X3 HL a2 b2 a6 b6
      have hl2 : Sl 6 encF wr (some ⟨g, 0, none⟩) (exL.take 2) := Sl.preA (ys := exL.drop 2) (by rw [List.take_append_drop]; exact HLx.out)
      go_wp2_with fail
      refine (at_c (exL.take 2) 30 (some ⟨g, 0, none⟩) 8 m _ hl2 (by decide) (HR.out.ext HX.out) (fun f hf => exL_kinds f (List.mem_of_mem_take hf))).mono ?_
      rintro e w4 ⟨p1, cap1, xs, rfl, hm1, ho1, hh1, x4⟩
      rw [HA.out] at hm1
      obtain ⟨pc, cc, rfl⟩ := map_one hm1
      rw [a1]
      clear hl2
      go_wp2_with fail
      refine (at_c exL 66 (some ⟨g, 0, none⟩) 8 m _ (HLx.out.ext x4) (by decide) (HR.out.ext (HX.out.trans x4)) exL_kinds).mono ?_
      rintro e w5 ⟨p2, cap2, ys, rfl, hm2, ho2, hh2, x5⟩
      rw [HB.out] at hm2
      obtain ⟨pa, ca, pb, cb, rfl⟩ := map_two hm2
      rw [b1]
      go_wp2_with fail
      refine (settles_c exL 1 (some ⟨g, 0, none⟩) 8 m _ ((HLx.out.ext x4).ext x5) (by decide) (HR.out.ext ((HX.out.trans x4).trans x5)) exL_kinds).mono ?_
      rintro e w6 ⟨rfl, x6⟩
      rw [HS1.out]
      go_wp2_with fail
      refine (settles_c exL 2 (some ⟨g, 0, none⟩) 8 m _ (((HLx.out.ext x4).ext x5).ext x6) (by decide) (HR.out.ext (((HX.out.trans x4).trans x5).trans x6)) exL_kinds).mono ?_
      rintro e w7 ⟨rfl, x7⟩
      rw [HS2.out]
      have HXx := Lib.hid ((((HX.out.trans x4).trans x5).trans x6).trans x7)
      have HLy := Lib.hid (((((HLx.out.ext x4).ext x5).ext x6).ext x7))
      obtain ⟨q1, gc1, rfl, _, _, hcell1⟩ := ho1.place encC_len (j := 0) (by simp)
      obtain ⟨q2, gc2, rfl, _, _, hcell2⟩ := ho2.place encC_len (j := 0) (by simp)
      have X4 := ((x5.trans x6).trans x7)
      have X5 := x6.trans x7
      have hq1 : q1 < w7.heap.size := by
        rcases ho1.2 with ⟨h, _⟩ | ⟨g', cap', cur, h, _, hg, _⟩
        · cases h
        · simp only [Value.slice.injEq, Option.some.injEq, Addr.mk.injEq] at h
          rw [h.1.1]; exact lt_of (heap_ext hg X4)
      have hq2 : q2 < w7.heap.size := by
        rcases ho2.2 with ⟨h, _⟩ | ⟨g', cap', cur, h, _, hg, _⟩
        · cases h
        · simp only [Value.slice.injEq, Option.some.injEq, Addr.mk.injEq] at h
          rw [h.1.1]; exact lt_of (heap_ext hg X5)
      have hs1 : Sl 2 enc2 w7 pc c.held := ((hh1 _ (List.mem_singleton.2 rfl)).slOf enc2_len).ext X4
      have hs2 : Sl 2 enc2 w7 pa c'.held := ((hh2 (c', pa, ca) (List.mem_cons_self ..)).slOf enc2_len).ext X5
      have za0 : w7.cell? ⟨q1, 0, none⟩ = some (.bool c.el) := by
        have h0 := (lt_of_cell (hcell1 0 (by simp) 0 _ rfl))
        have h1 := (X4.cells.1 _ _ h0).trans (hcell1 0 (by simp) 0 _ rfl)
        simpa using h1
      have za1 : w7.cell? ⟨q1, 1, none⟩ = some (.int .u8 c.st) := by
        have h0 := (lt_of_cell (hcell1 0 (by simp) 1 _ rfl))
        have h1 := (X4.cells.1 _ _ h0).trans (hcell1 0 (by simp) 1 _ rfl)
        simpa using h1
      have za2 : w7.cell? ⟨q1, 2, none⟩ = some (.int .i64 c.op) := by
        have h0 := (lt_of_cell (hcell1 0 (by simp) 2 _ rfl))
        have h1 := (X4.cells.1 _ _ h0).trans (hcell1 0 (by simp) 2 _ rfl)
        simpa using h1
      have za3 : w7.cell? ⟨q1, 3, none⟩ = some (.int .i64 c.dy) := by
        have h0 := (lt_of_cell (hcell1 0 (by simp) 3 _ rfl))
        have h1 := (X4.cells.1 _ _ h0).trans (hcell1 0 (by simp) 3 _ rfl)
        simpa using h1
      have za4 : w7.cell? ⟨q1, 4, none⟩ = some (.int .i64 c.ch) := by
        have h0 := (lt_of_cell (hcell1 0 (by simp) 4 _ rfl))
        have h1 := (X4.cells.1 _ _ h0).trans (hcell1 0 (by simp) 4 _ rfl)
        simpa using h1
      have za5 : w7.cell? ⟨q1, 5, none⟩ = some (.int .i64 c.lv) := by
        have h0 := (lt_of_cell (hcell1 0 (by simp) 5 _ rfl))
        have h1 := (X4.cells.1 _ _ h0).trans (hcell1 0 (by simp) 5 _ rfl)
        simpa using h1
      have za6 : w7.cell? ⟨q1, 6, none⟩ = some (.int .i64 c.due) := by
        have h0 := (lt_of_cell (hcell1 0 (by simp) 6 _ rfl))
        have h1 := (X4.cells.1 _ _ h0).trans (hcell1 0 (by simp) 6 _ rfl)
        simpa using h1
      have za7 : w7.cell? ⟨q1, 7, none⟩ = some (.bool c.hd) := by
        have h0 := (lt_of_cell (hcell1 0 (by simp) 7 _ rfl))
        have h1 := (X4.cells.1 _ _ h0).trans (hcell1 0 (by simp) 7 _ rfl)
        simpa using h1
      have za8 : w7.cell? ⟨q1, 8, none⟩ = some (.int .i64 c.sn) := by
        have h0 := (lt_of_cell (hcell1 0 (by simp) 8 _ rfl))
        have h1 := (X4.cells.1 _ _ h0).trans (hcell1 0 (by simp) 8 _ rfl)
        simpa using h1
      have za9 : w7.cell? ⟨q1, 9, none⟩ = some (.slice pc c.held.length cc) := by
        have h0 := (lt_of_cell (hcell1 0 (by simp) 9 _ rfl))
        have h1 := (X4.cells.1 _ _ h0).trans (hcell1 0 (by simp) 9 _ rfl)
        simpa using h1
      have zb0 : w7.cell? ⟨q2, 0, none⟩ = some (.bool c'.el) := by
        have h0 := (lt_of_cell (hcell2 0 (by simp) 0 _ rfl))
        have h1 := (X5.cells.1 _ _ h0).trans (hcell2 0 (by simp) 0 _ rfl)
        simpa using h1
      have zb1 : w7.cell? ⟨q2, 1, none⟩ = some (.int .u8 c'.st) := by
        have h0 := (lt_of_cell (hcell2 0 (by simp) 1 _ rfl))
        have h1 := (X5.cells.1 _ _ h0).trans (hcell2 0 (by simp) 1 _ rfl)
        simpa using h1
      have zb2 : w7.cell? ⟨q2, 2, none⟩ = some (.int .i64 c'.op) := by
        have h0 := (lt_of_cell (hcell2 0 (by simp) 2 _ rfl))
        have h1 := (X5.cells.1 _ _ h0).trans (hcell2 0 (by simp) 2 _ rfl)
        simpa using h1
      have zb3 : w7.cell? ⟨q2, 3, none⟩ = some (.int .i64 c'.dy) := by
        have h0 := (lt_of_cell (hcell2 0 (by simp) 3 _ rfl))
        have h1 := (X5.cells.1 _ _ h0).trans (hcell2 0 (by simp) 3 _ rfl)
        simpa using h1
      have zb4 : w7.cell? ⟨q2, 4, none⟩ = some (.int .i64 c'.ch) := by
        have h0 := (lt_of_cell (hcell2 0 (by simp) 4 _ rfl))
        have h1 := (X5.cells.1 _ _ h0).trans (hcell2 0 (by simp) 4 _ rfl)
        simpa using h1
      have zb5 : w7.cell? ⟨q2, 5, none⟩ = some (.int .i64 c'.lv) := by
        have h0 := (lt_of_cell (hcell2 0 (by simp) 5 _ rfl))
        have h1 := (X5.cells.1 _ _ h0).trans (hcell2 0 (by simp) 5 _ rfl)
        simpa using h1
      have zb6 : w7.cell? ⟨q2, 6, none⟩ = some (.int .i64 c'.due) := by
        have h0 := (lt_of_cell (hcell2 0 (by simp) 6 _ rfl))
        have h1 := (X5.cells.1 _ _ h0).trans (hcell2 0 (by simp) 6 _ rfl)
        simpa using h1
      have zb7 : w7.cell? ⟨q2, 7, none⟩ = some (.bool c'.hd) := by
        have h0 := (lt_of_cell (hcell2 0 (by simp) 7 _ rfl))
        have h1 := (X5.cells.1 _ _ h0).trans (hcell2 0 (by simp) 7 _ rfl)
        simpa using h1
      have zb8 : w7.cell? ⟨q2, 8, none⟩ = some (.int .i64 c'.sn) := by
        have h0 := (lt_of_cell (hcell2 0 (by simp) 8 _ rfl))
        have h1 := (X5.cells.1 _ _ h0).trans (hcell2 0 (by simp) 8 _ rfl)
        simpa using h1
      have zb9 : w7.cell? ⟨q2, 9, none⟩ = some (.slice pa c'.held.length ca) := by
        have h0 := (lt_of_cell (hcell2 0 (by simp) 9 _ rfl))
        have h1 := (X5.cells.1 _ _ h0).trans (hcell2 0 (by simp) 9 _ rfl)
        simpa using h1
      have zd0 : w7.cell? ⟨q2, 10, none⟩ = some (.bool d'.el) := by
        have h0 := (lt_of_cell (hcell2 1 (by simp) 0 _ rfl))
        have h1 := (X5.cells.1 _ _ h0).trans (hcell2 1 (by simp) 0 _ rfl)
        simpa using h1
      have zd1 : w7.cell? ⟨q2, 11, none⟩ = some (.int .u8 d'.st) := by
        have h0 := (lt_of_cell (hcell2 1 (by simp) 1 _ rfl))
        have h1 := (X5.cells.1 _ _ h0).trans (hcell2 1 (by simp) 1 _ rfl)
        simpa using h1
      have zd2 : w7.cell? ⟨q2, 12, none⟩ = some (.int .i64 d'.op) := by
        have h0 := (lt_of_cell (hcell2 1 (by simp) 2 _ rfl))
        have h1 := (X5.cells.1 _ _ h0).trans (hcell2 1 (by simp) 2 _ rfl)
        simpa using h1
      have zd3 : w7.cell? ⟨q2, 13, none⟩ = some (.int .i64 d'.dy) := by
        have h0 := (lt_of_cell (hcell2 1 (by simp) 3 _ rfl))
        have h1 := (X5.cells.1 _ _ h0).trans (hcell2 1 (by simp) 3 _ rfl)
        simpa using h1
      have zd4 : w7.cell? ⟨q2, 14, none⟩ = some (.int .i64 d'.ch) := by
        have h0 := (lt_of_cell (hcell2 1 (by simp) 4 _ rfl))
        have h1 := (X5.cells.1 _ _ h0).trans (hcell2 1 (by simp) 4 _ rfl)
        simpa using h1
      have zd5 : w7.cell? ⟨q2, 15, none⟩ = some (.int .i64 d'.lv) := by
        have h0 := (lt_of_cell (hcell2 1 (by simp) 5 _ rfl))
        have h1 := (X5.cells.1 _ _ h0).trans (hcell2 1 (by simp) 5 _ rfl)
        simpa using h1
      have zd6 : w7.cell? ⟨q2, 16, none⟩ = some (.int .i64 d'.due) := by
        have h0 := (lt_of_cell (hcell2 1 (by simp) 6 _ rfl))
        have h1 := (X5.cells.1 _ _ h0).trans (hcell2 1 (by simp) 6 _ rfl)
        simpa using h1
      have zd7 : w7.cell? ⟨q2, 17, none⟩ = some (.bool d'.hd) := by
        have h0 := (lt_of_cell (hcell2 1 (by simp) 7 _ rfl))
        have h1 := (X5.cells.1 _ _ h0).trans (hcell2 1 (by simp) 7 _ rfl)
        simpa using h1
      have zd8 : w7.cell? ⟨q2, 18, none⟩ = some (.int .i64 d'.sn) := by
        have h0 := (lt_of_cell (hcell2 1 (by simp) 8 _ rfl))
        have h1 := (X5.cells.1 _ _ h0).trans (hcell2 1 (by simp) 8 _ rfl)
        simpa using h1
      have zd9 : w7.cell? ⟨q2, 19, none⟩ = some (.slice pb d'.held.length cb) := by
        have h0 := (lt_of_cell (hcell2 1 (by simp) 9 _ rfl))
        have h1 := (X5.cells.1 _ _ h0).trans (hcell2 1 (by simp) 9 _ rfl)
        simpa using h1
      clear ho1 hh1 ho2 hh2 x4 x5 x6 x7 HX HLx hcell1 hcell2 X4 X5
      go_upto_region 18 with fail
      go_cut [13, 14, 15] (fun s13 s14 s15 wx => ∃ A B D, s13 = .pointer (some ⟨A, 0, none⟩) ∧ s14 = .pointer (some ⟨B, 0, none⟩) ∧ s15 = .pointer (some ⟨D, 0, none⟩) ∧ wx.heap[A]? = some (.cells #[.bool c.el, .int .u8 c.st, .int .i64 c.op, .int .i64 c.dy, .int .i64 c.ch, .int .i64 c.lv, .int .i64 c.due, .bool c.hd, .int .i64 c.sn, .slice pc c.held.length cc] 39 (0, 0)) ∧ wx.heap[B]? = some (.cells #[.bool c'.el, .int .u8 c'.st, .int .i64 c'.op, .int .i64 c'.dy, .int .i64 c'.ch, .int .i64 c'.lv, .int .i64 c'.due, .bool c'.hd, .int .i64 c'.sn, .slice pa c'.held.length ca] 39 (0, 0)) ∧ wx.heap[D]? = some (.cells #[.bool d'.el, .int .u8 d'.st, .int .i64 d'.op, .int .i64 d'.dy, .int .i64 d'.ch, .int .i64 d'.lv, .int .i64 d'.due, .bool d'.hd, .int .i64 d'.sn, .slice pb d'.held.length cb] 39 (0, 0)) ∧ Ext w7 wx)
      case first =>
        go_region_held3 (fun w' => w'.cell? ⟨q1, 0, none⟩ = some (.bool c.el) ∧ w'.cell? ⟨q1, 1, none⟩ = some (.int .u8 c.st) ∧ w'.cell? ⟨q1, 2, none⟩ = some (.int .i64 c.op) ∧ w'.cell? ⟨q1, 3, none⟩ = some (.int .i64 c.dy) ∧ w'.cell? ⟨q1, 4, none⟩ = some (.int .i64 c.ch) ∧ w'.cell? ⟨q1, 5, none⟩ = some (.int .i64 c.lv) ∧ w'.cell? ⟨q1, 6, none⟩ = some (.int .i64 c.due) ∧ w'.cell? ⟨q1, 7, none⟩ = some (.bool c.hd) ∧ w'.cell? ⟨q1, 8, none⟩ = some (.int .i64 c.sn) ∧ w'.cell? ⟨q1, 9, none⟩ = some (.slice pc c.held.length cc) ∧ w'.cell? ⟨q2, 0, none⟩ = some (.bool c'.el) ∧ w'.cell? ⟨q2, 1, none⟩ = some (.int .u8 c'.st) ∧ w'.cell? ⟨q2, 2, none⟩ = some (.int .i64 c'.op) ∧ w'.cell? ⟨q2, 3, none⟩ = some (.int .i64 c'.dy) ∧ w'.cell? ⟨q2, 4, none⟩ = some (.int .i64 c'.ch) ∧ w'.cell? ⟨q2, 5, none⟩ = some (.int .i64 c'.lv) ∧ w'.cell? ⟨q2, 6, none⟩ = some (.int .i64 c'.due) ∧ w'.cell? ⟨q2, 7, none⟩ = some (.bool c'.hd) ∧ w'.cell? ⟨q2, 8, none⟩ = some (.int .i64 c'.sn) ∧ w'.cell? ⟨q2, 9, none⟩ = some (.slice pa c'.held.length ca) ∧ w'.cell? ⟨q2, 10, none⟩ = some (.bool d'.el) ∧ w'.cell? ⟨q2, 11, none⟩ = some (.int .u8 d'.st) ∧ w'.cell? ⟨q2, 12, none⟩ = some (.int .i64 d'.op) ∧ w'.cell? ⟨q2, 13, none⟩ = some (.int .i64 d'.dy) ∧ w'.cell? ⟨q2, 14, none⟩ = some (.int .i64 d'.ch) ∧ w'.cell? ⟨q2, 15, none⟩ = some (.int .i64 d'.lv) ∧ w'.cell? ⟨q2, 16, none⟩ = some (.int .i64 d'.due) ∧ w'.cell? ⟨q2, 17, none⟩ = some (.bool d'.hd) ∧ w'.cell? ⟨q2, 18, none⟩ = some (.int .i64 d'.sn) ∧ w'.cell? ⟨q2, 19, none⟩ = some (.slice pb d'.held.length cb)) ((repeat' apply And.intro) <;> (refine keep_cell (w0 := w7) (by assumption) (by first | exact (Ext.refl _).drew | exact ((Ext.refl _).alloc _).drew | exact (((Ext.refl _).alloc _).alloc _).drew | exact ((((Ext.refl _).alloc _).alloc _).alloc _).drew))) (fail)
        all_goals
          go_wp2_with fail
          go_meet
          refine ⟨_, _, _, rfl, rfl, rfl, ?_, ?_, ?_, ((((Ext.refl _).alloc _).alloc _).alloc _).drew⟩ <;> (first | rw [a3, a4, a5] | rw [b3, b4, b5] | rw [b7, b8]) <;> (first | exact new3_0 _ _ _ _ | exact new3_1 _ _ _ _ | exact new3_2 _ _ _ _)
      case rest =>
        obtain ⟨A, B, D, rfl, rfl, rfl, hA, hB, hD, x18⟩ := hcut
        rw [a3, a4, a5] at hA
        rw [b3, b4, b5] at hB
        rw [b7, b8] at hD
        obtain ⟨_, i1, _, _, _, i5, i6, _, _, i9⟩ := cells10 hA
        obtain ⟨_, j1, _, _, _, j5, j6, _, _, j9⟩ := cells10 hB
        obtain ⟨_, k1, _, _, k4, _, _, _, _, _⟩ := cells10 hD
        have hs1' := hs1.ext x18
        have hs2' := hs2.ext x18
        have HH1 : Hid (heldR exL 1 49 = true) := by unfold Hid; rw [ex_held 49 (by decide)]; decide
        have HH2 : Hid (heldR exL 1 50 = false) := by unfold Hid; rw [ex_held 50 (by decide)]; decide
        have HLz := Lib.hid (HLy.out.ext x18)
        have HRz := Lib.hid (HR.out.ext (HXx.out.trans x18))
        clear hs1 hs2 hA hB hD za0 za1 za2 za3 za4 za5 za6 za7 za8 za9 zb0 zb1 zb2 zb3 zb4 zb5 zb6 zb7 zb8 zb9 zd0 zd1 zd2 zd3 zd4 zd5 zd6 zd7 zd8 zd9
        go_upto_region 20 with fail
        go_region_held3 (fun w' => w'.cell? ⟨A, 1, none⟩ = some (.int .u8 3) ∧ w'.cell? ⟨A, 5, none⟩ = some (.int .i64 1) ∧ w'.cell? ⟨A, 6, none⟩ = some (.int .i64 385) ∧ w'.cell? ⟨A, 9, none⟩ = some (.slice pc c.held.length cc) ∧ w'.cell? ⟨B, 1, none⟩ = some (.int .u8 3) ∧ w'.cell? ⟨B, 5, none⟩ = some (.int .i64 2) ∧ w'.cell? ⟨B, 6, none⟩ = some (.int .i64 425) ∧ w'.cell? ⟨B, 9, none⟩ = some (.slice pa c'.held.length ca) ∧ w'.cell? ⟨D, 1, none⟩ = some (.int .u8 1) ∧ w'.cell? ⟨D, 4, none⟩ = some (.int .i64 3)) ((repeat' apply And.intro) <;> (refine keep_cell (w0 := wc) (by assumption) (by first | assumption | exact (Ext.refl _).drew)))
          (first
            | (go_at_call 29; (with_reducible refine (to_c 20 31 _).mono ?_); rintro e w20 ⟨g20, c20, rfl, hT20, xT20⟩; have X20 : Ext wc w20 := ((Ext.refl wc).drew).trans xT20)
            | (go_at_call 30; (with_reducible refine (same_to c.held (20, 31) pc g20 cc c20 _ (hs1'.ext X20) hT20 HCH.out).mono ?_); rintro e w21 ⟨rfl, xT21⟩; have X21 : Ext wc w21 := X20.trans xT21)
            | (go_at_call 29; (with_reducible refine (to_c 20 50 _).mono ?_); rintro e w22 ⟨g22, c22, rfl, hT22, xT22⟩; have X22 : Ext wc w22 := X21.trans xT22)
            | (go_at_call 30; (with_reducible refine (same_to c'.held (20, 50) pa g22 ca c22 _ (hs2'.ext X22) hT22 HDH.out).mono ?_); rintro e w23 ⟨rfl, xT23⟩; have X23 : Ext wc w23 := X22.trans xT23)
            | (go_at_call 21; (with_reducible refine (held_ex 49 true HH1.out g m _ (HLz.out.ext X23) (HRz.out.ext X23)).mono ?_); rintro e w24 ⟨rfl, xT24⟩; have X24 : Ext wc w24 := X23.trans xT24)
            | (go_at_call 21; (with_reducible refine (held_ex 50 false HH2.out g m _ (HLz.out.ext X24) (HRz.out.ext X24)).mono ?_); rintro e w25 ⟨rfl, xT25⟩; have X25 : Ext wc w25 := X24.trans xT25))
        all_goals
          go_wp2_with fail
          go_ret
          exact ⟨rfl, (HXx.out.trans x18).trans X25⟩
end Go.Proofs.YtalconpcpegmlaaDoor
