import Derived.Test.YtalconpcpegmlaaDoorAppY
/- appeal.Run and appeal.At, walked. -/
namespace Go.Proofs.YtalconpcpegmlaaDoor
open Go.RowKit

theorem Dock.put {N b g k cap c2 : Nat} {w : World} {xs : List Cv} {last : Int} {D : Cs} {p2 : Option Addr} (hd : Dock N b w (some ⟨g, 0, none⟩) cap xs last) (hk : k < xs.length) (ho : Owns N 57 2 enc2 w (.slice p2 D.held.length c2) D.held) :
    Dock N b (w.setCells g (k * 10) (encC (D, p2, c2))) (some ⟨g, 0, none⟩) cap (xs.set k (D, p2, c2)) last := by
  obtain ⟨g', gc, hpg, hgN, hG, _⟩ := hd.own.place encC_len hk
  simp only [Option.some.injEq, Addr.mk.injEq, and_true] at hpg
  subst hpg
  have A1 : Apart [39] w (w.setCells g (k * 10) (encC (D, p2, c2))) := Apart.setCells (by decide) _ _ _ _ _ hG
  have own1 := Owns.setCells encC_len hd.own rfl hk (D, p2, c2)
  exact ⟨hd.le, by rw [List.length_set]; exact A1.at' _ _ _ _ (by decide) hd.row, by rw [List.length_set]; exact own1, (hd.held.set (x := (D, p2, c2)) ho).aside A1 (by decide)⟩
set_option maxHeartbeats 800000 in
theorem run_c (l : List Fl) (p : Option Addr) (c : Nat) (m : Option Nat) (w : World) (hl : Sl 6 encF w p l) (hm : l.length ≤ 1000000) (hr : RowsAt m w) (hk : ∀ f ∈ l, 0 ≤ f.kind ∧ f.kind < 256) :
    Calls Tryd.prog 14 #[.slice p l.length c] w fun e w' => ∃ v, e = .returned v ∧ Owns w.heap.size 31 1 encE w' v (runP l) ∧ Ext w w' := by
  go_enter Tryd.func14, Tryd.ntmps14
  go_wp2_with fail
  refine (filed_c l p c m _ hl hm hr hk).mono ?_
  rintro e w1 ⟨b, p1, cap1, xs, last, v, out, rfl, hA, hx⟩
  go_wp2_with fail
  go_ret
  exact ⟨v, rfl, by have := hA.own; rw [hA.outE] at this; exact this, hx⟩
theorem map_step {α : Type} {f : α → α} {L : List α} {k : Nat} {c : α} (h : L[k]? = some c) : ((L.take k).map f ++ L.drop k).set k (f c) = (L.take (k + 1)).map f ++ L.drop (k + 1) := by
  obtain ⟨hlt, he⟩ := List.getElem?_eq_some_iff.1 h
  have hl : ((L.take k).map f).length = k := by rw [List.length_map, List.length_take, Nat.min_eq_left (by omega)]
  rw [List.set_append_right _ _ (by omega), hl, Nat.sub_self, List.drop_eq_getElem_cons hlt, List.set_cons_zero, List.take_succ_eq_append_getElem hlt, List.map_append, he]
  simp
/-- What At hands back. -/
def RdAt (w w' : World) (l : List Fl) (day : Int) (e : Ending) : Prop := ∃ p cap xs, e = .returned (.tuple #[.slice p xs.length cap, .int .i64 (atP l day).2]) ∧ xs.map (·.1) = (atP l day).1 ∧ Owns w.heap.size 39 10 encC w' (.slice p xs.length cap) xs ∧ Helds w.heap.size w' xs ∧ Ext w w'
set_option maxHeartbeats 1600000 in
set_option maxRecDepth 100000 in
theorem at_c (l : List Fl) (day : Int) (p : Option Addr) (c : Nat) (m : Option Nat) (w : World) (hl : Sl 6 encF w p l) (hm : l.length ≤ 1000000) (hr : RowsAt m w) (hk : ∀ f ∈ l, 0 ≤ f.kind ∧ f.kind < 256) :
    Calls Tryd.prog 16 #[.slice p l.length c, .int .i64 day] w fun e w' => RdAt w w' l day e := by
  have HL := Lib.hid hl
  have HR := Lib.hid hr
  have HK := Lib.hid hk
  clear hl hr hk
  by_cases h0 : day < 0 ∨ 65536 ≤ day
  · have HP : Hid (atP l day = ([], 2)) := by unfold Hid atP; rw [if_pos h0]
    have done : ∀ e, e = Ending.returned (.tuple #[.slice none 0 0, .int .i64 2]) → RdAt w w l day e := fun e he => ⟨none, 0, [], by rw [he, HP.out]; rfl, by rw [HP.out]; rfl, Owns.nil, (fun x h => (by cases h)), Ext.refl w⟩
    by_cases h1 : day < 0
    · have q1 : decide (day < 0) = true := by simpa using h1
      clear h0 h1
      go_enter Tryd.func16, Tryd.ntmps16
      go_wp2_with fail
      go_ret2
      exact done _ rfl
    · have q1 : decide (day < 0) = false := by simpa using h1
      have q2 : decide (65536 ≤ day) = true := by simpa using (by omega : 65536 ≤ day)
      clear h0 h1
      go_enter Tryd.func16, Tryd.ntmps16
      go_wp2_with fail
      go_ret2
      exact done _ rfl
  · have q1 : decide (day < 0) = false := by simpa using (by omega : 0 ≤ day)
    have q2 : decide (65536 ≤ day) = false := by simpa using (by omega : day < 65536)
    have HD0 : Hid (0 ≤ day ∧ day ≤ 65535) := by unfold Hid; omega
    have HN0 := Lib.hid h0
    clear h0
    go_enter Tryd.func16, Tryd.ntmps16
    go_wp2_with fail
    refine (filed_c l p c m _ HL.out hm HR.out HK.out).mono ?_
    rintro e w1 ⟨b, p1, cap1, xs, last, v, out, rfl, hA, hx⟩
    have HLE := Lib.hid hA.lastE
    have HCS := Lib.hid hA.cs
    have hd := hA.dock
    clear hA
    obtain ⟨k0, k1⟩ := cells2d hd.row
    by_cases h2 : day < last
    · have q3 : decide (day < last) = true := by simpa using h2
      have HP : Hid (atP l day = ([], 400)) := by unfold Hid atP; rw [if_neg HN0.out, if_pos (by rw [← HLE.out]; exact h2)]
      clear h2
      go_wp2_with fail
      go_ret2
      exact ⟨none, 0, [], by rw [HP.out]; rfl, by rw [HP.out]; rfl, Owns.nil, (fun x h => (by cases h)), hx⟩
    · have q3 : decide (day < last) = false := by simpa using h2
      have HP : Hid (atP l day = ((dockP l).1.map (onP · day), 0)) := by unfold Hid atP; rw [if_neg HN0.out, if_neg (by rw [← HLE.out]; exact h2)]
      have HLD : Hid (last ≤ day) := by unfold Hid; omega
      clear h2
      have hlen : xs.length ≤ 100 := by
        have h1 := (DI.dock l).len
        rw [← HCS.out, List.length_map] at h1
        exact h1
      obtain ⟨n, hn⟩ : ∃ n, Hid (xs.length = n) := ⟨_, rfl⟩
      have HDK : Hid (Dock w.heap.size b w1 p1 cap1 xs last) := hd
      rw [hn.out] at k0 hlen
      clear hd
      go_wp2_with fail
      go_loopw [32] (fun i wr => ∃ (k : Nat) (ys : List Cv), k ≤ n ∧ i = .int .i64 k ∧ Hid (ys.length = n) ∧ Hid (ys.map (·.1) = (((dockP l).1.take k).map (onP · day)) ++ (dockP l).1.drop k) ∧ Hid (Dock w.heap.size b wr p1 cap1 ys last) ∧ Hid (Ext w wr)) (fun i _ => n - (intOf i).toNat)
      case atStart => exact ⟨0, xs, Nat.zero_le _, rfl, hn, HCS, HDK, hx⟩
      case round =>
        obtain ⟨k, ys, hkn, rfl, HYN, HYM, HDY, HX⟩ := hrel
        clear k0 k1 hx
        by_cases hlt : k < n
        · have hlt' : k < ys.length := by have := HYN.out; omega
          have hlt1 : (k : Int) < (n : Int) := by omega
          obtain ⟨g, gc, rfl, hgN, hG, hcell⟩ := HDY.out.own.place encC_len hlt'
          obtain ⟨c, pc, cc, HXK⟩ : ∃ c pc cc, Hid (ys[k] = (c, pc, cc)) := ⟨ys[k].1, ys[k].2.1, ys[k].2.2, rfl⟩
          have hsl : Sl 2 enc2 wr pc c.held := by
            have := HDY.out.held.sl (List.getElem_mem hlt')
            rw [HXK.out] at this
            exact this
          have hck : (dockP l).1[k]? = some c := by
            have h1 : (ys.map (·.1))[k]? = some c := by rw [List.getElem?_map, List.getElem?_eq_getElem hlt', HXK.out]; rfl
            have h3 : (dockP l).1.length = n := by
              have := congrArg List.length HCS.out
              rw [List.length_map, hn.out] at this
              exact this.symm
            rw [HYM.out, List.getElem?_append_right (by rw [List.length_map, List.length_take]; omega), List.length_map, List.length_take, Nat.min_eq_left (by omega), List.getElem?_drop] at h1
            simpa using h1
          have HCI := Lib.hid ((DI.dock l).at hck)
          have HPB := Lib.hid HCI.out.pb
          have HCK := Lib.hid hck
          have hb := HDY.out.row
          rw [HYN.out] at hb
          have a0 : wr.cell? ⟨g, k * 10, none⟩ = some (.bool c.el) := hcell k hlt' 0 _ (by rw [HXK.out]; rfl)
          have a1 : wr.cell? ⟨g, k * 10 + 1, none⟩ = some (.int .u8 c.st) := hcell k hlt' 1 _ (by rw [HXK.out]; rfl)
          have a2 : wr.cell? ⟨g, k * 10 + 2, none⟩ = some (.int .i64 c.op) := hcell k hlt' 2 _ (by rw [HXK.out]; rfl)
          have a3 : wr.cell? ⟨g, k * 10 + 3, none⟩ = some (.int .i64 c.dy) := hcell k hlt' 3 _ (by rw [HXK.out]; rfl)
          have a4 : wr.cell? ⟨g, k * 10 + 4, none⟩ = some (.int .i64 c.ch) := hcell k hlt' 4 _ (by rw [HXK.out]; rfl)
          have a5 : wr.cell? ⟨g, k * 10 + 5, none⟩ = some (.int .i64 c.lv) := hcell k hlt' 5 _ (by rw [HXK.out]; rfl)
          have a6 : wr.cell? ⟨g, k * 10 + 6, none⟩ = some (.int .i64 c.due) := hcell k hlt' 6 _ (by rw [HXK.out]; rfl)
          have a7 : wr.cell? ⟨g, k * 10 + 7, none⟩ = some (.bool c.hd) := hcell k hlt' 7 _ (by rw [HXK.out]; rfl)
          have a8 : wr.cell? ⟨g, k * 10 + 8, none⟩ = some (.int .i64 c.sn) := hcell k hlt' 8 _ (by rw [HXK.out]; rfl)
          have a9 : wr.cell? ⟨g, k * 10 + 9, none⟩ = some (.slice pc c.held.length cc) := hcell k hlt' 9 _ (by rw [HXK.out]; rfl)
          have hgl := lt_of hG
          have hbl := lt_of hb
          have HGN := Lib.hid hgN
          have n2 : ¬ g = b := fun e => (by subst e; rw [hG] at hb; cases hb)
          have m2 : ¬ b = g := fun e => n2 e.symm
          obtain ⟨k0, k1⟩ := cells2d hb
          clear hck hgN hcell
          go_upto_region 9 with fail
          have hxa := (Ext.refl wr).alloc (.cells #[.bool c.el, .int .u8 c.st, .int .i64 c.op, .int .i64 c.dy, .int .i64 c.ch, .int .i64 c.lv, .int .i64 c.due, .bool c.hd, .int .i64 c.sn, .slice pc c.held.length cc] 39)
          have hXb := heap_new wr (.cells #[.bool c.el, .int .u8 c.st, .int .i64 c.op, .int .i64 c.dy, .int .i64 c.ch, .int .i64 c.lv, .int .i64 c.due, .bool c.hd, .int .i64 c.sn, .slice pc c.held.length cc] 39)
          obtain ⟨X, HXX⟩ : ∃ x, Hid (wr.heap.size = x) := ⟨_, rfl⟩
          have n3 : ¬ g = X := (by have := HXX.out; omega)
          have n4 : ¬ b = X := (by have := HXX.out; omega)
          rw [HXX.out] at hXb ⊢
          have m3 : ¬ X = g := fun e => n3 e.symm
          have m4 : ¬ X = b := fun e => n4 e.symm
          replace hb := heap_ext hb hxa
          replace hG := heap_ext hG hxa
          replace hsl := hsl.ext hxa
          have a0' := (hxa.cells.1 g (k * 10) hgl).trans a0
          have a1' := (hxa.cells.1 g (k * 10 + 1) hgl).trans a1
          have a2' := (hxa.cells.1 g (k * 10 + 2) hgl).trans a2
          have a3' := (hxa.cells.1 g (k * 10 + 3) hgl).trans a3
          have a4' := (hxa.cells.1 g (k * 10 + 4) hgl).trans a4
          have a5' := (hxa.cells.1 g (k * 10 + 5) hgl).trans a5
          have a6' := (hxa.cells.1 g (k * 10 + 6) hgl).trans a6
          have a7' := (hxa.cells.1 g (k * 10 + 7) hgl).trans a7
          have a8' := (hxa.cells.1 g (k * 10 + 8) hgl).trans a8
          have a9' := (hxa.cells.1 g (k * 10 + 9) hgl).trans a9
          clear a0 a1 a2 a3 a4 a5 a6 a7 a8 a9 k0 k1 hgl hbl
          have HX2 := Lib.hid (HX.out.trans hxa)
          replace HDY := Lib.hid (HDY.out.ext hxa)
          clear hxa
          generalize wr.alloc (.cells #[.bool c.el, .int .u8 c.st, .int .i64 c.op, .int .i64 c.dy, .int .i64 c.ch, .int .i64 c.lv, .int .i64 c.due, .bool c.hd, .int .i64 c.sn, .slice pc c.held.length cc] 39) = W at hb hG hsl HX2 HDY hXb a0' a1' a2' a3' a4' a5' a6' a7' a8' a9' ⊢
          have hgl := lt_of hG
          have hbl := lt_of hb
          have hXl := lt_of hXb
          obtain ⟨k0, k1⟩ := cells2d hb
          obtain ⟨x0, x1, x2, x3, x4, x5, x6, x7, x8, x9⟩ := cells10 hXb
          obtain ⟨C, HC⟩ : ∃ C, Hid (onP c day = C) := ⟨_, rfl⟩
          go_region_held3 (fun w' => w'.cell? ⟨b, 0, none⟩ = some (.slice (some ⟨g, 0, none⟩) n cap1) ∧ w'.cell? ⟨X, 0, none⟩ = some (.bool c.el) ∧ w'.cell? ⟨X, 1, none⟩ = some (.int .u8 c.st) ∧ w'.cell? ⟨X, 2, none⟩ = some (.int .i64 c.op) ∧ w'.cell? ⟨X, 3, none⟩ = some (.int .i64 c.dy) ∧ w'.cell? ⟨X, 4, none⟩ = some (.int .i64 c.ch) ∧ w'.cell? ⟨X, 5, none⟩ = some (.int .i64 c.lv) ∧ w'.cell? ⟨X, 6, none⟩ = some (.int .i64 c.due) ∧ w'.cell? ⟨X, 7, none⟩ = some (.bool c.hd) ∧ w'.cell? ⟨X, 8, none⟩ = some (.int .i64 c.sn) ∧ w'.cell? ⟨X, 9, none⟩ = some (.slice pc c.held.length cc)) (go_keep)
            (first
              | (go_at_call 32; refine (on_c c day pc cc _ (hsl.ext ((Ext.refl W).drew)) HPB.out (by have := HD0.out; omega)).mono ?_; intro e w2 hr1; rw [HC.out] at hr1; obtain ⟨p2, c2, rfl, hv1, hx1⟩ := hr1; have X1 : Ext W w2 := ((Ext.refl W).drew).trans hx1; have V1 : Owns W.heap.size 57 2 enc2 w2 (.slice p2 C.held.length c2) C.held := hv1; clear hv1 hx1; have hb1 := heap_ext hb X1; have hG1 := heap_ext hG X1; have hXb1 := heap_ext hXb X1; have hbl1 := lt_of hb1; have hgl1 := lt_of hG1; have zf := fun j => frozen_of (j := j) hG1; obtain ⟨y0, y1, y2, y3, y4, y5, y6, y7, y8, y9⟩ := cells10 hXb1; obtain ⟨j0, j1⟩ := cells2d hb1; have b0 := (X1.cells.1 g _ hgl).trans a0'; have b1 := (X1.cells.1 g _ hgl).trans a1'; have b2 := (X1.cells.1 g _ hgl).trans a2'; have b3 := (X1.cells.1 g _ hgl).trans a3'; have b4 := (X1.cells.1 g _ hgl).trans a4'; have b5 := (X1.cells.1 g _ hgl).trans a5'; have b6 := (X1.cells.1 g _ hgl).trans a6'; have b7 := (X1.cells.1 g _ hgl).trans a7'; have b8 := (X1.cells.1 g _ hgl).trans a8'; have b9 := (X1.cells.1 g _ hgl).trans a9')
              | fail)
          all_goals
            go_wp2_with fail
            have hd2 := (HDY.out.ext X1).put (D := C) (p2 := p2) (c2 := c2) hlt' (Owns.mono V1 HX2.out.size)
            have he2 : Ext w (w2.setCells g (k * 10) (encC (C, p2, c2))) := ext_setCells HGN.out _ _ _ (HX2.out.trans X1)
            go_roundw
            case rel =>
              refine ⟨k + 1, ys.set k (C, p2, c2), by omega, by go_num, ?_, ?_, hd2, he2⟩
              · unfold Hid; rw [List.length_set]; exact HYN.out
              · unfold Hid
                rw [List.map_set, HYM.out, ← HC.out]
                exact map_step HCK.out
            case measure => simp [intOf]; omega
        · have hlt1 : ¬ (k : Int) < (n : Int) := by omega
          have hk : k = n := by omega
          have hb := HDY.out.row
          rw [HYN.out] at hb
          obtain ⟨k0, k1⟩ := cells2d hb
          go_wp2_with fail
          go_ret2
          refine ⟨p1, cap1, ys, ?_, ?_, HDY.out.own, HDY.out.held, HX.out⟩
          · rw [HP.out, HYN.out]; rfl
          · have h3 : (dockP l).1.length = n := by
              have := congrArg List.length HCS.out
              rw [List.length_map, hn.out] at this
              exact this.symm
            rw [HP.out, HYM.out, List.take_of_length_le (by omega), List.drop_eq_nil_of_le (by omega), List.append_nil]
end Go.Proofs.YtalconpcpegmlaaDoor
