import Derived.Test.YtalconpcpegmlaaDoorAppZ
/- appeal.Held and appeal.Settles, walked. -/
namespace Go.Proofs.YtalconpcpegmlaaDoor
open Go.RowKit

def BD (C : Cs) : Prop := 0 ≤ C.due ∧ C.due ≤ 67000 ∧ (C.st = 3 → C.due ≤ 66000) ∧ (C.st < 4 → C.due ≤ 66500) ∧ 1 ≤ C.dy ∧ C.dy ≤ 400
theorem hbd_step {C D : Cs} (h : BD C) (h4 : ¬ 4 ≤ C.st) (h6 : if C.st = 3 ∧ C.lv ≠ 3 then D.st = 2 ∧ D.due = C.due + 1 + C.dy else D.st = 4 ∧ D.due = C.due + 1) (h7 : D.dy = C.dy) : BD D := by
  obtain ⟨u1, u2, u3, u6, u4, u5⟩ := h
  have := u6 (by omega)
  split at h6
  · rename_i h8
    have := u3 h8.1
    exact ⟨by omega, by omega, fun h => by omega, fun h => by omega, by omega, by omega⟩
  · exact ⟨by omega, by omega, fun h => by omega, fun h => by omega, by omega, by omega⟩
/-- Are payments of a case held on a day? -/
def heldR (l : List Fl) (n day : Int) : Bool := if n < 1 ∨ 65535 < max day (dockP l).2 then false else heldAt (dockP l) (n - 1).toNat day (max day (dockP l).2)
def settR (l : List Fl) (n : Int) : Int × Bool := if n < 1 then (0, false) else match (dockP l).1[(n - 1).toNat]? with | none => (0, false) | some c => (settleP c, true)
set_option maxHeartbeats 1600000 in
set_option maxRecDepth 100000 in
theorem held_c (l : List Fl) (n day : Int) (p : Option Addr) (c : Nat) (m : Option Nat) (w : World) (hl : Sl 6 encF w p l) (hm : l.length ≤ 1000000) (hr : RowsAt m w) (hk : ∀ f ∈ l, 0 ≤ f.kind ∧ f.kind < 256) :
    Calls Tryd.prog 21 #[.slice p l.length c, .int .i64 n, .int .i64 day] w fun e w' => e = .returned (.bool (heldR l n day)) ∧ Ext w w' := by
  go_enter Tryd.func21, Tryd.ntmps21
  go_wp2_with fail
  refine (filed_c l p c m _ hl hm hr hk).mono ?_
  rintro e w1 ⟨b, p1, cap1, xs, last, v, out, rfl, hA, hx⟩
  have HLE := Lib.hid hA.lastE
  have HCS := Lib.hid hA.cs
  have HD := Lib.hid hA.dock
  have hlen : xs.length ≤ 100 := by
    have h1 := (DI.dock l).len
    rw [← HCS.out, List.length_map] at h1
    exact h1
  have HL0 : Hid (0 ≤ last ∧ last ≤ 65535) := by unfold Hid; rw [HLE.out]; exact (DI.dock l).last
  have HLN : Hid ((dockP l).1.length = xs.length) := by unfold Hid; rw [← HCS.out, List.length_map]
  clear hA
  obtain ⟨k0, k1⟩ := cells2d HD.out.row
  by_cases h1 : n < 1
  · have q1 : decide (n < 1) = true := by simpa using h1
    have HR : Hid (heldR l n day = false) := by unfold Hid heldR; rw [if_pos (.inl h1)]
    clear h1
    go_wp2_with fail
    go_ret
    rw [HR.out]
    exact ⟨rfl, hx⟩
  · have q1 : decide (n < 1) = false := by simpa using h1
    by_cases h2 : (xs.length : Int) < n
    · have q2 : decide ((xs.length : Int) < n) = true := by simpa using h2
      have HR : Hid (heldR l n day = false) := by
        unfold Hid heldR
        split
        · rfl
        · exact heldAt_none (List.getElem?_eq_none (by have := HLN.out; omega))
      clear h1 h2
      go_wp2_with fail
      go_ret
      rw [HR.out]
      exact ⟨rfl, hx⟩
    · have q2 : decide ((xs.length : Int) < n) = false := by simpa using h2
      have hx0 : 0 ≤ max day last := by have := HL0.out; omega
      have q3 : decide (max day last < 0) = false := by simpa using hx0
      by_cases h4 : 65536 ≤ max day last
      · have q4 : decide (65536 ≤ max day last) = true := by simpa using h4
        have HR : Hid (heldR l n day = false) := by unfold Hid heldR; rw [← HLE.out, if_pos (.inr (by omega))]
        clear h1 h2 h4 hx0
        go_wp2_with fail
        go_ret
        rw [HR.out]
        exact ⟨rfl, hx⟩
      · have q4 : decide (65536 ≤ max day last) = false := by simpa using h4
        have HXB : Hid (last ≤ max day last ∧ max day last ≤ 65535 ∧ 0 ≤ max day last) := by unfold Hid; omega
        obtain ⟨k, hkn⟩ : ∃ k : Nat, n = (k : Int) + 1 := ⟨(n - 1).toNat, by omega⟩
        have hlt : k < xs.length := by omega
        have hwr : IntKind.i64.wrap (n - 1) = (k : Int) := by rw [hkn]; have := IntWalk.i64_in (k : Int) (by omega); rw [Int.add_sub_cancel]; exact this
        have hlt1 : (k : Int) < (xs.length : Int) := by omega
        have HKN := Lib.hid hkn
        obtain ⟨g, gc, rfl, hgN, hG, hcell⟩ := HD.out.own.place encC_len hlt
        obtain ⟨c, pc, cc, HXK⟩ : ∃ c pc cc, Hid (xs[k] = (c, pc, cc)) := ⟨xs[k].1, xs[k].2.1, xs[k].2.2, rfl⟩
        have hsl : Sl 2 enc2 w1 pc c.held := by
          have := HD.out.held.sl (List.getElem_mem hlt)
          rw [HXK.out] at this
          exact this
        have HCK : Hid ((dockP l).1[k]? = some c) := by
          unfold Hid
          rw [← HCS.out, List.getElem?_map, List.getElem?_eq_getElem hlt, HXK.out]; rfl
        have HCI := Lib.hid ((DI.dock l).at HCK.out)
        have HPB := Lib.hid HCI.out.pb
        have a0 : w1.cell? ⟨g, k * 10, none⟩ = some (.bool c.el) := hcell k hlt 0 _ (by rw [HXK.out]; rfl)
        have a1 : w1.cell? ⟨g, k * 10 + 1, none⟩ = some (.int .u8 c.st) := hcell k hlt 1 _ (by rw [HXK.out]; rfl)
        have a2 : w1.cell? ⟨g, k * 10 + 2, none⟩ = some (.int .i64 c.op) := hcell k hlt 2 _ (by rw [HXK.out]; rfl)
        have a3 : w1.cell? ⟨g, k * 10 + 3, none⟩ = some (.int .i64 c.dy) := hcell k hlt 3 _ (by rw [HXK.out]; rfl)
        have a4 : w1.cell? ⟨g, k * 10 + 4, none⟩ = some (.int .i64 c.ch) := hcell k hlt 4 _ (by rw [HXK.out]; rfl)
        have a5 : w1.cell? ⟨g, k * 10 + 5, none⟩ = some (.int .i64 c.lv) := hcell k hlt 5 _ (by rw [HXK.out]; rfl)
        have a6 : w1.cell? ⟨g, k * 10 + 6, none⟩ = some (.int .i64 c.due) := hcell k hlt 6 _ (by rw [HXK.out]; rfl)
        have a7 : w1.cell? ⟨g, k * 10 + 7, none⟩ = some (.bool c.hd) := hcell k hlt 7 _ (by rw [HXK.out]; rfl)
        have a8 : w1.cell? ⟨g, k * 10 + 8, none⟩ = some (.int .i64 c.sn) := hcell k hlt 8 _ (by rw [HXK.out]; rfl)
        have a9 : w1.cell? ⟨g, k * 10 + 9, none⟩ = some (.slice pc c.held.length cc) := hcell k hlt 9 _ (by rw [HXK.out]; rfl)
        have hgl := lt_of hG
        clear hkn hgN hcell hG
        clear h1 h2 h4 hx0
        go_wp2_with fail
        refine (on_c c (max day last) pc cc _ hsl HPB.out (by have := HXB.out; omega)).mono ?_
        obtain ⟨C, HC⟩ : ∃ C, Hid (onP c (max day last) = C) := ⟨_, rfl⟩
        intro e w2 hr1
        rw [HC.out] at hr1
        obtain ⟨p2, c2, rfl, hv1, hx1⟩ := hr1
        have hOK : Ok (-1) C.held := by
          rw [← HC.out]
          have hCI := HCI.out
          rw [← HLE.out] at hCI
          exact (heldP_spec (max day last + 1) (hCI.pass HXB.out.1 HXB.out.2.1) (by have := HXB.out; omega)).1
        have HR : Hid (heldR l n day = memB day C.held) := by
          unfold Hid heldR
          rw [← HLE.out, if_neg (by have := HXB.out; have := HKN.out; omega), ← HC.out]
          have hkk : (n - 1).toNat = k := by have := HKN.out; omega
          rw [hkk]
          exact heldAt_some HCK.out
        have hfld : ∀ W : World, (Instr.field 39 (.agg #[.bool C.el, .int .u8 C.st, .int .i64 C.op, .int .i64 C.dy, .int .i64 C.ch, .int .i64 C.lv, .int .i64 C.due, .bool C.hd, .int .i64 C.sn, .slice p2 C.held.length c2]) 9).run Tryd.prog W = .ok (.slice p2 C.held.length c2) W := fun W => by kernel_rfl
        go_wp2_with fail
        refine (has_any C.held day p2 c2 _ (hv1.slOf enc2_len) (Nat.le_trans hOK.len6 (by decide))).mono ?_
        rintro e w3 ⟨he3, hx3⟩
        rw [hOK.valid, Bool.true_and] at he3
        subst he3
        go_wp2_with fail
        go_ret
        rw [HR.out]
        exact ⟨rfl, (hx.trans hx1).trans hx3⟩
set_option maxHeartbeats 1600000 in
set_option maxRecDepth 100000 in
theorem settles_c (l : List Fl) (n : Int) (p : Option Addr) (c : Nat) (m : Option Nat) (w : World) (hl : Sl 6 encF w p l) (hm : l.length ≤ 1000000) (hr : RowsAt m w) (hk : ∀ f ∈ l, 0 ≤ f.kind ∧ f.kind < 256) :
    Calls Tryd.prog 24 #[.slice p l.length c, .int .i64 n] w fun e w' => e = .returned (.tuple #[.int .i64 (settR l n).1, .bool (settR l n).2]) ∧ Ext w w' := by
  go_enter Tryd.func24, Tryd.ntmps24
  go_wp2_with fail
  refine (filed_c l p c m _ hl hm hr hk).mono ?_
  rintro e w1 ⟨b, p1, cap1, xs, last, v, out, rfl, hA, hx⟩
  have HLE := Lib.hid hA.lastE
  have HCS := Lib.hid hA.cs
  have HD := Lib.hid hA.dock
  have hlen : xs.length ≤ 100 := by
    have h1 := (DI.dock l).len
    rw [← HCS.out, List.length_map] at h1
    exact h1
  have HL0 : Hid (0 ≤ last ∧ last ≤ 65535) := by unfold Hid; rw [HLE.out]; exact (DI.dock l).last
  have HLN : Hid ((dockP l).1.length = xs.length) := by unfold Hid; rw [← HCS.out, List.length_map]
  clear hA
  obtain ⟨k0, k1⟩ := cells2d HD.out.row
  by_cases h1 : n < 1
  · have q1 : decide (n < 1) = true := by simpa using h1
    have HR : Hid (settR l n = (0, false)) := by unfold Hid settR; rw [if_pos h1]
    clear h1
    go_wp2_with fail
    go_ret2
    rw [HR.out]
    exact ⟨rfl, hx⟩
  · have q1 : decide (n < 1) = false := by simpa using h1
    by_cases h2 : (xs.length : Int) < n
    · have q2 : decide ((xs.length : Int) < n) = true := by simpa using h2
      have HR : Hid (settR l n = (0, false)) := by
        unfold Hid settR
        rw [if_neg h1]
        have : (dockP l).1[(n - 1).toNat]? = none := List.getElem?_eq_none (by have := HLN.out; omega)
        rw [this]
      clear h1 h2
      go_wp2_with fail
      go_ret2
      rw [HR.out]
      exact ⟨rfl, hx⟩
    · have q2 : decide ((xs.length : Int) < n) = false := by simpa using h2
      obtain ⟨k, hkn⟩ : ∃ k : Nat, n = (k : Int) + 1 := ⟨(n - 1).toNat, by omega⟩
      have hlt : k < xs.length := by omega
      have hwr : IntKind.i64.wrap (n - 1) = (k : Int) := by rw [hkn]; have := IntWalk.i64_in (k : Int) (by omega); rw [Int.add_sub_cancel]; exact this
      have hlt1 : (k : Int) < (xs.length : Int) := by omega
      have HKN := Lib.hid hkn
      obtain ⟨g, gc, rfl, hgN, hG, hcell⟩ := HD.out.own.place encC_len hlt
      obtain ⟨c, pc, cc, HXK⟩ : ∃ c pc cc, Hid (xs[k] = (c, pc, cc)) := ⟨xs[k].1, xs[k].2.1, xs[k].2.2, rfl⟩
      have hsl : Sl 2 enc2 w1 pc c.held := by
        have := HD.out.held.sl (List.getElem_mem hlt)
        rw [HXK.out] at this
        exact this
      have HCK : Hid ((dockP l).1[k]? = some c) := by
        unfold Hid
        rw [← HCS.out, List.getElem?_map, List.getElem?_eq_getElem hlt, HXK.out]; rfl
      have HCI := Lib.hid ((DI.dock l).at HCK.out)
      have HPB := Lib.hid HCI.out.pb
      have a0 : w1.cell? ⟨g, k * 10, none⟩ = some (.bool c.el) := hcell k hlt 0 _ (by rw [HXK.out]; rfl)
      have a1 : w1.cell? ⟨g, k * 10 + 1, none⟩ = some (.int .u8 c.st) := hcell k hlt 1 _ (by rw [HXK.out]; rfl)
      have a2 : w1.cell? ⟨g, k * 10 + 2, none⟩ = some (.int .i64 c.op) := hcell k hlt 2 _ (by rw [HXK.out]; rfl)
      have a3 : w1.cell? ⟨g, k * 10 + 3, none⟩ = some (.int .i64 c.dy) := hcell k hlt 3 _ (by rw [HXK.out]; rfl)
      have a4 : w1.cell? ⟨g, k * 10 + 4, none⟩ = some (.int .i64 c.ch) := hcell k hlt 4 _ (by rw [HXK.out]; rfl)
      have a5 : w1.cell? ⟨g, k * 10 + 5, none⟩ = some (.int .i64 c.lv) := hcell k hlt 5 _ (by rw [HXK.out]; rfl)
      have a6 : w1.cell? ⟨g, k * 10 + 6, none⟩ = some (.int .i64 c.due) := hcell k hlt 6 _ (by rw [HXK.out]; rfl)
      have a7 : w1.cell? ⟨g, k * 10 + 7, none⟩ = some (.bool c.hd) := hcell k hlt 7 _ (by rw [HXK.out]; rfl)
      have a8 : w1.cell? ⟨g, k * 10 + 8, none⟩ = some (.int .i64 c.sn) := hcell k hlt 8 _ (by rw [HXK.out]; rfl)
      have a9 : w1.cell? ⟨g, k * 10 + 9, none⟩ = some (.slice pc c.held.length cc) := hcell k hlt 9 _ (by rw [HXK.out]; rfl)
      have hgl := lt_of hG
      clear hkn hgN hcell hG
      have HR : Hid (settR l n = (settleP c, true)) := by
        unfold Hid settR
        have hkk : (n - 1).toNat = k := by have := HKN.out; omega
        rw [if_neg h1, hkk, HCK.out]
      clear h1 h2
      have hB := heap_new w1 (.cells #[.bool c.el, .int .u8 c.st, .int .i64 c.op, .int .i64 c.dy, .int .i64 c.ch, .int .i64 c.lv, .int .i64 c.due, .bool c.hd, .int .i64 c.sn, .slice pc c.held.length cc] 39)
      have hxa := (Ext.refl w1).alloc (.cells #[.bool c.el, .int .u8 c.st, .int .i64 c.op, .int .i64 c.dy, .int .i64 c.ch, .int .i64 c.lv, .int .i64 c.due, .bool c.hd, .int .i64 c.sn, .slice pc c.held.length cc] 39)
      go_wp2_with fail
      obtain ⟨X, HXX⟩ : ∃ x, Hid (w1.heap.size = x) := ⟨_, rfl⟩
      rw [HXX.out] at hB ⊢
      have hX1 : w.heap.size ≤ X := by have := hx.size; have := HXX.out; omega
      replace hx := hx.trans hxa
      have hs2 : Owns w.heap.size 57 2 enc2 (w1.alloc (.cells #[.bool c.el, .int .u8 c.st, .int .i64 c.op, .int .i64 c.dy, .int .i64 c.ch, .int .i64 c.lv, .int .i64 c.due, .bool c.hd, .int .i64 c.sn, .slice pc c.held.length cc] 39)) (.slice pc c.held.length cc) c.held := by
        have := (HD.out.held _ (List.getElem_mem hlt)).ext hxa
        rw [HXK.out] at this
        exact this
      clear k0 k1 a0 a1 a2 a3 a4 a5 a6 a7 a8 a9 hsl hgl hxa
      generalize w1.alloc (.cells #[.bool c.el, .int .u8 c.st, .int .i64 c.op, .int .i64 c.dy, .int .i64 c.ch, .int .i64 c.lv, .int .i64 c.due, .bool c.hd, .int .i64 c.sn, .slice pc c.held.length cc] 39) = W at hB hx hs2 ⊢
      go_loopw [35] (fun _ wr => ∃ C p2 c2, wr.heap[X]? = some (.cells #[.bool C.el, .int .u8 C.st, .int .i64 C.op, .int .i64 C.dy, .int .i64 C.ch, .int .i64 C.lv, .int .i64 C.due, .bool C.hd, .int .i64 C.sn, .slice p2 C.held.length c2] 39 (0, 0)) ∧ Hid (Owns w.heap.size 57 2 enc2 wr (.slice p2 C.held.length c2) C.held) ∧ Ext w wr ∧ Hid (settleP C = settleP c) ∧ Hid (PB C) ∧ Hid (BD C)) (fun _ wr => rkOf wr X)
      case atStart => exact ⟨c, pc, cc, hB, hs2, hx, rfl, HPB, ⟨HCI.out.due.1, by have := HCI.out.due; omega, fun _ => HCI.out.due.2, fun _ => by have := HCI.out.due; omega, HCI.out.dy⟩⟩
      case round =>
        obtain ⟨C, p2, c2, hB, HS, hx2, HSE, HPC, HBD⟩ := hrel
        have hRK := Lib.hid (rk_row hB)
        have hXl := lt_of hB
        go_wp2_with (refine wpList_load_row rfl 39 _ rfl _ rfl 39 _ _ _ hB Tryd.underlying39 rfl (by kernel_rfl) ?_)
        refine (over_c C p2 c2 _).mono ?_
        rintro e wA ⟨he, hxA⟩
        replace hB := heap_ext hB hxA
        replace hx2 := hx2.trans hxA
        replace HS := Lib.hid (HS.out.ext hxA)
        obtain ⟨k0, k1, k2, k3, k4, k5, k6, k7, k8, k9⟩ := cells10 hB
        clear k0 k1 k2 k3 k4 k5 k7 k8 k9
        by_cases h4 : 4 ≤ C.st
        · rw [decide_eq_true h4] at he
          subst he
          have HST : Hid (settleP C = C.due) := by unfold Hid settleP; rw [if_pos h4]
          go_wp2_with fail
          go_ret2
          rw [HR.out, ← HSE.out, HST.out]
          exact ⟨rfl, hx2⟩
        · rw [decide_eq_false h4] at he
          subst he
          have hwd : IntKind.i64.wrap (C.due + 1) = C.due + 1 := IntWalk.i64_in _ (by have := HBD.out.1; have := HBD.out.2.1; have := HBD.out.2.2.2.2; omega)
          obtain ⟨D, HD2⟩ : ∃ D, Hid (passP C (C.due + 1) = D) := ⟨_, rfl⟩
          have HNX : Hid (if C.st = 3 ∧ C.lv ≠ 3 then D.st = 2 ∧ D.due = C.due + 1 + C.dy else D.st = 4 ∧ D.due = C.due + 1) := by
            have := pass_next (c := C) h4 (by have := HBD.out.1; have := HBD.out.2.1; have := HBD.out.2.2.2.2; omega)
            rw [← this.1, HD2.out] at this
            exact this.2
          have HSS : Hid (settleP D = settleP C) := by unfold Hid; rw [← HD2.out]; exact settle_step (c := C) h4 (by have := HBD.out.1; have := HBD.out.2.1; have := HBD.out.2.2.2.2; omega)
          have HSM : Hid (D.dy = C.dy) := by unfold Hid; rw [← HD2.out]; exact (pass_same C (C.due + 1)).2.2.1
          have HP2 : Hid (PB D) := by unfold Hid; rw [← HD2.out]; exact HPC.out.pass (day := C.due + 1) (by have := HBD.out.1; have := HBD.out.2.1; have := HBD.out.2.2.2.2; omega)
          have HN4 := Lib.hid h4
          have hXl2 := lt_of hB
          clear h4
          go_wp2_with (refine wpList_load_row rfl 39 _ rfl _ rfl 39 _ _ _ hB Tryd.underlying39 rfl (by kernel_rfl) ?_)
          refine (pass_c C (C.due + 1) p2 c2 _ (HS.out.slOf enc2_len) HPC.out (by have := HBD.out.1; have := HBD.out.2.1; have := HBD.out.2.2.2.2; omega)).mono ?_
          intro e wB hr1
          rw [HD2.out] at hr1
          obtain ⟨p3, c3, rfl, hv3, hxB⟩ := hr1
          have hz2 := (hx2.size)
          have HO3 : Hid (Owns w.heap.size 57 2 enc2 wB (.slice p3 D.held.length c3) D.held) := by
            rcases hv3 with ⟨e1, e2, e3⟩ | hv3
            · unfold Hid; rw [e1, e2, e3]; exact HS.out.ext hxB
            · exact Owns.mono hv3 hz2
          have hB3 := heap_ext hB hxB
          have HO4 := Lib.hid (HO3.out.aside (Apart.setRow (ts := [39]) hB3 (by decide) #[.bool D.el, .int .u8 D.st, .int .i64 D.op, .int .i64 D.dy, .int .i64 D.ch, .int .i64 D.lv, .int .i64 D.due, .bool D.hd, .int .i64 D.sn, .slice p3 D.held.length c3]) (by decide))
          have hB4 := setRow_heap wB X _ #[.bool D.el, .int .u8 D.st, .int .i64 D.op, .int .i64 D.dy, .int .i64 D.ch, .int .i64 D.lv, .int .i64 D.due, .bool D.hd, .int .i64 D.sn, .slice p3 D.held.length c3] _ _ hB3
          have hx4 := (hx2.trans hxB).setRow hX1 #[.bool D.el, .int .u8 D.st, .int .i64 D.op, .int .i64 D.dy, .int .i64 D.ch, .int .i64 D.lv, .int .i64 D.due, .bool D.hd, .int .i64 D.sn, .slice p3 D.held.length c3]
          go_wp2_with (refine wpList_store_row rfl 39 _ _ rfl _ _ rfl rfl 39 _ hB3 (by kernel_rfl) (by rfl) (by simp [Value.oneCell']) ?_)
          go_roundw
          case rel =>
            repeat apply Exists.intro
            exact ⟨⟨D, p3, c3, hB4, HO4, hx4, HSS.out.trans HSE.out, HP2, hbd_step HBD.out (by have := HN4.out; omega) HNX.out HSM.out⟩, rfl⟩
          case measure =>
            have h6 := HNX.out
            have h4 := HN4.out
            rw [hRK.out, rk_row hB4, if_neg (show ¬ 4 ≤ C.st by omega)]
            split at h6
            · rename_i h8
              rw [if_neg (by omega), if_neg (by omega), if_pos h8.1]; omega
            · rw [if_pos (by omega)]; split <;> omega
end Go.Proofs.YtalconpcpegmlaaDoor
