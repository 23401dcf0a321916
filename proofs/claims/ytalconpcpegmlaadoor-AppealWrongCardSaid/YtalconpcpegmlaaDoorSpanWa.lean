import Derived.Test.YtalconpcpegmlaaDoorSpanW9
namespace Go.Proofs.YtalconpcpegmlaaDoor
open Go.RowKit
attribute [local go_sem] Oper.semAt_some
attribute [local go_sem] cell?_gr

def pastOf (W : World) (X : Nat) : Nat := (intOf ((W.cell? ⟨X, 1, none⟩).getD undef)).toNat
theorem Cur.past {w : World} {X : Nat} {v : Value} {pa : Nat} (h : Cur w X v pa) : pastOf w X = pa := by
  unfold pastOf; rw [h.cells.2.1]; simp [intOf]

theorem adv_lt {a b : List Sp} {pa pb : Nat} {day : Int} (hd : min (nextS a pa) (nextS b pb) = day) (_h6 : day ≤ 65536) : pa + pb + 1 ≤ adv a pa day + adv b pb day ∧ pa ≤ adv a pa day ∧ pb ≤ adv b pb day := by
  have h1 : pa ≤ adv a pa day := by unfold adv; split <;> omega
  have h2 : pb ≤ adv b pb day := by unfold adv; split <;> omega
  refine ⟨?_, h1, h2⟩
  rcases (by omega : nextS a pa = day ∨ nextS b pb = day) with h | h
  · have : adv a pa day = pa + 1 := by unfold adv; rw [if_pos h]
    omega
  · have : adv b pb day = pb + 1 := by unfold adv; rw [if_pos h]
    omega
theorem passX_post {E : Env} (wf : Wf E) {pa pb : Nat} {z day : Int} {v : Value} {out : List Sp} {w2 w3 w1 : World} {Rec : World → Prop} (hRec : IsRec Rec) (hfv : Fix E w2 ∧ Var E pa pb z v out w2) (hr : Rec w2) (hx : Ext w2 w1)
    (h : if nextS E.a pa = day then w3 = w1.setCell ⟨E.X, 1, none⟩ (.int .i64 ((pa : Int) + 1)) else w3 = w1) : Fix E w3 ∧ Var E (adv E.a pa day) pb z v out w3 ∧ Rec w3 := by
  unfold adv
  split at h
  · rename_i h1; rw [if_pos h1, h]; exact ⟨(hfv.1.to hx).set wf (.inl rfl) _, (hfv.2.to hx).setX wf, hRec.set _ _ _ (hRec.ext _ _ hr hx)⟩
  · rename_i h1; rw [if_neg h1, h]; exact ⟨hfv.1.to hx, hfv.2.to hx, hRec.ext _ _ hr hx⟩
theorem passY_post {E : Env} (wf : Wf E) {pa pb : Nat} {z day : Int} {v : Value} {out : List Sp} {w2 w3 w1 : World} {Rec : World → Prop} (hRec : IsRec Rec) (hfv : Fix E w2 ∧ Var E pa pb z v out w2) (hr : Rec w2) (hx : Ext w2 w1)
    (h : if nextS E.b pb = day then w3 = w1.setCell ⟨E.Y, 1, none⟩ (.int .i64 ((pb : Int) + 1)) else w3 = w1) : Fix E w3 ∧ Var E pa (adv E.b pb day) z v out w3 ∧ Rec w3 := by
  unfold adv
  split at h
  · rename_i h1; rw [if_pos h1, h]; exact ⟨(hfv.1.to hx).set wf (.inr (.inl rfl)) _, (hfv.2.to hx).setY wf, hRec.set _ _ _ (hRec.ext _ _ hr hx)⟩
  · rename_i h1; rw [if_neg h1, h]; exact ⟨hfv.1.to hx, hfv.2.to hx, hRec.ext _ _ hr hx⟩
set_option maxHeartbeats 1600000 in
set_option maxRecDepth 100000 in
theorem changes1_in (E : Env) (keep : Bool → Bool → Bool) (wf : Wf E) (n l : Nat) (hn : 1 ≤ n) (Rec : World → Prop) (hRec : IsRec Rec) (W1 : World) (pa0 pb0 : Nat) (haf : Af E keep pa0 pb0 W1) (hrec : Rec W1)
    (hY : ∀ pa pb day W, At E keep pa pb day W → Rec W → YieldAt Fence.wide (n - 1) Tryd.prog l #[.int .i64 day] W fun e W' => e = .returned (.bool true) ∧ Af E keep pa pb W' ∧ Rec W') :
    CallsIn Fence.wide n Tryd.prog 67 #[.func (.yield l) #[] #[], .pointer (some ⟨E.Ba, 0, none⟩), .pointer (some ⟨E.Bb, 0, none⟩)] W1 fun e W' => (∃ v, e = .returned v) ∧ Fin E keep W' ∧ Rec W' := by
  refine callsIn_of_wp Tryd.func67 rfl trivial ?_ rfl
  simp only [Tryd.ntmps67, List.size_toArray, List.length_cons, List.length_nil, Nat.reduceAdd, Nat.reduceSub, Array.replicate_succ, Array.replicate_zero, List.push_toArray, List.append_toArray, List.nil_append, List.cons_append]
  have HY := Lib.hid hY
  clear hY
  gi_wp2
  gi_loopw [4] (fun _ wr => (∃ pa pb, Af E keep pa pb wr) ∧ Rec wr) (fun _ wr => (2 * E.a.length - pastOf wr E.X) + (2 * E.b.length - pastOf wr E.Y))
  case atStart => exact ⟨⟨pa0, pb0, haf⟩, hrec⟩
  case round =>
    obtain ⟨⟨pa, pb, z, v, out, m, fx, vr, hpa, hpb, hz0, hz1, hm, hol, hcomb⟩, hrc⟩ := hrel
    have HC := Lib.hid hcomb
    have HV := Lib.hid vr
    have HF := Lib.hid fx
    have HW := Lib.hid wf
    clear hcomb
    have HP0 := Lib.hid (And.intro vr.cx.past vr.cy.past)
    have ka := cell_of (j := 0) fx.ba
    have kb := cell_of (j := 0) fx.bb
    have la := lt_of fx.ba
    have lb := lt_of fx.bb
    have nA : ∀ x, Calls Tryd.prog 68 #[.pointer (some ⟨E.X, 0, none⟩)] (gr wr x) fun e w'' => e = .returned (.int .i64 (nextS E.a pa)) ∧ ∃ y, w'' = gr wr y := fun x =>
      have c := (vr.cx.ext (ext_gr wr x)).cells
      quiet_gr (next_any E.a E.pa E.ca E.X pa _ (wf.sa.ext (fx.ext.trans (ext_gr wr x))) wf.al hpa c.1 c.2.1 c.2.2.2)
    have nB : ∀ x, Calls Tryd.prog 68 #[.pointer (some ⟨E.Y, 0, none⟩)] (gr wr x) fun e w'' => e = .returned (.int .i64 (nextS E.b pb)) ∧ ∃ y, w'' = gr wr y := fun x =>
      have c := (vr.cy.ext (ext_gr wr x)).cells
      quiet_gr (next_any E.b E.pb E.cb E.Y pb _ (wf.sb.ext (fx.ext.trans (ext_gr wr x))) wf.bl hpb c.1 c.2.1 c.2.2.2)
    have NA := Lib.hid nA
    have NB := Lib.hid nB
    clear nA nB fx vr wf
    simp only [List.getElem?_toArray, List.getElem?_cons_zero] at ka kb
    gi_wp2
    refine wpIn_wide.2 (wp_region_ext (by kernel_rfl) (by kernel_rfl) ?_)
    repeat (go_big_quiet_step (first | (with_reducible exact NA.out _) | (with_reducible exact NB.out _)))
    refine wpQuiet_nil ?_
    intro w2 hx2
    have hr2 := hRec.ext _ _ hrc hx2
    have fx := HF.out.to hx2
    have vr := HV.out.to hx2
    clear NA NB HF HV hx2 hrc ka kb la lb
    have hdd : min (nextS E.a pa) (nextS E.b pb) = (if nextS E.b pb < nextS E.a pa then nextS E.b pb else nextS E.a pa) := by split <;> omega
    generalize (if nextS E.b pb < nextS E.a pa then nextS E.b pb else nextS E.a pa) = day at hdd ⊢
    have HD := Lib.hid hdd
    clear hdd
    by_cases h6 : 65536 < day
    · have HFV := Lib.hid (And.intro fx vr)
      clear fx vr
      gi_wp2
      refine bodyPost_ret (results_none rfl _ _ _) rfl ?_
      refine ⟨⟨_, rfl⟩, ⟨pa, pb, z, v, out, HFV.out.1, HFV.out.2, ?_⟩, hr2⟩
      rw [HC.out, comb_end (by have := HD.out; unfold nextS at this; omega), List.append_nil]
    · have hd6 : day ≤ 65536 := by omega
      have ka := cell_of (j := 0) fx.ba
      have kb := cell_of (j := 0) fx.bb
      simp only [List.getElem?_toArray, List.getElem?_cons_zero] at ka kb
      have HPX := Lib.hid (callsIn_wide.2 (pass_any E.a E.pa E.ca E.X pa day w2 (HW.out.sa.ext fx.ext) HW.out.al hpa vr.cx) : CallsIn Fence.wide (n - 1) _ _ _ _ _)
      have HFV := Lib.hid (And.intro fx vr)
      clear fx vr
      gi_wp2
      refine ⟨trivial, ?_⟩
      refine HPX.out.mono ?_
      rintro e w3 ⟨rfl, w1, hx1, hw3⟩
      obtain ⟨fx3, vr3, hr3⟩ := passX_post HW.out hRec HFV.out hr2 hx1 hw3
      clear HPX HFV hr2 hx1 hw3 ka kb
      have kb := cell_of (j := 0) fx3.bb
      simp only [List.getElem?_toArray, List.getElem?_cons_zero] at kb
      have HPY := Lib.hid (callsIn_wide.2 (pass_any E.b E.pb E.cb E.Y pb day w3 (HW.out.sb.ext fx3.ext) HW.out.bl hpb vr3.cy) : CallsIn Fence.wide (n - 1) _ _ _ _ _)
      have HFV3 := Lib.hid (And.intro fx3 vr3)
      clear fx3 vr3
      gi_wp2
      refine ⟨trivial, ?_⟩
      refine HPY.out.mono ?_
      rintro e w5 ⟨rfl, w4, hx4, hw5⟩
      obtain ⟨fx5, vr5, hr5⟩ := passY_post HW.out hRec HFV3.out hr3 hx4 hw5
      clear HPY HFV3 hr3 hx4 hw5 kb
      obtain ⟨m', q1, q2, q3, q4, q5, q6⟩ := at_of HW.out hpa hpb hm HD.out hd6 hol HC.out
      obtain ⟨fn, tmps, assign, body, hy, hR⟩ := HY.out _ _ day w5 ⟨z, v, out, m', fx5, vr5, q4, q5, hz0, hz1, q2, hd6, q1, q3, q6⟩ hr5
      have HQ := Lib.hid (And.intro q1 (And.intro q2 (And.intro q3 (And.intro q4 (And.intro q5 q6)))))
      have HR := Lib.hid hR
      have HFV5 := Lib.hid (And.intro fx5 vr5)
      clear q1 q2 q3 q4 q5 q6 hR fx5 vr5
      gi_wp2
      refine HR.out.mono ?_
      rintro e w6 ⟨rfl, haf6, hr6⟩
      gi_wp2
      go_roundw
      case rel => exact ⟨⟨_, _, haf6⟩, hr6⟩
      case measure =>
        obtain ⟨z6, v6, out6, m6, fx6, vr6, h61, h62, _⟩ := haf6
        rw [vr6.cx.past, vr6.cy.past, HP0.out.1, HP0.out.2]
        have := adv_lt HD.out hd6
        omega
end Go.Proofs.YtalconpcpegmlaaDoor
