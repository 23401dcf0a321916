import Derived.Test.YtalconpcpegmlaaDoorAppHs
/- annuitantlaw40.taken and last, walked. -/
namespace Go.Proofs.YtalconpcpegmlaaDoor
open Go.RowKit

theorem encF_one (x : Fl) : ∀ u ∈ encF x, u.oneCell' = true := by simp [encF, Value.oneCell']
theorem infoF : (Tryd.prog.info? 30).map (fun i => (i.zero, i.size, i.bytes)) = some (some (.agg #[.int .u8 0, .int .i64 0, .int .i64 0, .int .i64 0, .int .i64 0, .bool false]), 6, 48) := by kernel_rfl
theorem Sl.atE {w : World} {p : Option Addr} {l : List Int} (h : Sl 1 encE w p l) (k : Nat) (hk : k < l.length) :
    ∃ b off x, p = some ⟨b, off, none⟩ ∧ b < w.heap.size ∧ w.cell? ⟨b, off + k, none⟩ = some (.int .i64 x) ∧ Hid (l[k] = x) := by
  obtain ⟨b, off, e, hb, hc⟩ := h k hk
  have := hc 0 _ rfl
  rw [Nat.mul_one, Nat.add_zero] at this
  exact ⟨b, off, l[k], e, hb, this, rfl⟩
/-- The first filings that are accepted. -/
def takenK (l : List Fl) (k : Nat) : List Fl := (((l.take k).zip ((runP l).take k)).filter (fun x => x.2 == 0)).map (·.1)
theorem takenK_zero (l : List Fl) : takenK l 0 = [] := by simp [takenK]
theorem takenK_end {l : List Fl} {k : Nat} (h : l.length ≤ k) : takenK l k = takenP l := by unfold takenK takenP; rw [List.take_of_length_le h, List.take_of_length_le (by rw [runP_len]; exact h)]
theorem takenK_step {l : List Fl} {k : Nat} {f : Fl} {x : Int} (h : k < l.length) (hf : l[k] = f) (hx : (runP l)[k]'(by rw [runP_len]; exact h) = x) : takenK l (k + 1) = takenK l k ++ if x = 0 then [f] else [] := by
  unfold takenK
  rw [List.take_succ_eq_append_getElem h, List.take_succ_eq_append_getElem (by rw [runP_len]; exact h), hf, hx, List.zip_append (by simp [runP_len]), List.filter_append, List.map_append]
  congr 1
  by_cases h0 : x = 0 <;> simp [h0]
theorem takenK_len (l : List Fl) (k : Nat) : (takenK l k).length ≤ k := by
  unfold takenK
  rw [List.length_map]
  refine Nat.le_trans (List.length_filter_le _ _) ?_
  rw [List.length_zip, List.length_take]; omega
set_option maxHeartbeats 1600000 in
set_option maxRecDepth 100000 in
theorem taken_c (l : List Fl) (p : Option Addr) (c : Nat) (m : Option Nat) (w : World) (hl : Sl 6 encF w p l) (hm : l.length ≤ 1000000) (hr : RowsAt m w) (hk : ∀ f ∈ l, 0 ≤ f.kind ∧ f.kind < 256) :
    Calls Tryd.prog 19 #[.slice p l.length c] w fun e w' => ∃ v, e = .returned v ∧ Owns w.heap.size 30 6 encF w' v (takenP l) ∧ Ext w w' := by
  go_enter Tryd.func19, Tryd.ntmps19
  go_wp2_with fail
  refine (run_c l p c m _ hl hm hr hk).mono ?_
  rintro e w1 ⟨v, rfl, ho, hx⟩
  obtain ⟨pr, cr, rfl, hsr⟩ := ho.read encE_len
  have hrl := runP_len l
  obtain ⟨R, HR⟩ : ∃ R, Hid (runP l = R) := ⟨_, rfl⟩
  have HRL : Hid (R.length = l.length) := by unfold Hid; rw [← HR.out]; exact hrl
  rw [HR.out] at hsr ⊢
  rw [HRL.out]
  clear hrl ho hk hr
  go_wp2_with fail
  go_loopw [3, 9] (fun v i wr => ∃ (k : Nat) (out : List Fl), k ≤ l.length ∧ i = .int .i64 k ∧ Owns w1.heap.size 30 6 encF wr v out ∧ Hid (out = takenK l k) ∧ Ext w1 wr) (fun _ i _ => l.length - (intOf i).toNat)
  case atStart => exact ⟨0, [], Nat.zero_le _, rfl, Owns.nil, (takenK_zero l).symm, Ext.refl _⟩
  case round =>
    obtain ⟨k, out, hkl, rfl, hown, HO, hxr⟩ := hrel
    by_cases hlt : k < l.length
    · obtain ⟨bb, off, f, rfl, hbl, c0, c1, c2, c3, c4, c5, HF⟩ := (hl.ext (hx.trans hxr)).atF k hlt
      obtain ⟨br, ofr, x, rfl, hbr, r0, HX⟩ := (hsr.ext hxr).atE k (by have := HRL.out; omega)
      have hlt1 : (k : Int) < (l.length : Int) := by omega
      have hol : out.length ≤ 1000000 := by have := takenK_len l k; rw [← HO.out] at this; omega
      have HT0 : Hid (takenK l (k + 1) = takenK l k ++ if x = 0 then [f] else []) := takenK_step hlt HF.out (by simp only [HR.out]; exact HX.out)
      by_cases h0 : x = 0
      · subst h0
        have HT : Hid (takenK l (k + 1) = out ++ [f]) := by unfold Hid; rw [HT0.out, if_pos rfl, HO.out]
        go_wp2_with (at_builtin; refine wpList_append_one (w0 := w1) rfl _ _ 22 30 48 _ encF_len encF_one (by decide) rfl Tryd.underlying22 infoF rfl out f hown hxr _ 1 rfl rfl (by first | rfl | simp) (by omega) (by omega) ?_; intro v3 w3 hown3 hb3 hg3)
        go_roundw
        case rel => exact ⟨k + 1, out ++ [f], by omega, by go_num, hown3, HT.out.symm, hb3⟩
        case measure => simp [intOf]; omega
      · have h0b : (x == 0) = false := by simpa using h0
        have HT : Hid (takenK l (k + 1) = out) := by unfold Hid; rw [HT0.out, if_neg h0, List.append_nil, HO.out]
        go_wp2_with fail
        go_roundw
        case rel => exact ⟨k + 1, out, by omega, by go_num, hown, HT.out.symm, hxr⟩
        case measure => simp [intOf]; omega
    · have hlt1 : ¬ (k : Int) < (l.length : Int) := by omega
      go_wp2_with fail
      go_ret
      have e := HO.out
      rw [takenK_end (by omega)] at e
      rw [e] at hown
      exact ⟨_, rfl, Owns.mono hown hx.size, hx.trans hxr⟩
/-- The day of the last accepted filing. -/
theorem last_day {l : List Fl} (h : l.length ≤ 1000) : (dockP l).2 = match (takenP l).getLast? with | none => 0 | some f => f.day := (taken l h).last
theorem takenP_len (l : List Fl) : (takenP l).length ≤ l.length := by rw [← takenK_end (Nat.le_refl _)]; exact takenK_len l _
set_option maxHeartbeats 1600000 in
set_option maxRecDepth 100000 in
theorem last_c (l : List Fl) (p : Option Addr) (c : Nat) (m : Option Nat) (w : World) (hl : Sl 6 encF w p l) (hm : l.length ≤ 1000) (hr : RowsAt m w) (hk : ∀ f ∈ l, 0 ≤ f.kind ∧ f.kind < 256) :
    Calls Tryd.prog 15 #[.slice p l.length c] w fun e w' => e = .returned (.int .i64 (dockP l).2) ∧ Ext w w' := by
  have HL := Lib.hid (last_day hm)
  have htl := takenP_len l
  go_enter Tryd.func15, Tryd.ntmps15
  go_wp2_with fail
  refine (taken_c l p c m _ hl (by omega) hr hk).mono ?_
  rintro e w1 ⟨v, rfl, ho, hx⟩
  obtain ⟨pr, cr, rfl, hsr⟩ := ho.read encF_len
  obtain ⟨T, HT⟩ : ∃ T, Hid (takenP l = T) := ⟨_, rfl⟩
  have HLT : Hid ((dockP l).2 = match T.getLast? with | none => 0 | some f => f.day) := by unfold Hid; rw [← HT.out]; exact HL.out
  rw [HT.out] at hsr htl ⊢
  clear ho hl hr hk
  rcases nil_or_snoc T with rfl | ⟨P, q, rfl⟩
  · go_wp2_with fail
    go_ret
    rw [HLT.out]
    exact ⟨rfl, hx⟩
  · have hn : (P ++ [q]).length = P.length + 1 := by simp
    obtain ⟨n, hN⟩ : ∃ n, Hid ((P ++ [q]).length = n) := ⟨_, rfl⟩
    obtain ⟨bb, off, f, rfl, hbl, c0, c1, c2, c3, c4, c5, HF⟩ := hsr.atF P.length (by omega)
    have HFQ : Hid (f = q) := by unfold Hid; rw [← HF.out]; simp
    rw [hN.out] at hn ⊢
    have hq0 : (((n : Nat) : Int) == 0) = false := by simp; omega
    have hwr : IntKind.i64.wrap ((n : Int) - 1) = (P.length : Int) := by rw [hn]; have := IntWalk.i64_in (P.length : Int) (by omega); rw [show (((P.length + 1 : Nat) : Int) - 1) = (P.length : Int) by omega]; exact this
    have hlt1 : (P.length : Int) < (n : Int) := by omega
    have HN := Lib.hid hn
    clear hn hsr
    go_wp2_with fail
    go_ret
    rw [HLT.out, List.getLast?_append]
    rw [HFQ.out]
    exact ⟨rfl, hx⟩
end Go.Proofs.YtalconpcpegmlaaDoor
