import Derived.Test.YtbjhehmglahmpaaSpanW3
namespace Go.Proofs.Ytbjhehmglahmpaa
open Go.RowKit

theorem Ok.length : ∀ {l : List Sp} {e : Int}, -1 ≤ e → e ≤ 65536 → Ok e l → (l.length : Int) ≤ 65536 - e
  | [], e, _, h, _ => by simp; omega
  | s :: l, e, he, _, h => by
    obtain ⟨h1, h2, h3, h4, h5⟩ := h
    have := h5.length (by omega) h4
    simp only [List.length_cons]; omega
theorem infoSp : (Try.prog.info? 65).map (fun i => (i.zero, i.size, i.bytes)) = some (some (.agg #[.int .i64 0, .int .i64 0]), 2, 16) := by kernel_rfl
theorem enc2_len (x : Sp) : (enc2 x).length = 2 := rfl
theorem enc2_one (x : Sp) : ∀ u ∈ enc2 x, u.oneCell' = true := by simp [enc2, Value.oneCell']

theorem Sl.lit {w : World} {T : TypeId} {b : Nat} (xs : List Sp) (hb : b = w.heap.size) : Sl 2 enc2 (w.alloc (.cells (xs.flatMap enc2).toArray T)) (some ⟨b, 0, none⟩) xs := by
  subst hb
  intro j hj
  refine ⟨w.heap.size, 0, rfl, by simp, fun i u hu => ?_⟩
  have hi : i < 2 := by have := (List.getElem?_eq_some_iff.1 hu).1; rwa [enc2_len] at this
  rw [cell_of (heap_new w _), Nat.zero_add, List.getElem?_toArray, flat_at enc2_len xs j hj i hi]
  exact hu
theorem Sl.cells2' {w : World} {b off : Nat} {l : List Sp} (h : Sl 2 enc2 w (some ⟨b, off, none⟩) l) (k : Nat) (hk : k < l.length) :
    w.cell? ⟨b, off + k * 2, none⟩ = some (.int .i64 l[k].1) ∧ w.cell? ⟨b, off + k * 2 + 1, none⟩ = some (.int .i64 l[k].2) := by
  obtain ⟨b', off', e, _, hc⟩ := h k hk
  simp only [Option.some.injEq, Addr.mk.injEq, and_true] at e
  obtain ⟨rfl, rfl⟩ := e
  exact ⟨hc 0 _ rfl, hc 1 _ rfl⟩
theorem Sl.cells2 {w : World} {p : Option Addr} {l : List Sp} (h : Sl 2 enc2 w p l) (k : Nat) (hk : k < l.length) :
    ∃ b off, p = some ⟨b, off, none⟩ ∧ b < w.heap.size ∧ w.cell? ⟨b, off + k * 2, none⟩ = some (.int .i64 l[k].1) ∧ w.cell? ⟨b, off + k * 2 + 1, none⟩ = some (.int .i64 l[k].2) := by
  obtain ⟨b, off, rfl, hb, _⟩ := h k hk
  exact ⟨b, off, rfl, hb, (h.cells2' k hk).1, (h.cells2' k hk).2⟩
theorem Sl.at2b {w : World} {b off : Nat} {l : List Sp} (h : Sl 2 enc2 w (some ⟨b, off, none⟩) l) (k : Nat) (hk : k < l.length) :
    b < w.heap.size ∧ w.cell? ⟨b, off + k * 2, none⟩ = some (.int .i64 l[k].1) ∧ w.cell? ⟨b, off + k * 2 + 1, none⟩ = some (.int .i64 l[k].2) := by
  obtain ⟨b', off', e, hb, hc⟩ := h k hk
  simp only [Option.some.injEq, Addr.mk.injEq, and_true] at e
  obtain ⟨rfl, rfl⟩ := e
  exact ⟨hb, hc 0 _ rfl, hc 1 _ rfl⟩
/-! ### span.Bridge -/
def OwnS (w0 w : World) (v : Value) (xs : List Sp) : Prop := Owns w0.heap.size 65 2 enc2 w v xs
set_option maxHeartbeats 800000 in
theorem bridge_bad (l : List Sp) (days : Int) (p : Option Addr) (c : Nat) (w : World) (hl : Sl 2 enc2 w p l) (hm : l.length ≤ 9223372036854775807) (hn : ¬ (validB (-1) l = true ∧ 0 ≤ days)) :
    Calls Try.prog 42 #[.slice p l.length c, .int .i64 days] w fun e w' => e = .returned (.tuple #[.slice none 0 0, .int .i64 2]) ∧ Ext w w' := by
  cases hv : validB (-1) l with
  | false =>
    clear hn
    go_enter Try.func42, Try.ntmps42
    go_wp2_with (go_at_call 35; refine (valid_any l _ _ _ hl hm).mono ?_; rintro e w2 ⟨rfl, hb2⟩)
    go_ret2
    exact ⟨rfl, hb2⟩
  | true =>
    have hn' : days < 0 := by simp [hv] at hn; omega
    clear hn
    go_enter Try.func42, Try.ntmps42
    go_wp2_with (go_at_call 35; refine (valid_any l _ _ _ hl hm).mono ?_; rintro e w2 ⟨rfl, hb2⟩)
    go_ret2
    exact ⟨rfl, hb2⟩
set_option maxHeartbeats 1600000 in
theorem bridge_ok (l : List Sp) (days : Int) (p : Option Addr) (c : Nat) (w : World) (hl : Sl 2 enc2 w p l) (hm : l.length ≤ 9223372036854775807) (hv : validB (-1) l = true) (hn : 0 ≤ days) :
    Calls Try.prog 42 #[.slice p l.length c, .int .i64 days] w fun e w' => ∃ v, e = .returned (.tuple #[v, .int .i64 0]) ∧ OwnS w w' v (bridgeS days l) ∧ Ext w w' := by
  have HO := Lib.hid ((validB_iff _ _).1 hv)
  have hlen := HO.out.length (by omega) (by omega)
  go_enter Try.func42, Try.ntmps42
  go_wp2_with (go_at_call 35; refine (valid_any l _ _ _ hl hm).mono ?_; rintro e w2 ⟨rfl, hb2⟩)
  clear hv
  go_loopw [6, 19] (fun v i wr => ∃ (k : Nat) (z : Int) (out : List Sp), k ≤ l.length ∧ i = .int .i64 k ∧ OwnS w wr v out ∧ out.length ≤ k ∧ Hid (Ok z (l.drop k)) ∧ Hid (∀ q ∈ out, 0 ≤ q.2 ∧ q.2 ≤ 65536) ∧ Hid (bridgeS days l = (l.drop k).foldl (bridgeStep days) out) ∧ Ext w wr) (fun _ i _ => l.length - (intOf i).toNat)
  case atStart => exact ⟨0, -1, [], Nat.zero_le _, rfl, Owns.nil, by simp, HO, (by unfold Hid; simp), rfl, hb2⟩
  case round =>
    obtain ⟨k, z, out, hk, rfl, hown, hlo, hO, hq, hv, hb⟩ := hrel
    by_cases hlt : k < l.length
    · obtain ⟨b, off, f, t, rfl, hbl, h0, h1, HD, _⟩ := (hl.ext hb).at2 k hlt
      have hok := hO.out
      rw [HD.out] at hok
      obtain ⟨o1, o2, o3, o4, o5⟩ := hok
      dsimp only at o1 o2 o3 o4
      have HO5 := Lib.hid o5
      clear hl o5
      rcases nil_or_snoc out with rfl | ⟨pre, q, rfl⟩
      · obtain ⟨p2, c2, rfl, _⟩ := hown.read enc2_len
        simp only [List.length_nil] at hown ⊢
        go_wp2_with fail
        go_quiet (fail)
        have hown2 := hown.ext (((Ext.refl wr).alloc (.cells #[.int .i64 f, .int .i64 t] 65)).drewN nq)
        have hb2 := (hb.alloc (.cells #[.int .i64 f, .int .i64 t] 65)).drewN nq
        go_wp2_with (at_builtin; refine wpList_append_one rfl _ _ 52 65 16 _ enc2_len enc2_one (by decide) rfl Try.underlying52 infoSp rfl [] (f, t) hown2 hb2 (wr.heap.size + 1) 1 rfl rfl (by simp) (by simp) (by simp) ?_; intro v3 w3 hown3 hb3 _)
        go_roundw
        case rel => exact ⟨k + 1, t, [(f, t)], by omega, by go_num, hown3, by simp, HO5, (by unfold Hid; simp; omega), (by unfold Hid; rw [hv.out, HD.out, List.foldl_cons, bridgeStep_nil]), hb3⟩
        case measure => simp [intOf]; omega
      · obtain ⟨g, c2, rfl, hgB, hg, hcell, hfr, _⟩ := hown.snoc enc2_len
        have q1 := hcell 1 _ rfl
        have hpl : (pre.length : Int) ≤ 65536 := by simp at hlo; omega
        have hqq := hq.out q (by simp)
        clear hcell
        by_cases hd : f - q.2 ≤ days
        · have hde : decide (f - q.2 ≤ days) = true := by simpa using hd
          have hlo2 : pre.length + 1 ≤ k := by simpa using hlo
          go_wp2_with fail
          go_quiet (fail)
          go_wp2_with fail
          go_roundw
          case rel =>
            refine ⟨k + 1, t, pre ++ [(q.1, t)], by omega, by go_num, ?_, by simp; omega, HO5, ?_, (by unfold Hid; rw [hv.out, HD.out, List.foldl_cons, bridgeStep_in (by show f - q.2 ≤ days; omega)]), ?_⟩
            · exact (hown.ext (((Ext.refl wr).alloc (.cells #[.int .i64 f, .int .i64 t] 65)).drewN nq)).store (by simp) (by simp) (flat2_set pre q t)
            · intro r hr
              simp only [List.mem_append, List.mem_singleton] at hr
              rcases hr with hr | rfl
              · exact hq.out r (by simp [hr])
              · exact ⟨by omega, by omega⟩
            · exact ((hb.alloc (.cells #[.int .i64 f, .int .i64 t] 65)).drewN nq).setCell hgB _
          case measure => simp [intOf]; omega
        · have hde : decide (f - q.2 ≤ days) = false := by simpa using hd
          have hlo2 : pre.length + 1 ≤ k := by simpa using hlo
          go_wp2_with fail
          go_quiet (fail)
          have hown2 := hown.ext (((Ext.refl wr).alloc (.cells #[.int .i64 f, .int .i64 t] 65)).drewN nq)
          have hb2 := (hb.alloc (.cells #[.int .i64 f, .int .i64 t] 65)).drewN nq
          go_wp2_with (at_builtin; refine wpList_append_one rfl _ _ 52 65 16 _ enc2_len enc2_one (by decide) rfl Try.underlying52 infoSp rfl (pre ++ [q]) (f, t) hown2 hb2 (wr.heap.size + 1) 1 rfl rfl (by simp) (by simp; omega) (by simp; omega) ?_; intro v3 w3 hown3 hb3 _)
          go_roundw
          case rel =>
            refine ⟨k + 1, t, pre ++ [q] ++ [(f, t)], by omega, by go_num, hown3, by simp; omega, HO5, ?_, (by unfold Hid; rw [hv.out, HD.out, List.foldl_cons, bridgeStep_out (by show ¬ (f - q.2 ≤ days); omega)]), hb3⟩
            intro r hr
            rw [List.mem_append, List.mem_singleton] at hr
            rcases hr with hr | rfl
            · exact hq.out r hr
            · exact ⟨by omega, by omega⟩
          case measure => simp [intOf]; omega
    · go_wp2
      go_ret2
      refine ⟨_, rfl, ?_, hb⟩
      rw [hv.out, drop_end hlt]
      exact hown
end Go.Proofs.Ytbjhehmglahmpaa
