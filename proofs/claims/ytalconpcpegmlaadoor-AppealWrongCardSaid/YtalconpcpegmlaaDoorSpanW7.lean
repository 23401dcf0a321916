import Derived.Test.YtalconpcpegmlaaDoorSpanW6
namespace Go.Proofs.YtalconpcpegmlaaDoor
open Go.RowKit Go.Shelf Go.Sort

/-! ### the sort at spans -/
set_option maxHeartbeats 400000 in
theorem cmp_sp (x y : Sp) (W : World) : Calls Tryd.prog 75 #[.agg #[.int .i64 x.1, .int .i64 x.2], .agg #[.int .i64 y.1, .int .i64 y.2]] W fun e w' => e = .returned (.int .i64 (Lib.compareInt x.1 y.1)) ∧ ∃ q os', w' = grow (W.drewN q) os' := by
  have hcon := fun W' => AnyG.cmp_Compare_int Tryd.laysCmp x.1 y.1 W'
  change ∀ W', Calls Tryd.prog 76 _ _ _ at hcon
  generalize Lib.compareInt x.1 y.1 = r at hcon ⊢
  go_enter Tryd.func75, Tryd.ntmps75
  go_wp2_with (go_at_call 76; refine (hcon _).mono ?_; rintro e w' ⟨rfl, rfl⟩)
  go_ret
  exact ⟨rfl, 0, _, by rw [alloc_eq_grow, alloc_eq_grow, grow_grow]; rfl⟩
theorem ltSp (x y : Sp) : ltOf (fun x y : Sp => Lib.compareInt x.1 y.1) x y = decide (x.1 < y.1) := by
  unfold ltOf Lib.compareInt
  by_cases h1 : x.1 < y.1
  · simp [h1]
  · by_cases h2 : y.1 < x.1 <;> simp [h1, h2]
theorem swoSp : SWO (ltOf fun x y : Sp => Lib.compareInt x.1 y.1) where
  irrefl x := by rw [ltSp]; simp
  trans x y z h1 h2 := by rw [ltSp] at *; simp at *; omega
  ntrans x y z h1 h2 := by rw [ltSp] at *; simp at *; omega
theorem asc_of_sorted : ∀ {l : List Sp} (m : Int), (∀ x ∈ l, m ≤ x.1) → l.Pairwise (fun a b => a.1 ≤ b.1) → Asc m l
  | [], _, _, _ => trivial
  | s :: l, m, hm, hp => by
    rw [List.pairwise_cons] at hp
    exact ⟨hm s (by simp), asc_of_sorted s.1 hp.1 hp.2⟩
theorem asc_any {l : List Sp} (hp : l.Pairwise (fun a b => a.1 ≤ b.1)) : ∃ m, Asc m l := by
  cases l with
  | nil => exact ⟨0, trivial⟩
  | cons s l =>
    rw [List.pairwise_cons] at hp
    exact ⟨s.1, Int.le_refl _, asc_of_sorted s.1 hp.1 hp.2⟩
theorem sorted_list {d : Array Sp} (h : SortedIn (ltOf fun x y : Sp => Lib.compareInt x.1 y.1) 0 d.size d) : d.toList.Pairwise (fun a b => a.1 ≤ b.1) := by
  rw [List.pairwise_iff_getElem]
  intro i j hi hj hij
  have hi' : i < d.size := by simpa using hi
  have hj' : j < d.size := by simpa using hj
  have := h i j (Nat.zero_le _) hij hj'
  rw [ltSp, getElem!_pos d i hi', getElem!_pos d j hj'] at this
  simp at this ⊢
  omega
theorem sort_sp (l : List Sp) (v : Value) (w0 w : World) (hown : OwnS w0 w v l) (hx : Ext w0 w) (hm : l.length < 4611686018427387904) :
    ∃ p c, v = .slice p l.length c ∧ Calls Tryd.prog 74 #[.slice p l.length c, .func (.func 75) #[] #[]] w fun e w' =>
      e = .returned (.tuple #[]) ∧ ∃ l' : List Sp, l'.Perm l ∧ (∃ m, Asc m l') ∧ l'.length = l.length ∧ Sl 2 enc2 w' p l' ∧ Ext w0 w' := by
  have eg : ∀ args w, (callFunc 75 args).run Tryd.prog w = .ok (.enter 75 args) w := enters_of Tryd.func75 (by kernel_rfl) rfl
  rcases nil_or_snoc l with rfl | ⟨pre, q, rfl⟩
  · obtain ⟨p, c, rfl, _⟩ := hown.read enc2_len
    refine ⟨p, c, rfl, ?_⟩
    have hcon := AnyF.slices_SortFunc_none { Tryd.laysSort with } p c (.func (.func 75) #[] #[]) w
    change Calls Tryd.prog 74 _ _ _ at hcon
    exact hcon.mono fun e w' ⟨he, hw⟩ => ⟨he, [], List.Perm.refl _, ⟨0, trivial⟩, rfl, Sl.nil, by rw [hw]; exact hx⟩
  · obtain ⟨g, c, rfl, hgB, hg, _, hfr, _⟩ := hown.snoc enc2_len
    obtain ⟨p2, c2, hv, hs⟩ := hown.read enc2_len
    have hlen : (pre ++ [q]).length = pre.length + 1 := by simp
    refine ⟨some ⟨g, 0, none⟩, c, by rw [hlen], ?_⟩
    simp only [Value.slice.injEq] at hv
    rw [← hv.1] at hs
    obtain ⟨b, off, e, _, hc⟩ := hs.addr (by simp)
    simp only [Option.some.injEq, Addr.mk.injEq, and_true] at e
    obtain ⟨rfl, rfl⟩ := e
    have hH := holdsK_of enc2_len hc hfr
    have hcon := AnyQ.slices_SortFunc Tryd.laysSort 2 Tryd.isAgg57 Tryd.sizeOf57 enc2 enc2_len enc2_one (fun x y => Lib.compareInt x.1 y.1) swoSp 75 #[] g 0 c (pre ++ [q]).toArray w eg (fun _ _ _ _ x y => cmp_sp x y _) hH hg (by simpa using hm)
    change Calls Tryd.prog 74 _ _ _ at hcon
    simp only [List.size_toArray] at hcon
    refine hcon.mono ?_
    rintro e w' ⟨he, d', n, os, hp, hsd, rfl⟩
    have hp' : PermIn 0 (pre ++ [q]).toArray.size (pre ++ [q]).toArray d' := by simpa using hp
    obtain ⟨hsz, hperm⟩ := perm_of_permIn hp'
    have hll : d'.toList.length = (pre ++ [q]).length := by simpa using hsz
    refine ⟨he, d'.toList, hperm, asc_any (sorted_list (by rw [hsz]; simpa using hsd)), hll, ?_, hx.sort hgB hg d' os⟩
    refine Sl.of_holdsK enc2_len ?_ ?_
    · unfold sortWorldK
      exact holdsK_grow (os := os) (hb := by simpa [putRowK, putRow, mapBlock] using hg) (h := holdsK_putRowK (h0 := holdsK_ahead enc2 2 w n g 0 _ hH) (hs := hsz))
    · simp only [sortWorldK, size_grow]
      have : (putRowK enc2 2 (Sort.ahead w n) g 0 d').heap.size = w.heap.size := by simp [putRowK, putRow, mapBlock]
      omega

/-! ### span.Make -/
set_option maxHeartbeats 400000 in
theorem make1_any (f t : Int) (w : World) :
    Calls Tryd.prog 73 #[.agg #[.int .i64 f, .int .i64 t]] w fun e w' => e = .returned (.bool (!rightB (f, t))) ∧ Ext w w' := by
  go_enter Tryd.func73, Tryd.ntmps73
  go_wp2_with (go_at_call 35; refine (right_any _ _ _).mono ?_; rintro e w2 ⟨rfl, hb2⟩)
  go_ret
  exact ⟨rfl, ((Ext.refl w).alloc _).trans hb2⟩
theorem make1_pred (w : World) : PredBelow Tryd.prog 73 #[] (fun x => .agg (enc2 x).toArray) (fun s => !rightB s) w := fun W x hb =>
  (make1_any x.1 x.2 W).mono fun _ _ ⟨he, hx⟩ => ⟨he, hb.trans (hx.out.mono hb.size)⟩
set_option maxHeartbeats 400000 in
theorem make_bad (l : List Sp) (p : Option Addr) (c : Nat) (w : World) (hl : Sl 2 enc2 w p l) (hm : l.length ≤ 4398046511104) (hr : l.all rightB = false) :
    Calls Tryd.prog 65 #[.slice p l.length c] w fun e w' => e = .returned (.tuple #[.slice none 0 0, .int .i64 2]) ∧ Ext w w' := by
  have eg : ∀ args w, (callFunc 73 args).run Tryd.prog w = .ok (.enter 73 args) w := enters_of Tryd.func73 (by kernel_rfl) rfl
  have HA : Hid ((l.any fun s => !rightB s) = true) := by
    unfold Hid
    simpa [List.any_eq_true, List.all_eq_false] using hr
  clear hr
  go_enter Tryd.func65, Tryd.ntmps65
  go_wp2_with (go_at_call 48; refine (containsFunc_sp l _ _ 73 #[] (fun s => !rightB s) _ hl (by omega) (make1_pred _) eg).mono ?_; rintro e w2 ⟨rfl, hb2⟩; rw [HA.out])
  go_ret2
  exact ⟨rfl, hb2⟩
set_option maxHeartbeats 1600000 in
theorem make_ok (l : List Sp) (p : Option Addr) (c : Nat) (w : World) (hl : Sl 2 enc2 w p l) (hm : l.length ≤ 4398046511104) (hr : l.all rightB = true) :
    Calls Tryd.prog 65 #[.slice p l.length c] w fun e w' => ∃ v l', e = .returned (.tuple #[v, .int .i64 0]) ∧ OwnS w w' v (mergeS l') ∧ l'.Perm l ∧ (∃ m, Asc m l') ∧ Ext w w' := by
  have eg : ∀ args w, (callFunc 73 args).run Tryd.prog w = .ok (.enter 73 args) w := enters_of Tryd.func73 (by kernel_rfl) rfl
  have HA : Hid ((l.any fun s => !rightB s) = false) := by
    unfold Hid
    simp only [List.all_eq_true] at hr
    simp only [List.any_eq_false, Bool.not_eq_true, Bool.not_eq_false']
    exact hr
  have HR := Lib.hid hr
  clear hr
  go_enter Tryd.func65, Tryd.ntmps65
  go_wp2_with fail
  refine (containsFunc_sp l _ _ 73 #[] (fun s => !rightB s) _ hl (by omega) (make1_pred _) eg).mono ?_
  rintro e w2 ⟨rfl, hb2⟩
  rw [HA.out]
  go_wp2_with fail
  refine (clone_any l _ _ _ (hl.ext hb2) hm).mono ?_
  rintro e w3 ⟨v3, rfl, hown3, hb3⟩
  obtain ⟨p3, c3, rfl, hcall⟩ := sort_sp l v3 w2 w3 hown3 hb3 (by omega)
  go_wp2_with fail
  refine hcall.mono ?_
  rintro e w4 ⟨rfl, l', hperm, hasc, hll, hsl, hb4⟩
  have HP := Lib.hid (show l'.Perm l ∧ (∃ m, Asc m l') ∧ l'.length = l.length from ⟨hperm, hasc, hll⟩)
  have hext : Ext w w4 := hb2.trans hb4
  clear hcall hperm hasc hll hl hown3 hb3 hb4 hb2 eg
  rw [← HP.out.2.2]
  have hl9 : l'.length ≤ 4398046511104 := by rw [HP.out.2.2]; exact hm
  clear hm
  have HA2 : Hid (∀ s ∈ l', 0 ≤ s.1 ∧ s.1 ≤ s.2 ∧ s.2 ≤ 65536) := fun s hs => (rightB_iff s).1 (by have := HR.out; rw [List.all_eq_true] at this; exact this s (HP.out.1.mem_iff.1 hs))
  go_wp2_with fail
  go_loopw [5, 17] (fun v i wr => ∃ (k : Nat) (out : List Sp), k ≤ l'.length ∧ i = .int .i64 k ∧ OwnS w4 wr v out ∧ out.length ≤ k ∧ Hid (mergeS l' = (l'.drop k).foldl mergeStep out) ∧ Ext w4 wr) (fun _ i _ => l'.length - (intOf i).toNat)
  case atStart => exact ⟨0, [], Nat.zero_le _, rfl, Owns.nil, by simp, rfl, Ext.refl _⟩
  case round =>
    obtain ⟨k, out, hk, rfl, hown, hlo, hv, hb4⟩ := hrel
    by_cases hlt : k < l'.length
    · obtain ⟨b, off, f, t, rfl, hbl, h0, h1, HD, HG⟩ := (hsl.ext hb4).at2 k hlt
      have hrr := HA2.out (f, t) (by rw [← HG.out]; exact List.getElem_mem hlt)
      dsimp only at hrr
      have hB := hb4.alloc (.cells #[.int .i64 f, .int .i64 t] 57)
      have hE := (Ext.refl wr).alloc (.cells #[.int .i64 f, .int .i64 t] 57)
      clear hsl hext
      rcases nil_or_snoc out with rfl | ⟨pre, q, rfl⟩
      · obtain ⟨p2, c2, rfl, _⟩ := hown.read enc2_len
        simp only [List.length_nil] at hown ⊢
        by_cases hft : f = t
        · have hft2 : (f == t) = true := by simpa using hft
          have HF := Lib.hid hft; clear hft
          go_wp2_with fail
          go_roundw
          case rel => exact ⟨k + 1, [], by omega, by go_num, hown.alloc _, by simp, (by unfold Hid; rw [hv.out, HD.out, List.foldl_cons, mergeStep_same HF.out]), hB⟩
          case measure => simp [intOf]; omega
        · have hft2 : (f == t) = false := by simpa using hft
          have HF := Lib.hid hft; clear hft
          go_wp2_with fail
          go_quiet (fail)
          have hown2 := hown.ext (hE.drewN nq)
          go_wp2_with (at_builtin; refine wpList_append_one rfl _ _ 37 57 16 _ enc2_len enc2_one (by decide) rfl Tryd.underlying37 infoSp rfl [] (f, t) hown2 (hB.drewN nq) (wr.heap.size + 1) 1 rfl rfl (by simp) (by simp) (by simp) ?_; intro v3 w3 hown3 hb3 hgr3)
          go_roundw
          case rel => exact ⟨k + 1, [(f, t)], by omega, by go_num, hown3, by simp, (by unfold Hid; rw [hv.out, HD.out, List.foldl_cons, mergeStep_nil HF.out]), hb3⟩
          case measure => simp [intOf]; omega
      · obtain ⟨g, c2, rfl, hgB, hg, hcell, hfr, _⟩ := hown.snoc enc2_len
        have q1 := hcell 1 _ rfl
        have hpl : (pre.length : Int) ≤ 4398046511104 := by simp at hlo; omega
        have hlo2 : pre.length + 1 ≤ k := by simpa using hlo
        clear hcell
        by_cases hft : f = t
        · have hft2 : (f == t) = true := by simpa using hft
          have HF := Lib.hid hft; clear hft
          go_wp2_with fail
          go_roundw
          case rel => exact ⟨k + 1, pre ++ [q], by omega, by go_num, hown.alloc _, by simp; omega, (by unfold Hid; rw [hv.out, HD.out, List.foldl_cons, mergeStep_same HF.out]), hB⟩
          case measure => simp [intOf]; omega
        · have hft2 : (f == t) = false := by simpa using hft
          have HF := Lib.hid hft; clear hft
          by_cases hq2 : f ≤ q.2
          · have hq3 : decide (f ≤ q.2) = true := by simpa using hq2
            go_wp2_with fail
            go_quiet (fail)
            go_wp2_with fail
            go_region
            go_wp2_with fail
            go_roundw
            case rel =>
              refine ⟨k + 1, pre ++ [(q.1, max q.2 t)], by omega, by go_num, ?_, by simp; omega, (by unfold Hid; rw [hv.out, HD.out, List.foldl_cons, mergeStep_in HF.out (by show f ≤ q.2; omega)]), ?_⟩
              · exact (hown.ext (hE.drewN _)).store (by simp) (by simp) (flat2_set pre q _)
              · exact (hB.drewN _).setCell hgB _
            case measure => simp [intOf]; omega
          · have hq3 : decide (f ≤ q.2) = false := by simpa using hq2
            have HQ := Lib.hid hq2
            go_wp2_with fail
            go_quiet (fail)
            have hown2 := hown.ext (hE.drewN nq)
            go_wp2_with (at_builtin; refine wpList_append_one rfl _ _ 37 57 16 _ enc2_len enc2_one (by decide) rfl Tryd.underlying37 infoSp rfl (pre ++ [q]) (f, t) hown2 (hB.drewN nq) (wr.heap.size + 1) 1 rfl rfl (by simp) (by simp; omega) (by simp; omega) ?_; intro v3 w3 hown3 hb3 hgr3)
            go_roundw
            case rel => exact ⟨k + 1, pre ++ [q] ++ [(f, t)], by omega, by go_num, hown3, by simp; omega, (by unfold Hid; rw [hv.out, HD.out, List.foldl_cons, mergeStep_out HF.out (by have := HQ.out; show ¬ f ≤ q.2; omega)]), hb3⟩
            case measure => simp [intOf]; omega
    · go_wp2
      go_ret2
      refine ⟨_, l', rfl, ?_, HP.out.1, HP.out.2.1, hext.trans hb4⟩
      rw [hv.out, drop_end hlt]
      exact hown.mono hext.size
end Go.Proofs.YtalconpcpegmlaaDoor
