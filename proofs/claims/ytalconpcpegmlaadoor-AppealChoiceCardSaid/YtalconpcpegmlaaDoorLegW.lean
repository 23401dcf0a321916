import Derived.Test.YtalconpcpegmlaaDoorLegP
import Derived.Laws.MakeOwn
/- annuitantlaw40.AppealChoice, walked. -/
namespace Go.Proofs.YtalconpcpegmlaaDoor
open Go.RowKit
set_option linter.unusedVariables false

/-- A row of numbers. -/
def RowI (w : World) (g n : Nat) (f : Nat → Int) : Prop := ∃ c : Array Value, w.heap[g]? = some (.cells c 3 (0, 0)) ∧ ∀ i : Nat, i < n → c[i]? = some (.int .i64 (f i))
theorem RowI.cell {w : World} {g n : Nat} {f : Nat → Int} (h : RowI w g n f) (i : Nat) (hi : i < n) : w.cell? ⟨g, i, none⟩ = some (.int .i64 (f i)) ∧ w.frozen? ⟨g, i, none⟩ = false ∧ g < w.heap.size := by
  obtain ⟨c, h1, h2⟩ := h
  exact ⟨(cell_of h1).trans (h2 i hi), frozen_of h1, lt_of h1⟩
theorem RowI.ext {w w' : World} {g n : Nat} {f : Nat → Int} (h : RowI w g n f) (hx : Ext w w') : RowI w' g n f :=
  let ⟨c, h1, h2⟩ := h
  ⟨c, heap_ext h1 hx, h2⟩
theorem RowI.congr {w : World} {g n : Nat} {f f' : Nat → Int} (h : RowI w g n f) (he : ∀ i, i < n → f i = f' i) : RowI w g n f' :=
  let ⟨c, h1, h2⟩ := h
  ⟨c, h1, fun i hi => by rw [h2 i hi, he i hi]⟩
theorem RowI.set {w : World} {g n : Nat} {f : Nat → Int} (h : RowI w g n f) (i : Nat) (v : Int) : RowI (w.setCell ⟨g, i, none⟩ (.int .i64 v)) g n (fun j => if j = i then v else f j) := by
  obtain ⟨c, h1, h2⟩ := h
  refine ⟨_, heap_same h1, fun j hj => ?_⟩
  rw [Array.getElem?_setIfInBounds]
  by_cases hij : i = j
  · subst hij
    have : i < c.size := (Array.getElem?_eq_some_iff.1 (h2 i hj)).1
    rw [if_pos rfl, if_pos this]; simp
  · rw [if_neg hij, h2 j hj]
    show some (Value.int IntKind.i64 (f j)) = some (Value.int IntKind.i64 (if j = i then v else f j))
    rw [if_neg (fun e : j = i => hij e.symm)]
theorem RowI.other {w : World} {g g' n i : Nat} {f : Nat → Int} {u : Value} (h : RowI w g n f) (hne : g ≠ g') : RowI (w.setCell ⟨g', i, none⟩ u) g n f :=
  let ⟨c, h1, h2⟩ := h
  ⟨c, heap_other h1 hne, h2⟩
theorem RowI.typed {w : World} {g n : Nat} {f : Nat → Int} (h : RowI w g n f) : ∃ c, w.heap[g]? = some (.cells c 3 (0, 0)) := let ⟨c, h1, _⟩ := h; ⟨c, h1⟩
theorem mk_ints (n : Nat) (h : n ≤ 1000000) : ∃ mk : Array Value, (∀ i : Nat, i < n → mk[i]? = some (.int .i64 0)) ∧
    ∀ w : World, (Instr.makeSlice 44 (.int .i64 n) (.int .i64 n)).run Tryd.prog w = .ok (.slice (some ⟨w.heap.size, 0, none⟩) n n) (w.alloc (.cells mk 3)) := by
  obtain ⟨i0, hi, hz0, hz1, hz2⟩ := info_parts infoI
  refine ⟨madeCells (.int .i64 0 : Value).cells (n * i0.size), fun i hi => ?_, fun w => ?_⟩
  · have h1 : (.int .i64 0 : Value).cells = #[.int .i64 0] := rfl
    rw [hz1, h1]
    simp [madeCells]
    exact ⟨i, by simp [hi], by simp [Nat.mod_one]⟩
  · have h := run_make w 44 3 i0 (.int .i64 0) Tryd.underlying44 hi hz0 .i64 .i64 n n (by omega) (by omega) (by rw [hz2]; omega) (by omega)
    rw [h]
    rfl
def elN (cs : List Cs) (i : Nat) : Bool := match cs[i]? with | some c => c.el | none => false
def wantN (cs : List Cs) (t : List Fl) (i : Nat) : Int := chK i (if elN cs i = true then 1 else 0) t
theorem wantN_snoc (cs : List Cs) (t : List Fl) (f : Fl) (i : Nat) : wantN cs (t ++ [f]) i = if f.cs = (i : Int) + 1 ∧ f.kind = 2 then f.n else wantN cs t i := chK_snoc i _ t f
theorem takeS {T : List Fl} {k : Nat} {f : Fl} (h : k < T.length) (hf : T[k] = f) : T.take (k + 1) = T.take k ++ [f] := by rw [List.take_succ_eq_append_getElem h, hf]
theorem lvK_bd (k : Nat) {t : List Fl} : ∀ {n : Nat}, t.length ≤ n → 0 ≤ lvK k t ∧ lvK k t ≤ (n : Int) := by
  induction t using snoc_ind with
  | h0 => intro n _; exact ⟨Int.le_refl _, by show (0 : Int) ≤ n; omega⟩
  | h1 t f ih =>
    intro n h
    simp only [List.length_append, List.length_cons, List.length_nil] at h
    have := ih (n := n - 1) (by omega)
    rw [lvK_snoc]
    split <;> omega
set_option maxHeartbeats 6400000 in
set_option maxRecDepth 100000 in
theorem choiceLaw_c (l : List Nt) (p : Option Addr) (c : Nat) (m : Option Nat) (w : World) (hl : Sl 5 encN w p l) (hm : l.length ≤ 9223372036854775807) (hu : BtU l) (hr : RowsAt m w) (haw : AwakeOk m) :
    Calls Tryd.prog 8 #[.slice p l.length c] w fun e w' => e = .returned (.bool true) ∧ Ext w w' := by
  have HU := Lib.hid hu
  have HR := Lib.hid hr
  have HAW := Lib.hid haw
  clear hu hr haw
  go_enter Tryd.func8, Tryd.ntmps8
  go_wp2_with fail
  refine (HAW.out _ HR.out).mono ?_
  rintro e w1 ⟨rfl, x1⟩
  go_wp2_with fail
  refine (built_c l p c _ (hl.ext x1) hm HU.out).mono ?_
  rintro e w2 ⟨pf, cf, fs, rfl, hof, hlf, hff, x2⟩
  have HK := Lib.hid (kinds_of hff)
  have HS := Lib.hid (hof.slOf encF_len)
  have HX2 := Lib.hid (x1.trans x2)
  have hl1000 : fs.length ≤ 1000 := by omega
  clear hof hff hl x1 x2
  go_wp2_with fail
  refine (last_c fs pf cf m _ HS.out hl1000 (HR.out.ext HX2.out) HK.out).mono ?_
  rintro e w3 ⟨rfl, x3⟩
  have HLB := Lib.hid (DI.dock fs).last
  obtain ⟨L, HL⟩ : ∃ L, Hid ((dockP fs).2 = L) := ⟨_, rfl⟩
  have HAT : Hid (atP fs L = ((dockP fs).1.map (onP · L), 0)) := by unfold Hid; rw [← HL.out]; exact at_from (Int.le_refl _) HLB.out.2
  rw [HL.out] at HLB ⊢
  go_wp2_with fail
  refine (at_c fs L pf cf m _ (HS.out.ext x3) (by omega) (HR.out.ext (HX2.out.trans x3)) HK.out).mono ?_
  rintro e w4 ⟨pc, cc, xs, rfl, hm1, ho, hh, x4⟩
  have HC := Lib.hid (csl_at ho hh hm1)
  rw [HAT.out] at hm1 ⊢
  have hN : xs.length = (dockP fs).1.length := by have := congrArg List.length hm1; simpa using this
  obtain ⟨N, HN⟩ : ∃ N, Hid (xs.length = N) := ⟨_, rfl⟩
  obtain ⟨C, HCD⟩ : ∃ C, Hid ((dockP fs).1 = C) := ⟨_, rfl⟩
  have HCN : Hid (C.length = N) := by unfold Hid; rw [← HN.out, hN, HCD.out]
  have hN100 : N ≤ 100 := by rw [← HCN.out, ← HCD.out]; exact (DI.dock fs).len
  have HON : Hid (∀ (k : Nat) (h : k < xs.length) (h' : k < C.length), xs[k].1 = onP C[k] L) := by
    intro k h h'
    have e : (xs.map (·.1))[k]? = some xs[k].1 := by rw [List.getElem?_map, List.getElem?_eq_getElem h]; rfl
    rw [hm1, HCD.out, List.getElem?_map, List.getElem?_eq_getElem h'] at e
    exact (Option.some.inj e).symm
  rw [HN.out]
  have HX4 := Lib.hid ((HX2.out.trans x3).trans x4)
  have HS4 := Lib.hid ((HS.out.ext x3).ext x4)
  have HR4 := Lib.hid (HR.out.ext HX4.out)
  clear hm1 hN ho hh x3 x4
  obtain ⟨mk, hmk0, hmk⟩ := mk_ints N (by omega)
  have h1 := heap_ext (heap_new w4 (.cells mk 3)) ((Ext.refl (w4.alloc (.cells mk 3))).alloc (.cells mk 3))
  have h2 := heap_new1 w4 (.cells mk 3) (.cells mk 3)
  have hx5 := ((Ext.refl w4).alloc (.cells mk 3)).alloc (.cells mk 3)
  go_upto_region 9 with fail
  clear hmk
  obtain ⟨g, HG⟩ : ∃ g, Hid (w4.heap.size = g) := ⟨_, rfl⟩
  obtain ⟨h, HH⟩ : ∃ h, Hid (w4.heap.size + 1 = h) := ⟨_, rfl⟩
  have HGB : Hid (w4.heap.size ≤ g) := by unfold Hid; have := HG.out; omega
  have HHB : Hid (w4.heap.size ≤ h) := by unfold Hid; have := HH.out; omega
  have hgh : g ≠ h := by have := HG.out; have := HH.out; omega
  have hhg : h ≠ g := fun e => hgh e.symm
  try rw [HH.out] at h2 ⊢
  rw [HG.out] at h1 ⊢
  have hr1 : RowI ((w4.alloc (.cells mk 3)).alloc (.cells mk 3)) g N (fun _ => 0) := ⟨mk, h1, hmk0⟩
  have hr2 : RowI ((w4.alloc (.cells mk 3)).alloc (.cells mk 3)) h N (fun _ => 0) := ⟨mk, h2, hmk0⟩
  clear h1 h2 hmk0
  generalize (w4.alloc (.cells mk 3)).alloc (.cells mk 3) = W at hr1 hr2 hx5 ⊢
  go_wp2_with fail
  go_loopw [35] (fun i wr => ∃ k : Nat, k ≤ N ∧ i = .int .i64 k ∧ RowI wr g N (fun i => if i < k ∧ elN C i = true then 1 else 0) ∧ RowI wr h N (fun _ => 0) ∧ Ext w4 wr) (fun i _ => N - (intOf i).toNat)
  case atStart => exact ⟨0, Nat.zero_le _, rfl, hr1.congr fun i _ => (if_neg (by omega)).symm, hr2, hx5⟩
  case round =>
    obtain ⟨k, hk, rfl, hra, hrb, hx⟩ := hrel
    clear hr1 hr2 hx5
    by_cases hlt : k < N
    · have hlt1 : (k : Int) < (N : Int) := by omega
      have hkx : k < xs.length := by rw [HN.out]; exact hlt
      have hkC : k < C.length := by rw [HCN.out]; exact hlt
      obtain ⟨q1, o1, a, pa, ca, rfl, hl1, ⟨a0, a1, a2, a3, a4, a5, a6, a7, a8, a9⟩, HA⟩ := (HC.out.ext hx).sl.atC k hkx
      have HEL : Hid (elN C k = a.el) := by
        have h3 := HON.out k hkx hkC
        rw [HA.out] at h3
        unfold Hid elN
        rw [List.getElem?_eq_getElem hkC, show a = onP C[k] L from h3]
        exact (pass_same C[k] L).1.symm
      have hB := heap_new wr (.cells #[.bool a.el, .int .u8 a.st, .int .i64 a.op, .int .i64 a.dy, .int .i64 a.ch, .int .i64 a.lv, .int .i64 a.due, .bool a.hd, .int .i64 a.sn, .slice pa a.held.length ca] 39)
      have hxa := (Ext.refl wr).alloc (.cells #[.bool a.el, .int .u8 a.st, .int .i64 a.op, .int .i64 a.dy, .int .i64 a.ch, .int .i64 a.lv, .int .i64 a.due, .bool a.hd, .int .i64 a.sn, .slice pa a.held.length ca] 39)
      go_upto_region 12 with fail
      obtain ⟨X, HXX⟩ : ∃ x, Hid (wr.heap.size = x) := ⟨_, rfl⟩
      rw [HXX.out] at hB ⊢
      replace hra := hra.ext hxa
      replace hrb := hrb.ext hxa
      replace hx := hx.trans hxa
      generalize wr.alloc (.cells #[.bool a.el, .int .u8 a.st, .int .i64 a.op, .int .i64 a.dy, .int .i64 a.ch, .int .i64 a.lv, .int .i64 a.due, .bool a.hd, .int .i64 a.sn, .slice pa a.held.length ca] 39) = W2 at hB hra hrb hx ⊢
      clear hxa a0 a1 a2 a3 a4 a5 a6 a7 a8 a9 hl1
      obtain ⟨m0, _, _, _, _, _, _, _, _, _⟩ := cells10 hB
      have hXl := lt_of hB
      obtain ⟨cg, fg, gg⟩ := hra.cell k hlt
      cases hel : a.el with
      | true =>
        rw [hel] at m0
        go_wp2_with fail
        go_roundw
        case rel =>
          refine ⟨k + 1, by omega, by go_num, (hra.set k 1).congr fun i _ => ?_, hrb.other hhg, hx.setCell HGB.out _⟩
          have he := HEL.out
          by_cases hik : i = k
          · subst hik
            rw [if_pos rfl, if_pos ⟨by omega, by rw [he]; exact hel⟩]
          · rw [if_neg hik]
            by_cases hq : i < k ∧ elN C i = true
            · rw [if_pos hq, if_pos ⟨by omega, hq.2⟩]
            · rw [if_neg hq, if_neg (fun h => hq ⟨by omega, h.2⟩)]
        case measure => simp [intOf]; omega
      | false =>
        rw [hel] at m0
        go_wp2_with fail
        go_roundw
        case rel =>
          refine ⟨k + 1, by omega, by go_num, hra.congr fun i _ => ?_, hrb, hx⟩
          have he := HEL.out
          by_cases hq : i < k ∧ elN C i = true
          · rw [if_pos hq, if_pos ⟨by omega, hq.2⟩]
          · rw [if_neg hq, if_neg (fun h => hq ⟨by
              have := h.1
              have h3 : i ≠ k := fun e => by subst e; rw [he, hel] at h; exact absurd h.2 (by decide)
              omega, h.2⟩)]
        case measure => simp [intOf]; omega
    · have hlt1 : ¬ (k : Int) < (N : Int) := by omega
      have hra : RowI wr g N (fun i => wantN C [] i) := hra.congr fun i hi => by
        unfold wantN chK
        by_cases he : elN C i = true
        · rw [if_pos ⟨by omega, he⟩, if_pos he]; rfl
        · rw [if_neg (fun h => he h.2), if_neg he]; rfl
      clear hlt
      go_wp2_with fail
      refine (taken_c fs pf cf m _ (HS4.out.ext hx) (by omega) (HR4.out.ext hx) HK.out).mono ?_
      rintro e w5 ⟨v3, rfl, ho3, x5⟩
      have HTK := Lib.hid (taken fs hl1000)
      have hTl := takenP_len fs
      obtain ⟨T, HT⟩ : ∃ T, Hid (takenP fs = T) := ⟨_, rfl⟩
      obtain ⟨pt, ct, rfl, _⟩ := ho3.read encF_len
      rw [HT.out] at ho3 hTl ⊢
      obtain ⟨nt, HNT⟩ : ∃ nt, Hid (T.length = nt) := ⟨_, rfl⟩
      have hnt : nt ≤ 30 := by rw [← HNT.out]; omega
      have HTF : Hid (∀ f ∈ T, formedB f = true ∧ f.cs ≤ (N : Int)) := by
        intro f hf
        rw [← HT.out] at hf
        have h3 := HTK.out.cs f hf
        rw [HCD.out, HCN.out] at h3
        exact ⟨HTK.out.formed f hf, h3⟩
      have HCH : Hid (∀ k c, C[k]? = some c → c.ch = wantN C T k ∧ c.lv = lvK k T) := by
        intro k c hk
        have h3 := HTK.out.ch k c (by rw [HCD.out]; exact hk)
        rw [HT.out] at h3
        unfold wantN elN
        rw [hk]
        exact h3
      have HO3 := Lib.hid ho3
      replace hra := hra.ext x5
      replace hrb := hrb.ext x5
      replace hx := hx.trans x5
      clear ho3 x5 hTl
      rw [HNT.out]
      go_wp2_with fail
      go_loopw [49] (fun i wr => ∃ k : Nat, k ≤ nt ∧ i = .int .i64 k ∧ RowI wr g N (fun i => wantN C (T.take k) i) ∧ RowI wr h N (fun i => lvK i (T.take k)) ∧ Hid (Apart [3] w5 wr) ∧ Ext w4 wr) (fun i _ => nt - (intOf i).toNat)
      case atStart => exact ⟨0, Nat.zero_le _, rfl, hra, hrb, Apart.refl _, hx⟩
      case round =>
        obtain ⟨j, hj, rfl, hra, hrb, HAP, hx⟩ := hrel
        by_cases hltj : j < nt
        · have hltj1 : (j : Int) < (nt : Int) := by omega
          have hjT : j < T.length := by rw [HNT.out]; exact hltj
          have hst : Sl 6 encF wr pt T := (HO3.out.aside HAP.out (by decide)).slOf encF_len
          obtain ⟨bb, off, f, rfl, hbl, c0, c1, c2, c3, c4, c5, HF⟩ := hst.atF j hjT
          have HFT := Lib.hid (HTF.out f (by rw [← HF.out]; exact List.getElem_mem hjT))
          have HTS := Lib.hid (takeS hjT HF.out)
          have hB := heap_new wr (.cells #[.int .u8 f.kind, .int .i64 f.day, .int .i64 f.cs, .int .i64 f.n, .int .i64 f.un, .bool f.hold] 30)
          have hxa := (Ext.refl wr).alloc (.cells #[.int .u8 f.kind, .int .i64 f.day, .int .i64 f.cs, .int .i64 f.n, .int .i64 f.un, .bool f.hold] 30)
          clear hst
          go_upto_region 18 with fail
          obtain ⟨X, HXX⟩ : ∃ x, Hid (wr.heap.size = x) := ⟨_, rfl⟩
          rw [HXX.out] at hB ⊢
          replace hra := hra.ext hxa
          replace hrb := hrb.ext hxa
          replace hx := hx.trans hxa
          replace HAP := Lib.hid (HAP.out.trans hxa.apart)
          generalize wr.alloc (.cells #[.int .u8 f.kind, .int .i64 f.day, .int .i64 f.cs, .int .i64 f.n, .int .i64 f.un, .bool f.hold] 30) = W2 at hB hra hrb hx HAP ⊢
          clear hxa c0 c1 c2 c3 c4 c5 hbl
          obtain ⟨m0, m1, m2, m3, m4, m5⟩ := cells6 hB
          have hXl := lt_of hB
          by_cases hc1 : f.cs < 1
          · have hc0 : f.cs = 0 := by
              have := HFT.out.1
              by_cases hs : stP f.kind = 0
              · exact cs_zero this hs
              · have := cs_pos this hs; omega
            rw [hc0] at m2
            have HSA : Hid (wantN C (T.take (j + 1)) = wantN C (T.take j)) := by
              funext i
              rw [HTS.out, wantN_snoc, if_neg (by rw [hc0]; omega)]
            have HSB : Hid ((fun i => lvK i (T.take (j + 1))) = fun i => lvK i (T.take j)) := by
              funext i
              rw [HTS.out, lvK_snoc, if_neg (by rw [hc0]; omega)]
            clear hc1
            go_wp2_with fail
            go_roundw
            case rel => exact ⟨j + 1, by omega, by go_num, hra.congr fun i _ => by rw [HSA.out], hrb.congr fun i _ => (congrFun HSB.out i).symm, HAP, hx⟩
            case measure => simp [intOf]; omega
          · obtain ⟨i0, hi0⟩ : ∃ i0 : Nat, f.cs = (i0 : Int) + 1 := ⟨(f.cs - 1).toNat, by omega⟩
            have q1 : decide (f.cs < 1) = false := by simpa using hc1
            have q2 : decide ((N : Int) < f.cs) = false := by have := HFT.out.2; simpa using this
            have hiN : i0 < N := by have := HFT.out.2; omega
            have hiN1 : (i0 : Int) < (N : Int) := by omega
            have hwi : IntKind.i64.wrap (f.cs - 1) = (i0 : Int) := by rw [hi0, Int.add_sub_cancel]; exact IntWalk.i64_in _ (by omega)
            obtain ⟨cg, fg, gg⟩ := hra.cell i0 hiN
            obtain ⟨ch, fh, gh⟩ := hrb.cell i0 hiN
            have HI0 := Lib.hid hi0
            have hne : X ≠ g := by
              obtain ⟨_, h3⟩ := hra.typed
              intro e; subst e; rw [h3] at hB; cases hB
            have hne' : X ≠ h := by
              obtain ⟨_, h3⟩ := hrb.typed
              intro e; subst e; rw [h3] at hB; cases hB
            clear hc1 hi0
            by_cases k2 : f.kind = 2
            · have p2 : (f.kind == 2) = true := by simp [k2]
              have p5 : (f.kind == 5) = false := by simp [k2]
              have HSA : Hid (∀ i, wantN C (T.take (j + 1)) i = if i = i0 then f.n else wantN C (T.take j) i) := by
                intro i
                rw [HTS.out, wantN_snoc]
                by_cases hii : i = i0
                · rw [if_pos ⟨by rw [HI0.out, hii], k2⟩, if_pos hii]
                · rw [if_neg (fun h => hii (by have := h.1; have := HI0.out; omega)), if_neg hii]
              have HSB : Hid (∀ i, lvK i (T.take (j + 1)) = lvK i (T.take j)) := by
                intro i
                rw [HTS.out, lvK_snoc, if_neg (by omega)]
              have HK2 := Lib.hid k2
              clear k2
              go_wp2_with fail
              go_roundw
              case rel =>
                obtain ⟨_, h3⟩ := hra.typed
                exact ⟨j + 1, by omega, by go_num, (hra.set i0 f.n).congr fun i _ => (HSA.out i).symm, (hrb.other hhg).congr fun i _ => (HSB.out i).symm, HAP.out.trans (Apart.setCell h3 (by decide) _), hx.setCell HGB.out _⟩
              case measure => simp [intOf]; omega
            · have p2 : (f.kind == 2) = false := by simp [k2]
              have HSA : Hid (∀ i, wantN C (T.take (j + 1)) i = wantN C (T.take j) i) := by
                intro i
                rw [HTS.out, wantN_snoc, if_neg (fun h => k2 h.2)]
              clear k2
              by_cases k5 : f.kind = 5
              · have p5 : (f.kind == 5) = true := by simp [k5]
                have hlb : 0 ≤ lvK i0 (T.take j) ∧ lvK i0 (T.take j) ≤ (j : Int) := lvK_bd i0 (Nat.le_trans (List.length_take_le _ _) (Nat.le_refl _))
                have hlw := IntWalk.i64_in (lvK i0 (T.take j) + 1) (by omega)
                have HSB : Hid (∀ i, lvK i (T.take (j + 1)) = if i = i0 then lvK i0 (T.take j) + 1 else lvK i (T.take j)) := by
                  intro i
                  rw [HTS.out, lvK_snoc]
                  by_cases hii : i = i0
                  · subst hii; rw [if_pos ⟨by rw [HI0.out], k5⟩, if_pos rfl]
                  · rw [if_neg (fun h => hii (by have := h.1; have := HI0.out; omega)), if_neg hii]
                have HK5 := Lib.hid k5
                clear k5
                go_wp2_with fail
                go_roundw
                case rel =>
                  obtain ⟨_, h3⟩ := hrb.typed
                  exact ⟨j + 1, by omega, by go_num, (hra.other hgh).congr fun i _ => (HSA.out i).symm, (hrb.set i0 _).congr fun i _ => (HSB.out i).symm, HAP.out.trans (Apart.setCell h3 (by decide) _), hx.setCell HHB.out _⟩
                case measure => simp [intOf]; omega
              · have p5 : (f.kind == 5) = false := by simp [k5]
                have HSB : Hid (∀ i, lvK i (T.take (j + 1)) = lvK i (T.take j)) := by
                  intro i
                  rw [HTS.out, lvK_snoc, if_neg (fun h => k5 h.2)]
                clear k5
                go_wp2_with fail
                go_roundw
                case rel => exact ⟨j + 1, by omega, by go_num, hra.congr fun i _ => (HSA.out i).symm, hrb.congr fun i _ => (HSB.out i).symm, HAP, hx⟩
                case measure => simp [intOf]; omega
        · have hltj1 : ¬ (j : Int) < (nt : Int) := by omega
          have hTT : T.take j = T := List.take_of_length_le (by rw [HNT.out]; omega)
          rw [hTT] at hra hrb
          clear HAP hTT
          go_wp2_with fail
          go_loopw [90] (fun i wr => ∃ k : Nat, k ≤ N ∧ i = .int .i64 k ∧ RowI wr g N (fun i => wantN C T i) ∧ RowI wr h N (fun i => lvK i T) ∧ Ext w4 wr) (fun i _ => N - (intOf i).toNat)
          case atStart => exact ⟨0, Nat.zero_le _, rfl, hra, hrb, hx⟩
          case round =>
            obtain ⟨i, hi, rfl, hra, hrb, hx⟩ := hrel
            by_cases hlti : i < N
            · have hlti1 : (i : Int) < (N : Int) := by omega
              have hix : i < xs.length := by rw [HN.out]; exact hlti
              have hiC : i < C.length := by rw [HCN.out]; exact hlti
              obtain ⟨q1, o1, a, pa, ca, rfl, hl1, ⟨a0, a1, a2, a3, a4, a5, a6, a7, a8, a9⟩, HA⟩ := (HC.out.ext hx).sl.atC i hix
              obtain ⟨cg, fg, gg⟩ := hra.cell i hlti
              obtain ⟨ch, fh, gh⟩ := hrb.cell i hlti
              have hao : a = onP C[i] L := by have h3 := HON.out i hix hiC; rw [HA.out] at h3; exact h3
              have hci := (DI.dock fs).all C[i] (by rw [HCD.out]; exact List.getElem_mem hiC)
              have hps := pass_same C[i] L
              have hcc := HCH.out i C[i] (List.getElem?_eq_getElem hiC)
              have hAch : a.ch = wantN C T i := by rw [hao, ← hcc.1]; exact hps.2.2.2.1
              have hAlv : a.lv = lvK i T := by rw [hao, ← hcc.2]; exact hps.2.2.2.2
              have hAl3 : a.lv ≤ 3 := by rw [hao]; have := hci.lv; have h4 := hps.2.2.2.2; show (passP C[i] L).lv ≤ 3; omega
              have hAel : a.el = true → a.lv = 0 ∧ 1 ≤ a.ch ∧ a.ch ≤ a.dy := by
                intro he
                have h5 : C[i].el = true := by rw [← hps.1]; rw [hao] at he; exact he
                have h6 := hci.el h5
                rw [hao]
                show (passP C[i] L).lv = 0 ∧ 1 ≤ (passP C[i] L).ch ∧ (passP C[i] L).ch ≤ (passP C[i] L).dy
                rw [hps.2.2.2.2, hps.2.2.2.1, hps.2.2.1]
                omega
              rw [← hAch] at cg
              rw [← hAlv] at ch
              have p3 : decide (3 < a.lv) = false := by simpa using hAl3
              have hB := heap_new wr (.cells #[.bool a.el, .int .u8 a.st, .int .i64 a.op, .int .i64 a.dy, .int .i64 a.ch, .int .i64 a.lv, .int .i64 a.due, .bool a.hd, .int .i64 a.sn, .slice pa a.held.length ca] 39)
              have hxa := (Ext.refl wr).alloc (.cells #[.bool a.el, .int .u8 a.st, .int .i64 a.op, .int .i64 a.dy, .int .i64 a.ch, .int .i64 a.lv, .int .i64 a.due, .bool a.hd, .int .i64 a.sn, .slice pa a.held.length ca] 39)
              have cg2 := keep_cell2 cg hxa
              have ch2 := keep_cell2 ch hxa
              clear hao hci hps hcc hAch hAlv hAl3 cg ch fg fh
              go_upto_region 29 with fail
              obtain ⟨X, HXX⟩ : ∃ x, Hid (wr.heap.size = x) := ⟨_, rfl⟩
              rw [HXX.out] at hB ⊢
              replace hra := hra.ext hxa
              replace hrb := hrb.ext hxa
              replace hx := hx.trans hxa
              generalize wr.alloc (.cells #[.bool a.el, .int .u8 a.st, .int .i64 a.op, .int .i64 a.dy, .int .i64 a.ch, .int .i64 a.lv, .int .i64 a.due, .bool a.hd, .int .i64 a.sn, .slice pa a.held.length ca] 39) = W2 at hB hra hrb hx cg2 ch2 ⊢
              clear hxa a0 a1 a2 a3 a4 a5 a6 a7 a8 a9 hl1 gg gh
              obtain ⟨m0, m1, m2, m3, m4, m5, m6, m7, m8, m9⟩ := cells10 hB
              have hXl := lt_of hB
              have gg := lt_cell2 cg2
              have gh := lt_cell2 ch2
              cases hel : a.el with
              | true =>
                obtain ⟨e1, e2, e3⟩ := hAel hel
                have p0 : decide (0 < a.lv) = false := by simp [e1]
                have p1 : decide (a.ch < 1) = false := by simpa using e2
                have p2 : decide (a.dy < a.ch) = false := by simpa using e3
                rw [hel] at m0
                clear hAel e1 e2 e3 hel
                go_wp2_with fail
                go_quiet (fail)
                go_wp2_with fail
                go_roundw
                case rel => exact ⟨i + 1, by omega, by go_num, hra.ext ((Ext.refl _).drewN _), hrb.ext ((Ext.refl _).drewN _), hx.drewN _⟩
                case measure => simp [intOf]; omega
              | false =>
                rw [hel] at m0
                clear hAel hel
                go_wp2_with fail
                go_quiet (fail)
                go_wp2_with fail
                go_roundw
                case rel => exact ⟨i + 1, by omega, by go_num, hra.ext ((Ext.refl _).drewN _), hrb.ext ((Ext.refl _).drewN _), hx.drewN _⟩
                case measure => simp [intOf]; omega
            · have hlti1 : ¬ (i : Int) < (N : Int) := by omega
              go_wp2_with fail
              go_ret
              exact ⟨rfl, HX4.out.trans hx⟩
end Go.Proofs.YtalconpcpegmlaaDoor
