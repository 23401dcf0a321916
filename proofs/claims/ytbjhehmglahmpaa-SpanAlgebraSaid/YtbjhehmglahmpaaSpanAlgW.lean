import Derived.Test.YtbjhehmglahmpaaSpanWf
import Derived.Test.YtbjhehmglahmpaaSpanAw
import Derived.Test.YtbjhehmglahmpaaSpanAlg
/- The law SpanAlgebra, walked: it returns true; the two slices of 16-bit numbers are read. -/
namespace Go.Proofs.Ytbjhehmglahmpaa
open Go.RowKit

def encI (x : Int) : List Value := [.int .i64 x]
theorem encI_len (x : Int) : (encI x).length = 1 := rfl
theorem encI_one (x : Int) : ∀ u ∈ encI x, u.oneCell' = true := by simp [encI, Value.oneCell']
theorem infoI : (Try.prog.info? 3).map (fun i => (i.zero, i.size, i.bytes)) = some (some (.int .i64 0), 1, 8) := by kernel_rfl
def OwnI (w0 w : World) (v : Value) (xs : List Int) : Prop := Owns w0.heap.size 3 1 encI w v xs
theorem flatI (xs : List Int) : xs.flatMap encI = xs.map (.int .i64 ·) := by
  induction xs with
  | nil => rfl
  | cons x xs ih => rw [List.flatMap_cons, ih]; rfl
theorem Owns.litI {w w0 : World} (x : Int) (hB : w0.heap.size ≤ w.heap.size) : OwnI w0 (w.alloc (.cells #[.int .i64 x] 3)) (.slice (some ⟨w.heap.size, 0, none⟩) 1 1) [x] :=
  ⟨rfl, .inr ⟨w.heap.size, 1, #[.int .i64 x], rfl, hB, heap_new w _, Nat.le_refl _, by decide, rfl, rfl⟩⟩
theorem Sl.litI {w : World} {b : Nat} (x1 x2 x3 x4 : Int) (hb : b = w.heap.size) : Sl 1 encI (w.alloc (.cells #[.int .i64 x1, .int .i64 x2, .int .i64 x3, .int .i64 x4] 3)) (some ⟨b, 0, none⟩) [x1, x2, x3, x4] := by
  subst hb
  intro j hj
  refine ⟨w.heap.size, 0, rfl, by simp, fun i u hu => ?_⟩
  have hi : i < 1 := by have := (List.getElem?_eq_some_iff.1 hu).1; rwa [encI_len] at this
  obtain rfl : i = 0 := by omega
  rw [cell_of (heap_new w _)]
  simp only [encI, List.getElem?_cons_zero, Option.some.injEq] at hu
  subst hu
  match j, hj with
  | 0, _ => rfl
  | 1, _ => rfl
  | 2, _ => rfl
  | 3, _ => rfl
theorem Sl.at1I {w : World} {p : Option Addr} {l : List Int} (h : Sl 1 encI w p l) (k : Nat) (hk : k < l.length) :
    ∃ b off x, p = some ⟨b, off, none⟩ ∧ b < w.heap.size ∧ w.cell? ⟨b, off + k, none⟩ = some (.int .i64 x) := by
  obtain ⟨b, off, e, hb, hc⟩ := h k hk
  have := hc 0 _ rfl
  rw [Nat.mul_one, Nat.add_zero] at this
  exact ⟨b, off, l[k], e, hb, this⟩
theorem Ok.bounds : ∀ {l : List Sp} {e : Int}, Ok e l → ∀ s ∈ l, 0 ≤ s.1 ∧ s.1 < s.2 ∧ s.2 ≤ 65536
  | [], _, _ => fun s h => by cases h
  | t :: l, e, h => fun s hs => by
    obtain ⟨_, h1, h2, h3, h4⟩ := h
    rcases List.mem_cons.1 hs with rfl | hs
    · exact ⟨h1, h2, h3⟩
    · exact Ok.bounds h4 s hs

theorem heap_kept {w w' : World} {k : Nat} {o : Obj} {row : Option Nat} (h : w.heap[k]? = some o) (hg : w.grownBy w' row) (hne : some k ≠ row) : w'.heap[k]? = some o :=
  (hg.block k (lt_of h) hne).trans h
set_option maxHeartbeats 16000000 in
set_option maxRecDepth 100000 in
theorem spanAlgebra_any (l k : List Int) (day : Int) (p q : Option Addr) (c c2 : Nat) (w : World) (hl : Sl 1 encU w p l) (hk : Sl 1 encU w q k) (hm : l.length ≤ 9223372036854775807) (hm2 : k.length ≤ 9223372036854775807) (hu : ∀ x ∈ l, 0 ≤ x ∧ x ≤ 65535) (hu2 : ∀ x ∈ k, 0 ≤ x ∧ x ≤ 65535) :
    Calls Try.prog 8 #[.slice p l.length c, .slice q k.length c2, .int .i64 day] w fun e w' => e = .returned (.bool true) ∧ Ext w w' := by
  go_enter Try.func8, Try.ntmps8
  go_wp2_with fail
  refine (awake04 _).mono ?_
  rintro e wN ⟨rfl, hx⟩
  replace hl := hl.ext hx
  replace hk := hk.ext hx
  go_wp2_with fail
  refine (built_any l p c _ hl hm hu).mono ?_
  rintro e wN ⟨pa, ca, a, rfl, ha, hoka, h60a, hN⟩
  try replace ha := ha.ext hN
  try replace hb := hb.ext hN
  try replace hU := hU.ext hN
  try replace hV := hV.ext hN
  try replace hW := hW.ext hN
  try replace hl := hl.ext hN
  try replace hk := hk.ext hN
  replace hx := hx.trans hN
  clear hN
  go_wp2_with fail
  refine (built_any k q c2 _ hk hm2 hu2).mono ?_
  rintro e wN ⟨pb, cb, b, rfl, hb, hokb, h60b, hN⟩
  try replace ha := ha.ext hN
  try replace hb := hb.ext hN
  try replace hU := hU.ext hN
  try replace hV := hV.ext hN
  try replace hW := hW.ext hN
  try replace hl := hl.ext hN
  try replace hk := hk.ext hN
  replace hx := hx.trans hN
  clear hN
  clear hl hk hu hu2 hm hm2
  have la : a.length ≤ 1000000 := by omega
  have lb : b.length ≤ 1000000 := by omega
  obtain ⟨hoU, mU⟩ := uS_spec hoka hokb
  obtain ⟨hoV, mV⟩ := mS_spec hoka hokb
  obtain ⟨hoW, mW⟩ := dS_spec hoka hokb
  obtain ⟨U, HU⟩ : ∃ U, Hid (uS a b = U) := ⟨_, rfl⟩
  obtain ⟨V, HV⟩ : ∃ U, Hid (mS a b = U) := ⟨_, rfl⟩
  obtain ⟨W, HW⟩ : ∃ U, Hid (dS a b = U) := ⟨_, rfl⟩
  rw [HU.out] at hoU mU
  rw [HV.out] at hoV mV
  rw [HW.out] at hoW mW
  have LU := hoU.len6
  have LV := hoV.len6
  have LW := hoW.len6
  have VU := Lib.hid hoU.valid
  have VV := Lib.hid hoV.valid
  have VW := Lib.hid hoW.valid
  have VA := Lib.hid hoka.valid
  have BA := Lib.hid hoka.bounds
  have BB := Lib.hid hokb.bounds
  have MU := Lib.hid mU
  have MV := Lib.hid mV
  have MW := Lib.hid mW
  have HU2 : Hid (combV (fun x y => x || y) a b = U) := (combV_ok _ hoka hokb).trans HU.out
  have HV2 : Hid (combV (fun x y => x && y) a b = V) := (combV_ok _ hoka hokb).trans HV.out
  have HW2 : Hid (combV (fun x y => x && !y) a b = W) := (combV_ok _ hoka hokb).trans HW.out
  have HE : Hid (combE a b = 0) := combE_ok hoka hokb
  clear hoU hoV hoW hoka hokb mU mV mW
  go_wp2_with fail
  refine (union_r a b U 0 pa pb _ _ _ HU2.out HE.out ha hb la lb).mono ?_
  rintro e wN ⟨pU, cU, rfl, hU, hN⟩
  try replace ha := ha.ext hN
  try replace hb := hb.ext hN
  try replace hU := hU.ext hN
  try replace hV := hV.ext hN
  try replace hW := hW.ext hN
  try replace hl := hl.ext hN
  try replace hk := hk.ext hN
  replace hx := hx.trans hN
  clear hN
  go_wp2_with fail
  refine (meet_r a b V 0 pa pb _ _ _ HV2.out HE.out ha hb la lb).mono ?_
  rintro e wN ⟨pV, cV, rfl, hV, hN⟩
  try replace ha := ha.ext hN
  try replace hb := hb.ext hN
  try replace hU := hU.ext hN
  try replace hV := hV.ext hN
  try replace hW := hW.ext hN
  try replace hl := hl.ext hN
  try replace hk := hk.ext hN
  replace hx := hx.trans hN
  clear hN
  go_wp2_with fail
  refine (minus_r a b W 0 pa pb _ _ _ HW2.out HE.out ha hb la lb).mono ?_
  rintro e wN ⟨pW, cW, rfl, hW, hN⟩
  try replace ha := ha.ext hN
  try replace hb := hb.ext hN
  try replace hU := hU.ext hN
  try replace hV := hV.ext hN
  try replace hW := hW.ext hN
  try replace hl := hl.ext hN
  try replace hk := hk.ext hN
  replace hx := hx.trans hN
  clear hN
  clear HU HV HW HU2 HV2 HW2 HE
  go_wp2_with fail
  refine (valid_r U pU _ _ true VU.out hU LU).mono ?_
  rintro e wN ⟨rfl, hN⟩
  try replace ha := ha.ext hN
  try replace hb := hb.ext hN
  try replace hU := hU.ext hN
  try replace hV := hV.ext hN
  try replace hW := hW.ext hN
  try replace hl := hl.ext hN
  try replace hk := hk.ext hN
  replace hx := hx.trans hN
  clear hN
  go_wp2_with fail
  refine (valid_r V pV _ _ true VV.out hV LV).mono ?_
  rintro e wN ⟨rfl, hN⟩
  try replace ha := ha.ext hN
  try replace hb := hb.ext hN
  try replace hU := hU.ext hN
  try replace hV := hV.ext hN
  try replace hW := hW.ext hN
  try replace hl := hl.ext hN
  try replace hk := hk.ext hN
  replace hx := hx.trans hN
  clear hN
  go_wp2_with fail
  refine (valid_r W pW _ _ true VW.out hW LW).mono ?_
  rintro e wN ⟨rfl, hN⟩
  try replace ha := ha.ext hN
  try replace hb := hb.ext hN
  try replace hU := hU.ext hN
  try replace hV := hV.ext hN
  try replace hW := hW.ext hN
  try replace hl := hl.ext hN
  try replace hk := hk.ext hN
  replace hx := hx.trans hN
  clear hN
  go_wp2_with fail
  go_loopw [15, 75] (fun v i wr => ∃ (k : Nat) (xs : List Int), k ≤ 2 ∧ i = .int .i64 k ∧ OwnI wN wr v xs ∧ xs.length ≤ 1 + 300 * k ∧ Hid (wr.heap[wN.heap.size + 1]? = some (.cells #[.slice pa a.length ca, .slice pb b.length cb] 52 (0, 0))) ∧ Ext wN wr) (fun _ i _ => 2 - (intOf i).toNat)
  case atStart =>
    exact ⟨0, [day], by omega, rfl, (Owns.litI day (Nat.le_refl _)).alloc _, by simp, (by unfold Hid; rw [heap_alloc, if_pos (by simp)]), ((Ext.refl _).alloc _).alloc _⟩
  case round =>
    obtain ⟨k, xs, hk, rfl, hown, hlx, hlit, hx2⟩ := hrel
    by_cases hk2 : k < 2
    · have hde : decide ((k : Int) < 2) = true := by simpa using (by omega : (k : Int) < 2)
      obtain ⟨L, pL, cL, hcell, hL, HBL, hL60⟩ : ∃ L pL cL, wr.cell? ⟨wN.heap.size + 1, k, none⟩ = some (.slice pL L.length cL) ∧ Sl 2 enc2 wN pL L ∧ Hid (∀ s ∈ L, 0 ≤ s.1 ∧ s.1 < s.2 ∧ s.2 ≤ 65536) ∧ L.length ≤ 60 := by
        rcases (by omega : k = 0 ∨ k = 1) with rfl | rfl
        · exact ⟨a, pa, ca, by rw [cell_of hlit.out]; rfl, ha, BA, h60a⟩
        · exact ⟨b, pb, cb, by rw [cell_of hlit.out]; rfl, hb, BB, h60b⟩
      go_wp2_with fail
      go_loopw [15, 81] (fun v i wq => ∃ (j : Nat) (xs : List Int), j ≤ L.length ∧ i = .int .i64 j ∧ OwnI wN wq v xs ∧ xs.length ≤ 1 + 300 * k + 4 * j ∧ Hid (wq.heap[wN.heap.size + 1]? = some (.cells #[.slice pa a.length ca, .slice pb b.length cb] 52 (0, 0))) ∧ Ext wN wq) (fun _ i _ => L.length - (intOf i).toNat)
      case atStart => exact ⟨0, xs, by omega, rfl, hown, by omega, hlit, hx2⟩
      case round =>
        obtain ⟨j, ys, hj, rfl, hown3, hly, hlit3, hx3⟩ := hrel
        by_cases hjl : j < L.length
        · obtain ⟨bb, off, f, t, rfl, hbl, h0, h1, _, HG⟩ := (hL.ext hx3).at2 j hjl
          have hft := HBL.out L[j] (List.getElem_mem hjl)
          rw [HG.out] at hft
          dsimp only at hft
          go_wp2_with (at_builtin; refine wpList_append_many (w0 := wN) rfl _ _ 69 3 8 _ encI_len encI_one (by decide) rfl Try.underlying69 infoI rfl ys [f - 1, f, t - 1, t] ((hown3.alloc _).alloc _) ((hx3.alloc _).alloc _) ⟨_, 0, none⟩ 4 rfl rfl (Sl.litI _ _ _ _ (by simp)) (by simp; omega) (by simp; omega) ?_; intro v3 w3 hown4 hx4 hg)
          go_roundw
          case rel => exact ⟨j + 1, _, by omega, by go_num, hown4, by simp; omega, heap_kept (heap_ext hlit3.out (((Ext.refl _).alloc _).alloc _)) hg (Owns.not_row hown3 hlit3.out (by decide)), hx4⟩
          case measure => simp [intOf]; omega
        · go_wp2_with fail
          go_roundw
          case rel => exact ⟨k + 1, ys, by omega, by go_num, hown3, by omega, hlit3, hx3⟩
          case measure => simp [intOf]; omega
    · obtain ⟨px, cx, rfl, hsx⟩ := hown.read encI_len
      go_wp2_with fail
      go_loopw [102] (fun i wq => ∃ (j : Nat), j ≤ xs.length ∧ i = .int .i64 j ∧ Ext wr wq) (fun i _ => xs.length - (intOf i).toNat)
      case atStart => exact ⟨0, by omega, rfl, Ext.refl _⟩
      case round =>
        obtain ⟨j, hj, rfl, hx3⟩ := hrel
        by_cases hjl : j < xs.length
        · obtain ⟨bb, off, d, rfl, hbl, h0⟩ := (hsx.ext hx3).at1I j hjl
          have hx5 := hx2.trans hx3
          obtain ⟨xa, HXA⟩ : ∃ U, Hid (memB d a = U) := ⟨_, rfl⟩
          obtain ⟨xb, HXB⟩ : ∃ U, Hid (memB d b = U) := ⟨_, rfl⟩
          cases xa with
          | true =>
            cases xb with
            | true =>
              go_wp2_with fail
              refine (in_r a pa _ _ d true HXA.out (ha.ext hx5) la).mono ?_
              rintro e wN ⟨rfl, rfl⟩
              go_wp2_with fail
              refine (in_r b pb _ _ d true HXB.out (hb.ext hx5) lb).mono ?_
              rintro e wN ⟨rfl, rfl⟩
              go_wp2_with fail
              refine (in_r U pU _ _ d (true || true) (by rw [MU.out, HXA.out, HXB.out]) (hU.ext hx5) LU).mono ?_
              rintro e wN ⟨rfl, rfl⟩
              go_wp2_with fail
              refine (in_r V pV _ _ d (true && true) (by rw [MV.out, HXA.out, HXB.out]) (hV.ext hx5) LV).mono ?_
              rintro e wN ⟨rfl, rfl⟩
              go_wp2_with fail
              refine (in_r W pW _ _ d (true && !true) (by rw [MW.out, HXA.out, HXB.out]) (hW.ext hx5) LW).mono ?_
              rintro e wN ⟨rfl, rfl⟩
              go_wp2_with fail
              refine (has_r a pa _ _ d true (by rw [VA.out, HXA.out]; rfl) (ha.ext hx5) la).mono ?_
              rintro e w4 ⟨rfl, hx4⟩
              go_wp2_with fail
              go_roundw
              case rel => exact ⟨j + 1, by omega, by go_num, hx3.trans hx4⟩
              case measure => simp [intOf]; omega
            | false =>
              go_wp2_with fail
              refine (in_r a pa _ _ d true HXA.out (ha.ext hx5) la).mono ?_
              rintro e wN ⟨rfl, rfl⟩
              go_wp2_with fail
              refine (in_r b pb _ _ d false HXB.out (hb.ext hx5) lb).mono ?_
              rintro e wN ⟨rfl, rfl⟩
              go_wp2_with fail
              refine (in_r U pU _ _ d (true || false) (by rw [MU.out, HXA.out, HXB.out]) (hU.ext hx5) LU).mono ?_
              rintro e wN ⟨rfl, rfl⟩
              go_wp2_with fail
              refine (in_r V pV _ _ d (true && false) (by rw [MV.out, HXA.out, HXB.out]) (hV.ext hx5) LV).mono ?_
              rintro e wN ⟨rfl, rfl⟩
              go_wp2_with fail
              refine (in_r W pW _ _ d (true && !false) (by rw [MW.out, HXA.out, HXB.out]) (hW.ext hx5) LW).mono ?_
              rintro e wN ⟨rfl, rfl⟩
              go_wp2_with fail
              refine (has_r a pa _ _ d true (by rw [VA.out, HXA.out]; rfl) (ha.ext hx5) la).mono ?_
              rintro e w4 ⟨rfl, hx4⟩
              go_wp2_with fail
              go_roundw
              case rel => exact ⟨j + 1, by omega, by go_num, hx3.trans hx4⟩
              case measure => simp [intOf]; omega
          | false =>
            cases xb with
            | true =>
              go_wp2_with fail
              refine (in_r a pa _ _ d false HXA.out (ha.ext hx5) la).mono ?_
              rintro e wN ⟨rfl, rfl⟩
              go_wp2_with fail
              refine (in_r b pb _ _ d true HXB.out (hb.ext hx5) lb).mono ?_
              rintro e wN ⟨rfl, rfl⟩
              go_wp2_with fail
              refine (in_r U pU _ _ d (false || true) (by rw [MU.out, HXA.out, HXB.out]) (hU.ext hx5) LU).mono ?_
              rintro e wN ⟨rfl, rfl⟩
              go_wp2_with fail
              refine (in_r V pV _ _ d (false && true) (by rw [MV.out, HXA.out, HXB.out]) (hV.ext hx5) LV).mono ?_
              rintro e wN ⟨rfl, rfl⟩
              go_wp2_with fail
              refine (in_r W pW _ _ d (false && !true) (by rw [MW.out, HXA.out, HXB.out]) (hW.ext hx5) LW).mono ?_
              rintro e wN ⟨rfl, rfl⟩
              go_wp2_with fail
              refine (has_r a pa _ _ d false (by rw [VA.out, HXA.out]; rfl) (ha.ext hx5) la).mono ?_
              rintro e w4 ⟨rfl, hx4⟩
              go_wp2_with fail
              go_roundw
              case rel => exact ⟨j + 1, by omega, by go_num, hx3.trans hx4⟩
              case measure => simp [intOf]; omega
            | false =>
              go_wp2_with fail
              refine (in_r a pa _ _ d false HXA.out (ha.ext hx5) la).mono ?_
              rintro e wN ⟨rfl, rfl⟩
              go_wp2_with fail
              refine (in_r b pb _ _ d false HXB.out (hb.ext hx5) lb).mono ?_
              rintro e wN ⟨rfl, rfl⟩
              go_wp2_with fail
              refine (in_r U pU _ _ d (false || false) (by rw [MU.out, HXA.out, HXB.out]) (hU.ext hx5) LU).mono ?_
              rintro e wN ⟨rfl, rfl⟩
              go_wp2_with fail
              refine (in_r V pV _ _ d (false && false) (by rw [MV.out, HXA.out, HXB.out]) (hV.ext hx5) LV).mono ?_
              rintro e wN ⟨rfl, rfl⟩
              go_wp2_with fail
              refine (in_r W pW _ _ d (false && !false) (by rw [MW.out, HXA.out, HXB.out]) (hW.ext hx5) LW).mono ?_
              rintro e wN ⟨rfl, rfl⟩
              go_wp2_with fail
              refine (has_r a pa _ _ d false (by rw [VA.out, HXA.out]; rfl) (ha.ext hx5) la).mono ?_
              rintro e w4 ⟨rfl, hx4⟩
              go_wp2_with fail
              go_roundw
              case rel => exact ⟨j + 1, by omega, by go_num, hx3.trans hx4⟩
              case measure => simp [intOf]; omega
        · go_wp2_with fail
          go_ret
          exact ⟨rfl, (hx.trans hx2).trans hx3⟩
end Go.Proofs.Ytbjhehmglahmpaa
