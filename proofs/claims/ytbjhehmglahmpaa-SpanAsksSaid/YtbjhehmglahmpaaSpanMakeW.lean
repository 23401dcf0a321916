import Derived.Test.YtbjhehmglahmpaaSpanK3
import Derived.Test.YtbjhehmglahmpaaSpanR2
import Derived.Test.YtbjhehmglahmpaaSpanR5
import Derived.Test.YtbjhehmglahmpaaSpanAw
/- The laws SpanMakes and SpanAsks, walked: they return true; the slice of spans is read. -/
namespace Go.Proofs.Ytbjhehmglahmpaa
open Go.RowKit

theorem Owns.past {α : Type} {B g : Nat} {e : TypeId} {k : Nat} {enc : α → List Value} {w w' : World} {v : Value} {xs : List α} (h : Owns B e k enc w v xs) (hg : w.grownBy w' (some g)) (hlt : g < B) : Owns B e k enc w' v xs := by
  refine World.ownsRow.kept h hg ?_
  cases hv : v.ownBlock with
  | none => exact .inl rfl
  | some j =>
    right
    have := h.row j hv
    simp only [ne_eq, Option.some.injEq]
    omega
theorem makeV_len (l : List Sp) : (makeV l).length ≤ 1000000 := by
  by_cases h : l.all rightB = true
  · exact (makeV_spec h).1.len6
  · unfold makeV; rw [if_neg h]; simp
theorem bridgeV_len {l : List Sp} (n : Int) : (bridgeV l n).length ≤ 1000000 := by
  unfold bridgeV
  split
  · rename_i h; exact (bridgeS_spec n ((validB_iff _ _).1 h.1)).1.len6
  · simp
set_option maxHeartbeats 3200000 in
set_option maxRecDepth 100000 in
theorem makes_any (l : List Sp) (p : Option Addr) (c : Nat) (w : World) (hl : Sl 2 enc2 w p l) (hc : p = none → c = 0) (hm : l.length ≤ 100) :
    Calls Try.prog 25 #[.slice p l.length c] w fun e w' => e = .returned (.bool true) ∧ Ext w w' := by
  have HCN := Lib.hid hc
  clear hc
  obtain ⟨A, HA⟩ : ∃ z, Hid (makeV l = z) := ⟨_, rfl⟩
  obtain ⟨E, HE⟩ : ∃ z, Hid (makeE l = z) := ⟨_, rfl⟩
  obtain ⟨V, HV⟩ : ∃ z, Hid (validB (-1) l = z) := ⟨_, rfl⟩
  have hA : A.length ≤ 1000000 := HA.out ▸ makeV_len l
  go_enter Try.func25, Try.ntmps25
  go_wp2_with fail
  refine (lent_any l p c _ hl (by omega) HCN.out).mono ?_
  rintro e w1 ⟨g, rfl, ho, hx⟩
  have hin : Sl 2 enc2 w1 (some ⟨g, 0, none⟩) l := (ho.sl enc2_len).pre
  obtain ⟨hg0, hg1⟩ := World.ownsRow.lt ho g rfl
  replace hl := hl.ext hx
  go_wp2_with fail
  have hga := hg1
  refine (make_any l _ _ _ hin (by omega)).mono ?_
  rintro e wN ⟨va, he, oa, hN⟩
  rw [HA.out] at oa
  rw [HE.out] at he
  subst he
  obtain ⟨pa, ca, rfl, _⟩ := oa.read enc2_len
  replace hl := hl.ext hN
  replace hin := hin.ext hN
  replace ho := ho.ext hN
  replace hx := hx.trans hN
  replace hg1 := Nat.lt_of_lt_of_le hg1 hN.size
  clear hN
  go_wp2_with fail
  have hgb := hg1
  refine (rmake_any l p c _ hl (by omega)).mono ?_
  rintro e wM ⟨vb, he, ob, hN⟩
  rw [HA.out] at ob
  rw [HE.out] at he
  subst he
  obtain ⟨pb, cb, rfl, _⟩ := ob.read enc2_len
  replace hl := hl.ext hN
  replace hin := hin.ext hN
  replace ho := ho.ext hN
  replace oa := oa.ext hN
  replace hx := hx.trans hN
  replace hg1 := Nat.lt_of_lt_of_le hg1 hN.size
  clear hN
  go_wp2_with fail
  refine (same_r A A _ _ _ _ _ true ((sameB_iff _ _).2 rfl) (oa.sl enc2_len) (ob.sl enc2_len) hA).mono ?_
  rintro e wN ⟨rfl, hN⟩
  replace hl := hl.ext hN
  replace hin := hin.ext hN
  replace ho := ho.ext hN
  replace hg1 := Nat.lt_of_lt_of_le hg1 hN.size
  try replace oa := oa.ext hN
  try replace ob := ob.ext hN
  replace hx := hx.trans hN
  clear hN
  go_wp2_with fail
  refine (valid_any l _ _ _ hin (by omega)).mono ?_
  rintro e wN ⟨he, hN⟩
  rw [HV.out] at he
  try dsimp only at he
  subst he
  replace hl := hl.ext hN
  replace hin := hin.ext hN
  replace ho := ho.ext hN
  replace hg1 := Nat.lt_of_lt_of_le hg1 hN.size
  try replace oa := oa.ext hN
  try replace ob := ob.ext hN
  replace hx := hx.trans hN
  clear hN
  go_wp2_with fail
  refine (rvalid_any l _ _ _ hl (by omega)).mono ?_
  rintro e wN ⟨he, hN⟩
  rw [HV.out] at he
  try dsimp only at he
  subst he
  replace hl := hl.ext hN
  replace hin := hin.ext hN
  replace ho := ho.ext hN
  replace hg1 := Nat.lt_of_lt_of_le hg1 hN.size
  try replace oa := oa.ext hN
  try replace ob := ob.ext hN
  replace hx := hx.trans hN
  clear hN
  go_wp2_with fail
  refine (kept_any l p c g _ hl (by omega) (ho.sl enc2_len)).mono ?_
  rintro e wN ⟨rfl, hN⟩
  replace hl := hl.ext hN
  replace hin := hin.ext hN
  replace ho := ho.ext hN
  replace hg1 := Nat.lt_of_lt_of_le hg1 hN.size
  try replace oa := oa.ext hN
  try replace ob := ob.ext hN
  replace hx := hx.trans hN
  clear hN
  go_wp2_with fail
  refine (over_any l.length g _ _ w (by omega) (by simp [marks_len]) ho).mono ?_
  rintro e wZ ⟨rfl, hgr⟩
  replace oa := oa.past hgr hga
  replace ob := ob.past hgr hgb
  replace hx := hx.grown hgr (fun k hk => by cases hk; exact hg0)
  clear hl hin ho hgr
  go_wp2_with fail
  refine (same_r A A _ _ _ _ _ true ((sameB_iff _ _).2 rfl) (oa.sl enc2_len) (ob.sl enc2_len) hA).mono ?_
  rintro e wY ⟨rfl, hN⟩
  go_wp2_with fail
  go_ret
  exact ⟨rfl, hx.trans hN⟩
set_option maxHeartbeats 3200000 in
set_option maxRecDepth 100000 in
theorem asks_any (l : List Sp) (day n : Int) (p : Option Addr) (c : Nat) (w : World) (hl : Sl 2 enc2 w p l) (hc : p = none → c = 0) (hm : l.length ≤ 100) (hn1 : -9223372036854775808 ≤ n) (hn2 : n ≤ 9223372036854775807) :
    Calls Try.prog 34 #[.slice p l.length c, .int .i64 day, .int .i64 n] w fun e w' => e = .returned (.bool true) ∧ Ext w w' := by
  have HCN := Lib.hid hc
  clear hc
  obtain ⟨A, HA⟩ : ∃ z, Hid (bridgeV l n = z) := ⟨_, rfl⟩
  obtain ⟨E, HE⟩ : ∃ z, Hid (bridgeE l n = z) := ⟨_, rfl⟩
  obtain ⟨nx, ny, HX⟩ : ∃ x y, Hid (nthV l n = (x, y)) := ⟨_, _, rfl⟩
  obtain ⟨V, HV⟩ : ∃ z, Hid ((validB (-1) l && memB day l) = z) := ⟨_, rfl⟩
  obtain ⟨D, HD⟩ : ∃ z, Hid (beforeV l day = z) := ⟨_, rfl⟩
  obtain ⟨F, HF⟩ : ∃ z, Hid (beforeV l 65536 = z) := ⟨_, rfl⟩
  have hA : A.length ≤ 1000000 := HA.out ▸ bridgeV_len n
  have HN1 := Lib.hid hn1
  have HN2 := Lib.hid hn2
  clear hn1 hn2
  go_enter Try.func34, Try.ntmps34
  go_wp2_with fail
  refine (lent_any l p c _ hl (by omega) HCN.out).mono ?_
  rintro e w1 ⟨g, rfl, ho, hx⟩
  have hin : Sl 2 enc2 w1 (some ⟨g, 0, none⟩) l := (ho.sl enc2_len).pre
  obtain ⟨hg0, hg1⟩ := World.ownsRow.lt ho g rfl
  replace hl := hl.ext hx
  go_wp2_with fail
  refine (nth_any l n _ _ _ hin (by omega) HN2.out).mono ?_
  rintro e wN ⟨he, hN⟩
  rw [HX.out] at he
  try dsimp only at he
  subst he
  replace hl := hl.ext hN
  replace hin := hin.ext hN
  replace ho := ho.ext hN
  replace hg1 := Nat.lt_of_lt_of_le hg1 hN.size
  try replace oa := oa.ext hN
  try replace ob := ob.ext hN
  replace hx := hx.trans hN
  clear hN
  go_wp2_with fail
  refine (rnth_any l n _ _ _ hl (by omega) HN1.out HN2.out).mono ?_
  rintro e wN ⟨he, hN⟩
  rw [HX.out] at he
  try dsimp only at he
  subst he
  replace hl := hl.ext hN
  replace hin := hin.ext hN
  replace ho := ho.ext hN
  replace hg1 := Nat.lt_of_lt_of_le hg1 hN.size
  try replace oa := oa.ext hN
  try replace ob := ob.ext hN
  replace hx := hx.trans hN
  clear hN
  go_wp2_with fail
  have hga := hg1
  refine (bridge_any l n _ _ _ hin (by omega)).mono ?_
  rintro e wN ⟨va, he, oa, hN⟩
  rw [HA.out] at oa
  rw [HE.out] at he
  subst he
  obtain ⟨pa, ca, rfl, _⟩ := oa.read enc2_len
  replace hl := hl.ext hN
  replace hin := hin.ext hN
  replace ho := ho.ext hN
  replace hx := hx.trans hN
  replace hg1 := Nat.lt_of_lt_of_le hg1 hN.size
  clear hN
  go_wp2_with fail
  have hgb := hg1
  refine (rbridge_any l n p c _ hl (by omega)).mono ?_
  rintro e wM ⟨vb, he, ob, hN⟩
  rw [HA.out] at ob
  rw [HE.out] at he
  subst he
  obtain ⟨pb, cb, rfl, _⟩ := ob.read enc2_len
  replace hl := hl.ext hN
  replace hin := hin.ext hN
  replace ho := ho.ext hN
  replace oa := oa.ext hN
  replace hx := hx.trans hN
  replace hg1 := Nat.lt_of_lt_of_le hg1 hN.size
  clear hN
  go_wp2_with fail
  refine (has_any l day _ _ _ hin (by omega)).mono ?_
  rintro e wN ⟨he, hN⟩
  rw [HV.out] at he
  try dsimp only at he
  subst he
  replace hl := hl.ext hN
  replace hin := hin.ext hN
  replace ho := ho.ext hN
  replace hg1 := Nat.lt_of_lt_of_le hg1 hN.size
  try replace oa := oa.ext hN
  try replace ob := ob.ext hN
  replace hx := hx.trans hN
  clear hN
  go_wp2_with fail
  refine (rhas_any l day _ _ _ hl (by omega)).mono ?_
  rintro e wN ⟨he, hN⟩
  rw [HV.out] at he
  try dsimp only at he
  subst he
  replace hl := hl.ext hN
  replace hin := hin.ext hN
  replace ho := ho.ext hN
  replace hg1 := Nat.lt_of_lt_of_le hg1 hN.size
  try replace oa := oa.ext hN
  try replace ob := ob.ext hN
  replace hx := hx.trans hN
  clear hN
  go_wp2_with fail
  refine (before_any l day _ _ _ hin (by omega)).mono ?_
  rintro e wN ⟨he, hN⟩
  rw [HD.out] at he
  try dsimp only at he
  subst he
  replace hl := hl.ext hN
  replace hin := hin.ext hN
  replace ho := ho.ext hN
  replace hg1 := Nat.lt_of_lt_of_le hg1 hN.size
  try replace oa := oa.ext hN
  try replace ob := ob.ext hN
  replace hx := hx.trans hN
  clear hN
  go_wp2_with fail
  refine (rbefore_any l day _ _ _ hl (by omega)).mono ?_
  rintro e wN ⟨he, hN⟩
  rw [HD.out] at he
  try dsimp only at he
  subst he
  replace hl := hl.ext hN
  replace hin := hin.ext hN
  replace ho := ho.ext hN
  replace hg1 := Nat.lt_of_lt_of_le hg1 hN.size
  try replace oa := oa.ext hN
  try replace ob := ob.ext hN
  replace hx := hx.trans hN
  clear hN
  go_wp2_with fail
  refine (days_any l _ _ _ hin (by omega)).mono ?_
  rintro e wN ⟨he, hN⟩
  rw [HF.out] at he
  try dsimp only at he
  subst he
  replace hl := hl.ext hN
  replace hin := hin.ext hN
  replace ho := ho.ext hN
  replace hg1 := Nat.lt_of_lt_of_le hg1 hN.size
  try replace oa := oa.ext hN
  try replace ob := ob.ext hN
  replace hx := hx.trans hN
  clear hN
  go_wp2_with fail
  refine (rbefore_any l 65536 _ _ _ hl (by omega)).mono ?_
  rintro e wN ⟨he, hN⟩
  rw [HF.out] at he
  try dsimp only at he
  subst he
  replace hl := hl.ext hN
  replace hin := hin.ext hN
  replace ho := ho.ext hN
  replace hg1 := Nat.lt_of_lt_of_le hg1 hN.size
  try replace oa := oa.ext hN
  try replace ob := ob.ext hN
  replace hx := hx.trans hN
  clear hN
  go_wp2_with fail
  refine (kept_any l p c g _ hl (by omega) (ho.sl enc2_len)).mono ?_
  rintro e wN ⟨rfl, hN⟩
  replace hl := hl.ext hN
  replace hin := hin.ext hN
  replace ho := ho.ext hN
  replace hg1 := Nat.lt_of_lt_of_le hg1 hN.size
  try replace oa := oa.ext hN
  try replace ob := ob.ext hN
  replace hx := hx.trans hN
  clear hN
  go_wp2_with fail
  refine (over_any l.length g _ _ w (by omega) (by simp [marks_len]) ho).mono ?_
  rintro e wZ ⟨rfl, hgr⟩
  replace oa := oa.past hgr hga
  replace ob := ob.past hgr hgb
  replace hx := hx.grown hgr (fun k hk => by cases hk; exact hg0)
  clear hl hin ho hgr
  go_wp2_with fail
  refine (same_r A A _ _ _ _ _ true ((sameB_iff _ _).2 rfl) (oa.sl enc2_len) (ob.sl enc2_len) hA).mono ?_
  rintro e wY ⟨rfl, hN⟩
  go_wp2_with fail
  go_ret
  exact ⟨rfl, hx.trans hN⟩
set_option maxHeartbeats 800000 in
theorem spanMakes_any (l : List Sp) (p : Option Addr) (c : Nat) (w : World) (hl : Sl 2 enc2 w p l) (hc : p = none → c = 0) :
    Calls Try.prog 5 #[.slice p l.length c] w fun e w' => e = .returned (.bool true) ∧ Ext w w' := by
  have HCN := Lib.hid hc
  clear hc
  by_cases hm : l.length ≤ 100
  · go_enter Try.func5, Try.ntmps5
    go_wp2_with fail
    refine (few_any p l.length c _).mono ?_
    rintro e wN ⟨he, rfl⟩
    rw [decide_eq_true hm] at he
    subst he
    go_wp2_with fail
    refine (makes_any l p c _ hl HCN.out hm).mono ?_
    rintro e wN ⟨rfl, hx⟩
    go_wp2_with fail
    refine (awake04 _).mono ?_
    rintro e wM ⟨rfl, hx2⟩
    go_wp2_with fail
    go_ret
    exact ⟨rfl, hx.trans hx2⟩
  · go_enter Try.func5, Try.ntmps5
    go_wp2_with fail
    refine (few_any p l.length c _).mono ?_
    rintro e wN ⟨he, rfl⟩
    rw [decide_eq_false hm] at he
    subst he
    go_wp2_with fail
    refine (awake04 _).mono ?_
    rintro e wM ⟨rfl, hx2⟩
    go_wp2_with fail
    go_ret
    exact ⟨rfl, hx2⟩
set_option maxHeartbeats 800000 in
theorem spanAsks_any (l : List Sp) (day n : Int) (p : Option Addr) (c : Nat) (w : World) (hl : Sl 2 enc2 w p l) (hc : p = none → c = 0) (hn1 : -9223372036854775808 ≤ n) (hn2 : n ≤ 9223372036854775807) :
    Calls Try.prog 7 #[.slice p l.length c, .int .i64 day, .int .i64 n] w fun e w' => e = .returned (.bool true) ∧ Ext w w' := by
  have HCN := Lib.hid hc
  clear hc
  have HN1 := Lib.hid hn1
  have HN2 := Lib.hid hn2
  clear hn1 hn2
  by_cases hm : l.length ≤ 100
  · go_enter Try.func7, Try.ntmps7
    go_wp2_with fail
    refine (few_any p l.length c _).mono ?_
    rintro e wN ⟨he, rfl⟩
    rw [decide_eq_true hm] at he
    subst he
    go_wp2_with fail
    refine (asks_any l day n p c _ hl HCN.out hm HN1.out HN2.out).mono ?_
    rintro e wN ⟨rfl, hx⟩
    go_wp2_with fail
    refine (awake04 _).mono ?_
    rintro e wM ⟨rfl, hx2⟩
    go_wp2_with fail
    go_ret
    exact ⟨rfl, hx.trans hx2⟩
  · go_enter Try.func7, Try.ntmps7
    go_wp2_with fail
    refine (few_any p l.length c _).mono ?_
    rintro e wN ⟨he, rfl⟩
    rw [decide_eq_false hm] at he
    subst he
    go_wp2_with fail
    refine (awake04 _).mono ?_
    rintro e wM ⟨rfl, hx2⟩
    go_wp2_with fail
    go_ret
    exact ⟨rfl, hx2⟩
end Go.Proofs.Ytbjhehmglahmpaa
