import Derived.Test.YtbjhehmglahmpaaSpanWf
import Derived.Test.YtbjhehmglahmpaaSpanAw
import Derived.Test.YtbjhehmglahmpaaSpanAlg
/- The law SpanCounts, walked: it returns true; the two slices of 16-bit numbers are read. -/
namespace Go.Proofs.Ytbjhehmglahmpaa
open Go.RowKit

set_option maxHeartbeats 16000000 in
set_option maxRecDepth 100000 in
theorem spanCounts_any (l k : List Int) (p q : Option Addr) (c c2 : Nat) (w : World) (hl : Sl 1 encU w p l) (hk : Sl 1 encU w q k) (hm : l.length ≤ 9223372036854775807) (hm2 : k.length ≤ 9223372036854775807) (hu : ∀ x ∈ l, 0 ≤ x ∧ x ≤ 65535) (hu2 : ∀ x ∈ k, 0 ≤ x ∧ x ≤ 65535) :
    Calls Try.prog 10 #[.slice p l.length c, .slice q k.length c2] w fun e w' => e = .returned (.bool true) ∧ Ext w w' := by
  go_enter Try.func10, Try.ntmps10
  go_wp2_with fail
  refine (awake04 _).mono ?_
  rintro e wN ⟨rfl, hx⟩
  replace hl := hl.ext hx
  replace hk := hk.ext hx
  go_wp2_with fail
  refine (built_any l p c _ hl hm hu).mono ?_
  rintro e wN ⟨pa, ca, a, rfl, ha, hoka, h60a, hN⟩
  try replace ha := ha.ext hN
  try replace hb := hb.ext hN
  try replace hU := hU.ext hN
  try replace hV := hV.ext hN
  try replace hW := hW.ext hN
  try replace hX := hX.ext hN
  try replace hl := hl.ext hN
  try replace hk := hk.ext hN
  replace hx := hx.trans hN
  clear hN
  go_wp2_with fail
  refine (built_any k q c2 _ hk hm2 hu2).mono ?_
  rintro e wN ⟨pb, cb, b, rfl, hb, hokb, h60b, hN⟩
  try replace ha := ha.ext hN
  try replace hb := hb.ext hN
  try replace hU := hU.ext hN
  try replace hV := hV.ext hN
  try replace hW := hW.ext hN
  try replace hX := hX.ext hN
  try replace hl := hl.ext hN
  try replace hk := hk.ext hN
  replace hx := hx.trans hN
  clear hN
  clear hl hk hu hu2 hm hm2
  have la : a.length ≤ 1000000 := by omega
  have lb : b.length ≤ 1000000 := by omega
  obtain ⟨c1, c2', c3, c4, c5, c6⟩ := counts hoka hokb
  have hoU := (uS_spec hoka hokb).1
  have hoV := (mS_spec hoka hokb).1
  have hoW := (dS_spec hoka hokb).1
  have hoX := (dS_spec hokb hoka).1
  obtain ⟨U, HU⟩ : ∃ U, Hid (uS a b = U) := ⟨_, rfl⟩
  obtain ⟨V, HV⟩ : ∃ U, Hid (mS a b = U) := ⟨_, rfl⟩
  obtain ⟨W, HW⟩ : ∃ U, Hid (dS a b = U) := ⟨_, rfl⟩
  obtain ⟨X, HX⟩ : ∃ U, Hid (dS b a = U) := ⟨_, rfl⟩
  rw [HU.out] at c1 c2' c4 hoU
  rw [HV.out] at c1 c2' c3 c6 hoV
  rw [HW.out] at c2' c5 hoW
  rw [HX.out] at c2' hoX
  have LU := hoU.len6
  have LV := hoV.len6
  have LW := hoW.len6
  have LX := hoX.len6
  have bu := hoU.days_le
  have bv := hoV.days_le
  have bw := hoW.days_le
  have bx := hoX.days_le
  have ba := hoka.days_le
  have bb := hokb.days_le
  obtain ⟨da, Hda⟩ : ∃ z, Hid (beforeV a 65536 = z) := ⟨_, rfl⟩
  obtain ⟨db, Hdb⟩ : ∃ z, Hid (beforeV b 65536 = z) := ⟨_, rfl⟩
  obtain ⟨du, Hdu⟩ : ∃ z, Hid (beforeV U 65536 = z) := ⟨_, rfl⟩
  obtain ⟨dv, Hdv⟩ : ∃ z, Hid (beforeV V 65536 = z) := ⟨_, rfl⟩
  obtain ⟨dw, Hdw⟩ : ∃ z, Hid (beforeV W 65536 = z) := ⟨_, rfl⟩
  obtain ⟨dx, Hdx⟩ : ∃ z, Hid (beforeV X 65536 = z) := ⟨_, rfl⟩
  rw [Hda.out] at c1 ba
  rw [Hdb.out] at c1 c6 bb
  rw [Hdu.out] at c1 c2' bu
  rw [Hdv.out] at c1 c2' c6 bv
  rw [Hdw.out] at c2' bw
  rw [Hdx.out] at c2' bx
  have HC3 := Lib.hid c3
  have HC4 := Lib.hid c4
  have HC5 := Lib.hid c5
  have HC6 := Lib.hid c6
  have HU2 : Hid (combV (fun x y => x || y) a b = U) := (combV_ok _ hoka hokb).trans HU.out
  have HV2 : Hid (combV (fun x y => x && y) a b = V) := (combV_ok _ hoka hokb).trans HV.out
  have HW2 : Hid (combV (fun x y => x && !y) a b = W) := (combV_ok _ hoka hokb).trans HW.out
  have HX2 : Hid (combV (fun x y => x && !y) b a = X) := (combV_ok _ hokb hoka).trans HX.out
  have HE : Hid (combE a b = 0 ∧ combE b a = 0) := ⟨combE_ok hoka hokb, combE_ok hokb hoka⟩
  clear c3 c4 c5 c6 hoU hoV hoW hoX hoka hokb
  go_wp2_with fail
  refine (union_r a b U 0 pa pb _ _ _ HU2.out HE.out.1 ha hb la lb).mono ?_
  rintro e wN ⟨pU, cU, rfl, hU, hN⟩
  try replace ha := ha.ext hN
  try replace hb := hb.ext hN
  try replace hU := hU.ext hN
  try replace hV := hV.ext hN
  try replace hW := hW.ext hN
  try replace hX := hX.ext hN
  try replace hl := hl.ext hN
  try replace hk := hk.ext hN
  replace hx := hx.trans hN
  clear hN
  go_wp2_with fail
  refine (meet_r a b V 0 pa pb _ _ _ HV2.out HE.out.1 ha hb la lb).mono ?_
  rintro e wN ⟨pV, cV, rfl, hV, hN⟩
  try replace ha := ha.ext hN
  try replace hb := hb.ext hN
  try replace hU := hU.ext hN
  try replace hV := hV.ext hN
  try replace hW := hW.ext hN
  try replace hX := hX.ext hN
  try replace hl := hl.ext hN
  try replace hk := hk.ext hN
  replace hx := hx.trans hN
  clear hN
  go_wp2_with fail
  refine (minus_r a b W 0 pa pb _ _ _ HW2.out HE.out.1 ha hb la lb).mono ?_
  rintro e wN ⟨pW, cW, rfl, hW, hN⟩
  try replace ha := ha.ext hN
  try replace hb := hb.ext hN
  try replace hU := hU.ext hN
  try replace hV := hV.ext hN
  try replace hW := hW.ext hN
  try replace hX := hX.ext hN
  try replace hl := hl.ext hN
  try replace hk := hk.ext hN
  replace hx := hx.trans hN
  clear hN
  go_wp2_with fail
  refine (minus_r b a X 0 pb pa _ _ _ HX2.out HE.out.2 hb ha lb la).mono ?_
  rintro e wN ⟨pX, cX, rfl, hX, hN⟩
  try replace ha := ha.ext hN
  try replace hb := hb.ext hN
  try replace hU := hU.ext hN
  try replace hV := hV.ext hN
  try replace hW := hW.ext hN
  try replace hX := hX.ext hN
  try replace hl := hl.ext hN
  try replace hk := hk.ext hN
  replace hx := hx.trans hN
  clear hN
  go_wp2_with fail
  refine (days_r U pU _ _ du Hdu.out hU LU).mono ?_
  rintro e wN ⟨rfl, hN⟩
  try replace ha := ha.ext hN
  try replace hb := hb.ext hN
  try replace hU := hU.ext hN
  try replace hV := hV.ext hN
  try replace hW := hW.ext hN
  try replace hX := hX.ext hN
  try replace hl := hl.ext hN
  try replace hk := hk.ext hN
  replace hx := hx.trans hN
  clear hN
  go_wp2_with fail
  refine (days_r V pV _ _ dv Hdv.out hV LV).mono ?_
  rintro e wN ⟨rfl, hN⟩
  try replace ha := ha.ext hN
  try replace hb := hb.ext hN
  try replace hU := hU.ext hN
  try replace hV := hV.ext hN
  try replace hW := hW.ext hN
  try replace hX := hX.ext hN
  try replace hl := hl.ext hN
  try replace hk := hk.ext hN
  replace hx := hx.trans hN
  clear hN
  go_wp2_with fail
  refine (days_r a pa _ _ da Hda.out ha la).mono ?_
  rintro e wN ⟨rfl, hN⟩
  try replace ha := ha.ext hN
  try replace hb := hb.ext hN
  try replace hU := hU.ext hN
  try replace hV := hV.ext hN
  try replace hW := hW.ext hN
  try replace hX := hX.ext hN
  try replace hl := hl.ext hN
  try replace hk := hk.ext hN
  replace hx := hx.trans hN
  clear hN
  go_wp2_with fail
  refine (days_r b pb _ _ db Hdb.out hb lb).mono ?_
  rintro e wN ⟨rfl, hN⟩
  try replace ha := ha.ext hN
  try replace hb := hb.ext hN
  try replace hU := hU.ext hN
  try replace hV := hV.ext hN
  try replace hW := hW.ext hN
  try replace hX := hX.ext hN
  try replace hl := hl.ext hN
  try replace hk := hk.ext hN
  replace hx := hx.trans hN
  clear hN
  have hs1 : dv + du = da + db := by omega
  go_wp2_with fail
  refine (days_r W pW _ _ dw Hdw.out hW LW).mono ?_
  rintro e wN ⟨rfl, hN⟩
  try replace ha := ha.ext hN
  try replace hb := hb.ext hN
  try replace hU := hU.ext hN
  try replace hV := hV.ext hN
  try replace hW := hW.ext hN
  try replace hX := hX.ext hN
  try replace hl := hl.ext hN
  try replace hk := hk.ext hN
  replace hx := hx.trans hN
  clear hN
  go_wp2_with fail
  refine (days_r X pX _ _ dx Hdx.out hX LX).mono ?_
  rintro e wN ⟨rfl, hN⟩
  try replace ha := ha.ext hN
  try replace hb := hb.ext hN
  try replace hU := hU.ext hN
  try replace hV := hV.ext hN
  try replace hW := hW.ext hN
  try replace hX := hX.ext hN
  try replace hl := hl.ext hN
  try replace hk := hk.ext hN
  replace hx := hx.trans hN
  clear hN
  go_wp2_with fail
  refine (days_r V pV _ _ dv Hdv.out hV LV).mono ?_
  rintro e wN ⟨rfl, hN⟩
  try replace ha := ha.ext hN
  try replace hb := hb.ext hN
  try replace hU := hU.ext hN
  try replace hV := hV.ext hN
  try replace hW := hW.ext hN
  try replace hX := hX.ext hN
  try replace hl := hl.ext hN
  try replace hk := hk.ext hN
  replace hx := hx.trans hN
  clear hN
  go_wp2_with fail
  refine (days_r U pU _ _ du Hdu.out hU LU).mono ?_
  rintro e wN ⟨rfl, hN⟩
  try replace ha := ha.ext hN
  try replace hb := hb.ext hN
  try replace hU := hU.ext hN
  try replace hV := hV.ext hN
  try replace hW := hW.ext hN
  try replace hX := hX.ext hN
  try replace hl := hl.ext hN
  try replace hk := hk.ext hN
  replace hx := hx.trans hN
  clear hN
  by_cases hw0 : (W.length : Int) = 0
  · have HWE : Hid (W.isEmpty = true) := by unfold Hid; rw [List.isEmpty_iff]; exact List.length_eq_zero_iff.1 (by omega)
    have hde : decide ((W.length : Int) = 0) = true := by simpa using hw0
    have hle : ((W.length : Int) == 0) = true := by simpa using hw0
    by_cases hvb : dv = db
    · have HVB : Hid (decide (dv = db) = true) := by unfold Hid; simpa using hvb
      have hbe : (dv == db) = true := by simpa using hvb
      go_wp2_with fail
      refine (within_r V a pV pa _ _ _ true HC3.out hV ha LV la).mono ?_
      rintro e wN ⟨rfl, hN⟩
      try replace ha := ha.ext hN
      try replace hb := hb.ext hN
      try replace hU := hU.ext hN
      try replace hV := hV.ext hN
      try replace hW := hW.ext hN
      try replace hX := hX.ext hN
      try replace hl := hl.ext hN
      try replace hk := hk.ext hN
      replace hx := hx.trans hN
      clear hN
      go_wp2_with fail
      refine (within_r a U pa pU _ _ _ true HC4.out ha hU la LU).mono ?_
      rintro e wN ⟨rfl, hN⟩
      try replace ha := ha.ext hN
      try replace hb := hb.ext hN
      try replace hU := hU.ext hN
      try replace hV := hV.ext hN
      try replace hW := hW.ext hN
      try replace hX := hX.ext hN
      try replace hl := hl.ext hN
      try replace hk := hk.ext hN
      replace hx := hx.trans hN
      clear hN
      go_wp2_with fail
      refine (within_r a b pa pb _ _ _ true (HC5.out.trans HWE.out) ha hb la lb).mono ?_
      rintro e wN ⟨rfl, hN⟩
      try replace ha := ha.ext hN
      try replace hb := hb.ext hN
      try replace hU := hU.ext hN
      try replace hV := hV.ext hN
      try replace hW := hW.ext hN
      try replace hX := hX.ext hN
      try replace hl := hl.ext hN
      try replace hk := hk.ext hN
      replace hx := hx.trans hN
      clear hN
      go_wp2_with fail
      refine (within_r b a pb pa _ _ _ true (HC6.out.trans HVB.out) hb ha lb la).mono ?_
      rintro e wN ⟨rfl, hN⟩
      try replace ha := ha.ext hN
      try replace hb := hb.ext hN
      try replace hU := hU.ext hN
      try replace hV := hV.ext hN
      try replace hW := hW.ext hN
      try replace hX := hX.ext hN
      try replace hl := hl.ext hN
      try replace hk := hk.ext hN
      replace hx := hx.trans hN
      clear hN
      go_wp2_with fail
      refine (days_r V pV _ _ dv Hdv.out hV LV).mono ?_
      rintro e wN ⟨rfl, hN⟩
      try replace ha := ha.ext hN
      try replace hb := hb.ext hN
      try replace hU := hU.ext hN
      try replace hV := hV.ext hN
      try replace hW := hW.ext hN
      try replace hX := hX.ext hN
      try replace hl := hl.ext hN
      try replace hk := hk.ext hN
      replace hx := hx.trans hN
      clear hN
      go_wp2_with fail
      refine (days_r b pb _ _ db Hdb.out hb lb).mono ?_
      rintro e wN ⟨rfl, hN⟩
      try replace ha := ha.ext hN
      try replace hb := hb.ext hN
      try replace hU := hU.ext hN
      try replace hV := hV.ext hN
      try replace hW := hW.ext hN
      try replace hX := hX.ext hN
      try replace hl := hl.ext hN
      try replace hk := hk.ext hN
      replace hx := hx.trans hN
      clear hN
      go_wp2_with fail
      go_ret
      exact ⟨rfl, hx⟩
    · have HVB : Hid (decide (dv = db) = false) := by unfold Hid; simpa using hvb
      have hbe : (dv == db) = false := by simpa using hvb
      go_wp2_with fail
      refine (within_r V a pV pa _ _ _ true HC3.out hV ha LV la).mono ?_
      rintro e wN ⟨rfl, hN⟩
      try replace ha := ha.ext hN
      try replace hb := hb.ext hN
      try replace hU := hU.ext hN
      try replace hV := hV.ext hN
      try replace hW := hW.ext hN
      try replace hX := hX.ext hN
      try replace hl := hl.ext hN
      try replace hk := hk.ext hN
      replace hx := hx.trans hN
      clear hN
      go_wp2_with fail
      refine (within_r a U pa pU _ _ _ true HC4.out ha hU la LU).mono ?_
      rintro e wN ⟨rfl, hN⟩
      try replace ha := ha.ext hN
      try replace hb := hb.ext hN
      try replace hU := hU.ext hN
      try replace hV := hV.ext hN
      try replace hW := hW.ext hN
      try replace hX := hX.ext hN
      try replace hl := hl.ext hN
      try replace hk := hk.ext hN
      replace hx := hx.trans hN
      clear hN
      go_wp2_with fail
      refine (within_r a b pa pb _ _ _ true (HC5.out.trans HWE.out) ha hb la lb).mono ?_
      rintro e wN ⟨rfl, hN⟩
      try replace ha := ha.ext hN
      try replace hb := hb.ext hN
      try replace hU := hU.ext hN
      try replace hV := hV.ext hN
      try replace hW := hW.ext hN
      try replace hX := hX.ext hN
      try replace hl := hl.ext hN
      try replace hk := hk.ext hN
      replace hx := hx.trans hN
      clear hN
      go_wp2_with fail
      refine (within_r b a pb pa _ _ _ false (HC6.out.trans HVB.out) hb ha lb la).mono ?_
      rintro e wN ⟨rfl, hN⟩
      try replace ha := ha.ext hN
      try replace hb := hb.ext hN
      try replace hU := hU.ext hN
      try replace hV := hV.ext hN
      try replace hW := hW.ext hN
      try replace hX := hX.ext hN
      try replace hl := hl.ext hN
      try replace hk := hk.ext hN
      replace hx := hx.trans hN
      clear hN
      go_wp2_with fail
      refine (days_r V pV _ _ dv Hdv.out hV LV).mono ?_
      rintro e wN ⟨rfl, hN⟩
      try replace ha := ha.ext hN
      try replace hb := hb.ext hN
      try replace hU := hU.ext hN
      try replace hV := hV.ext hN
      try replace hW := hW.ext hN
      try replace hX := hX.ext hN
      try replace hl := hl.ext hN
      try replace hk := hk.ext hN
      replace hx := hx.trans hN
      clear hN
      go_wp2_with fail
      refine (days_r b pb _ _ db Hdb.out hb lb).mono ?_
      rintro e wN ⟨rfl, hN⟩
      try replace ha := ha.ext hN
      try replace hb := hb.ext hN
      try replace hU := hU.ext hN
      try replace hV := hV.ext hN
      try replace hW := hW.ext hN
      try replace hX := hX.ext hN
      try replace hl := hl.ext hN
      try replace hk := hk.ext hN
      replace hx := hx.trans hN
      clear hN
      go_wp2_with fail
      go_ret
      exact ⟨rfl, hx⟩
  · have HWE : Hid (W.isEmpty = false) := by unfold Hid; cases W with | nil => simp at hw0 | cons _ _ => rfl
    have hde : decide ((W.length : Int) = 0) = false := by simpa using hw0
    have hle : ((W.length : Int) == 0) = false := by simpa using hw0
    by_cases hvb : dv = db
    · have HVB : Hid (decide (dv = db) = true) := by unfold Hid; simpa using hvb
      have hbe : (dv == db) = true := by simpa using hvb
      go_wp2_with fail
      refine (within_r V a pV pa _ _ _ true HC3.out hV ha LV la).mono ?_
      rintro e wN ⟨rfl, hN⟩
      try replace ha := ha.ext hN
      try replace hb := hb.ext hN
      try replace hU := hU.ext hN
      try replace hV := hV.ext hN
      try replace hW := hW.ext hN
      try replace hX := hX.ext hN
      try replace hl := hl.ext hN
      try replace hk := hk.ext hN
      replace hx := hx.trans hN
      clear hN
      go_wp2_with fail
      refine (within_r a U pa pU _ _ _ true HC4.out ha hU la LU).mono ?_
      rintro e wN ⟨rfl, hN⟩
      try replace ha := ha.ext hN
      try replace hb := hb.ext hN
      try replace hU := hU.ext hN
      try replace hV := hV.ext hN
      try replace hW := hW.ext hN
      try replace hX := hX.ext hN
      try replace hl := hl.ext hN
      try replace hk := hk.ext hN
      replace hx := hx.trans hN
      clear hN
      go_wp2_with fail
      refine (within_r a b pa pb _ _ _ false (HC5.out.trans HWE.out) ha hb la lb).mono ?_
      rintro e wN ⟨rfl, hN⟩
      try replace ha := ha.ext hN
      try replace hb := hb.ext hN
      try replace hU := hU.ext hN
      try replace hV := hV.ext hN
      try replace hW := hW.ext hN
      try replace hX := hX.ext hN
      try replace hl := hl.ext hN
      try replace hk := hk.ext hN
      replace hx := hx.trans hN
      clear hN
      go_wp2_with fail
      refine (within_r b a pb pa _ _ _ true (HC6.out.trans HVB.out) hb ha lb la).mono ?_
      rintro e wN ⟨rfl, hN⟩
      try replace ha := ha.ext hN
      try replace hb := hb.ext hN
      try replace hU := hU.ext hN
      try replace hV := hV.ext hN
      try replace hW := hW.ext hN
      try replace hX := hX.ext hN
      try replace hl := hl.ext hN
      try replace hk := hk.ext hN
      replace hx := hx.trans hN
      clear hN
      go_wp2_with fail
      refine (days_r V pV _ _ dv Hdv.out hV LV).mono ?_
      rintro e wN ⟨rfl, hN⟩
      try replace ha := ha.ext hN
      try replace hb := hb.ext hN
      try replace hU := hU.ext hN
      try replace hV := hV.ext hN
      try replace hW := hW.ext hN
      try replace hX := hX.ext hN
      try replace hl := hl.ext hN
      try replace hk := hk.ext hN
      replace hx := hx.trans hN
      clear hN
      go_wp2_with fail
      refine (days_r b pb _ _ db Hdb.out hb lb).mono ?_
      rintro e wN ⟨rfl, hN⟩
      try replace ha := ha.ext hN
      try replace hb := hb.ext hN
      try replace hU := hU.ext hN
      try replace hV := hV.ext hN
      try replace hW := hW.ext hN
      try replace hX := hX.ext hN
      try replace hl := hl.ext hN
      try replace hk := hk.ext hN
      replace hx := hx.trans hN
      clear hN
      go_wp2_with fail
      go_ret
      exact ⟨rfl, hx⟩
    · have HVB : Hid (decide (dv = db) = false) := by unfold Hid; simpa using hvb
      have hbe : (dv == db) = false := by simpa using hvb
      go_wp2_with fail
      refine (within_r V a pV pa _ _ _ true HC3.out hV ha LV la).mono ?_
      rintro e wN ⟨rfl, hN⟩
      try replace ha := ha.ext hN
      try replace hb := hb.ext hN
      try replace hU := hU.ext hN
      try replace hV := hV.ext hN
      try replace hW := hW.ext hN
      try replace hX := hX.ext hN
      try replace hl := hl.ext hN
      try replace hk := hk.ext hN
      replace hx := hx.trans hN
      clear hN
      go_wp2_with fail
      refine (within_r a U pa pU _ _ _ true HC4.out ha hU la LU).mono ?_
      rintro e wN ⟨rfl, hN⟩
      try replace ha := ha.ext hN
      try replace hb := hb.ext hN
      try replace hU := hU.ext hN
      try replace hV := hV.ext hN
      try replace hW := hW.ext hN
      try replace hX := hX.ext hN
      try replace hl := hl.ext hN
      try replace hk := hk.ext hN
      replace hx := hx.trans hN
      clear hN
      go_wp2_with fail
      refine (within_r a b pa pb _ _ _ false (HC5.out.trans HWE.out) ha hb la lb).mono ?_
      rintro e wN ⟨rfl, hN⟩
      try replace ha := ha.ext hN
      try replace hb := hb.ext hN
      try replace hU := hU.ext hN
      try replace hV := hV.ext hN
      try replace hW := hW.ext hN
      try replace hX := hX.ext hN
      try replace hl := hl.ext hN
      try replace hk := hk.ext hN
      replace hx := hx.trans hN
      clear hN
      go_wp2_with fail
      refine (within_r b a pb pa _ _ _ false (HC6.out.trans HVB.out) hb ha lb la).mono ?_
      rintro e wN ⟨rfl, hN⟩
      try replace ha := ha.ext hN
      try replace hb := hb.ext hN
      try replace hU := hU.ext hN
      try replace hV := hV.ext hN
      try replace hW := hW.ext hN
      try replace hX := hX.ext hN
      try replace hl := hl.ext hN
      try replace hk := hk.ext hN
      replace hx := hx.trans hN
      clear hN
      go_wp2_with fail
      refine (days_r V pV _ _ dv Hdv.out hV LV).mono ?_
      rintro e wN ⟨rfl, hN⟩
      try replace ha := ha.ext hN
      try replace hb := hb.ext hN
      try replace hU := hU.ext hN
      try replace hV := hV.ext hN
      try replace hW := hW.ext hN
      try replace hX := hX.ext hN
      try replace hl := hl.ext hN
      try replace hk := hk.ext hN
      replace hx := hx.trans hN
      clear hN
      go_wp2_with fail
      refine (days_r b pb _ _ db Hdb.out hb lb).mono ?_
      rintro e wN ⟨rfl, hN⟩
      try replace ha := ha.ext hN
      try replace hb := hb.ext hN
      try replace hU := hU.ext hN
      try replace hV := hV.ext hN
      try replace hW := hW.ext hN
      try replace hX := hX.ext hN
      try replace hl := hl.ext hN
      try replace hk := hk.ext hN
      replace hx := hx.trans hN
      clear hN
      go_wp2_with fail
      go_ret
      exact ⟨rfl, hx⟩
end Go.Proofs.Ytbjhehmglahmpaa
