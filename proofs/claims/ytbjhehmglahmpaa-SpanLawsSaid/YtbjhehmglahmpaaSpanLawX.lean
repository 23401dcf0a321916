import Derived.Test.YtbjhehmglahmpaaSpanLawW
import Derived.Test.YtbjhehmglahmpaaSpanGapW
import Derived.Test.YtbjhehmglahmpaaLibQuietTail
/- The law SpanLaws, walked: it returns true; the three slices of 16-bit numbers are read. -/
namespace Go.Proofs.Ytbjhehmglahmpaa
open Go.RowKit

set_option maxHeartbeats 32000000 in
set_option maxRecDepth 100000 in
theorem spanLaws_any (l k j : List Int) (p q r : Option Addr) (c1 c2 c3 : Nat) (w : World) (hl : Sl 1 encU w p l) (hk : Sl 1 encU w q k) (hj : Sl 1 encU w r j) (hm : l.length ≤ 9223372036854775807) (hm2 : k.length ≤ 9223372036854775807) (hm3 : j.length ≤ 9223372036854775807) (hu : ∀ x ∈ l, 0 ≤ x ∧ x ≤ 65535) (hu2 : ∀ x ∈ k, 0 ≤ x ∧ x ≤ 65535) (hu3 : ∀ x ∈ j, 0 ≤ x ∧ x ≤ 65535) :
    Calls Try.prog 6 #[.slice p l.length c1, .slice q k.length c2, .slice r j.length c3] w fun e w' => e = .returned (.bool true) ∧ Ext w w' := by
  go_enter Try.func6, Try.ntmps6
  go_wp2_with fail
  refine (awake04 _).mono ?_
  rintro e wN ⟨rfl, hx⟩
  replace hl := hl.ext hx
  replace hk := hk.ext hx
  replace hj := hj.ext hx
  go_wp2_with fail
  refine (built_any l p _ _ hl hm hu).mono ?_
  rintro e wN ⟨pa, ca, a, rfl, ha, hoka, h60a, hN⟩
  try replace ha := ha.ext hN
  try replace hb := hb.ext hN
  try replace hc := hc.ext hN
  try replace hD := hD.ext hN
  try replace h1 := h1.ext hN
  try replace h2 := h2.ext hN
  try replace h3 := h3.ext hN
  try replace h4 := h4.ext hN
  try replace h5 := h5.ext hN
  try replace hl := hl.ext hN
  try replace hk := hk.ext hN
  try replace hj := hj.ext hN
  try replace hbk := heap_ext hbk hN
  replace hx := hx.trans hN
  clear hN
  go_wp2_with fail
  refine (built_any k q _ _ hk hm2 hu2).mono ?_
  rintro e wN ⟨pb, cb, b, rfl, hb, hokb, h60b, hN⟩
  try replace ha := ha.ext hN
  try replace hb := hb.ext hN
  try replace hc := hc.ext hN
  try replace hD := hD.ext hN
  try replace h1 := h1.ext hN
  try replace h2 := h2.ext hN
  try replace h3 := h3.ext hN
  try replace h4 := h4.ext hN
  try replace h5 := h5.ext hN
  try replace hl := hl.ext hN
  try replace hk := hk.ext hN
  try replace hj := hj.ext hN
  try replace hbk := heap_ext hbk hN
  replace hx := hx.trans hN
  clear hN
  go_wp2_with fail
  refine (built_any j r _ _ hj hm3 hu3).mono ?_
  rintro e wN ⟨pc, cc, c, rfl, hc, hokc, h60c, hN⟩
  try replace ha := ha.ext hN
  try replace hb := hb.ext hN
  try replace hc := hc.ext hN
  try replace hD := hD.ext hN
  try replace h1 := h1.ext hN
  try replace h2 := h2.ext hN
  try replace h3 := h3.ext hN
  try replace h4 := h4.ext hN
  try replace h5 := h5.ext hN
  try replace hl := hl.ext hN
  try replace hk := hk.ext hN
  try replace hj := hj.ext hN
  try replace hbk := heap_ext hbk hN
  replace hx := hx.trans hN
  clear hN
  clear hl hk hj hu hu2 hu3 hm hm2 hm3
  have OA := Lib.hid hoka
  have OB := Lib.hid hokb
  have OC := Lib.hid hokc
  clear hoka hokb hokc
  go_wp2_with fail
  have hbk := heap_new wN (.cells #[.int .i64 0] 53)
  have hW := (Ext.refl wN).alloc (.cells #[.int .i64 0] 53)
  try replace ha := ha.ext hW
  try replace hb := hb.ext hW
  try replace hc := hc.ext hW
  try replace hD := hD.ext hW
  try replace h1 := h1.ext hW
  try replace h2 := h2.ext hW
  try replace h3 := h3.ext hW
  try replace h4 := h4.ext hW
  try replace h5 := h5.ext hW
  try replace hl := hl.ext hW
  try replace hk := hk.ext hW
  try replace hj := hj.ext hW
  try replace hbk := heap_ext hbk hW
  replace hx := hx.trans hW
  clear hW
  generalize wN.alloc (.cells #[.int .i64 0] 53) = W0 at hbk ha hb hc hx ⊢
  generalize wN.heap.size = bk at hbk ⊢
  obtain ⟨N, hmx, hna, hnb, hn60⟩ : ∃ N : Nat, max (a.length : Int) (b.length : Int) = (N : Int) ∧ a.length ≤ N ∧ b.length ≤ N ∧ N ≤ 60 := ⟨max a.length b.length, by omega, by omega, by omega, by omega⟩
  simp only [hmx]
  clear hmx
  go_loopw [16, 38] (fun v i wr => ∃ (n : Nat) (out : List Sp), n ≤ N ∧ i = .int .i64 n ∧ OwnS W0 wr v out ∧ out.length ≤ 3 * n ∧ Hid (∀ s ∈ out, s ∈ a ∨ s ∈ b) ∧ Hid (Cov a n out) ∧ Hid (Cov b n out) ∧ Ext W0 wr) (fun _ i _ => N - (intOf i).toNat)
  case atStart => exact ⟨0, [], by omega, rfl, Owns.nil, by simp, (by unfold Hid; simp), Cov.zero _ _, Cov.zero _ _, Ext.refl _⟩
  case round =>
    obtain ⟨n, out, hn, rfl, hown, hlo, hsub, hca, hcb, hx2⟩ := hrel
    by_cases hnN : n < N
    · have hde : decide ((n : Int) < (N : Int)) = true := by simpa using hnN
      go_wp2_with fail
      have hlit := heap_new wr (.cells #[.slice pb b.length cb, .slice pa a.length ca, .slice pb b.length cb] 52)
      have hx3 := hx2.alloc (.cells #[.slice pb b.length cb, .slice pa a.length ca, .slice pb b.length cb] 52)
      have hown3 := hown.alloc (.cells #[.slice pb b.length cb, .slice pa a.length ca, .slice pb b.length cb] 52)
      generalize wr.alloc (.cells #[.slice pb b.length cb, .slice pa a.length ca, .slice pb b.length cb] 52) = W1 at hlit hx3 hown3 ⊢
      generalize wr.heap.size = lb at hlit ⊢
      have hlit := Lib.hid hlit
      clear hown hx2
      go_loopw [16, 46] (fun v i wq => ∃ (m : Nat) (out : List Sp), m ≤ 3 ∧ i = .int .i64 m ∧ OwnS W0 wq v out ∧ out.length ≤ 3 * n + m ∧ Hid (∀ s ∈ out, s ∈ a ∨ s ∈ b) ∧ Hid (Cov a n out) ∧ Hid (Cov b n out) ∧ Hid (1 ≤ m → Cov b (n + 1) out) ∧ Hid (2 ≤ m → Cov a (n + 1) out) ∧ Hid (wq.heap[lb]? = some (.cells #[.slice pb b.length cb, .slice pa a.length ca, .slice pb b.length cb] 52 (0, 0))) ∧ Ext W0 wq) (fun _ i _ => 3 - (intOf i).toNat)
      case atStart => exact ⟨0, out, by omega, rfl, hown3, by omega, hsub, hca, hcb, (fun h => absurd h (by omega)), (fun h => absurd h (by omega)), hlit, hx3⟩
      case round =>
        obtain ⟨m, ot, hm, rfl, hown4, hlo4, hsub4, hca4, hcb4, hb1, ha1, hlit4, hx4⟩ := hrel
        by_cases hm3 : m < 3
        · obtain ⟨L, pL, cL, hcell, hL, hLs, hL0, hL1, hcL⟩ : ∃ L pL cL, wr.cell? ⟨lb, m, none⟩ = some (.slice pL L.length cL) ∧ Sl 2 enc2 W0 pL L ∧ (L = a ∨ L = b) ∧ (m = 0 → L = b) ∧ (m = 1 → L = a) ∧ Hid (Cov L n ot) := by
            rcases (by omega : m = 0 ∨ m = 1 ∨ m = 2) with rfl | rfl | rfl
            · exact ⟨b, pb, cb, by rw [cell_of hlit4.out]; rfl, hb, .inr rfl, fun _ => rfl, fun h => absurd h (by omega), hcb4⟩
            · exact ⟨a, pa, ca, by rw [cell_of hlit4.out]; rfl, ha, .inl rfl, fun h => absurd h (by omega), fun _ => rfl, hca4⟩
            · exact ⟨b, pb, cb, by rw [cell_of hlit4.out]; rfl, hb, .inr rfl, fun _ => rfl, fun h => absurd h (by omega), hcb4⟩
          have hL60 : L.length ≤ 60 := by rcases hLs with rfl | rfl <;> assumption
          have HLS := Lib.hid hLs
          have HL0 := Lib.hid hL0
          have HL1 := Lib.hid hL1
          clear hLs hL0 hL1
          have hi1 := IntWalk.i64_in ((L.length : Int) - 1) (by omega)
          have hi2 := IntWalk.i64_in ((L.length : Int) - 1 - (n : Int)) (by omega)
          by_cases hk : n + 1 ≤ L.length
          · obtain ⟨k, hk2⟩ : ∃ k, L.length = k + n + 1 := ⟨L.length - 1 - n, by omega⟩
            have HK := Lib.hid hk2
            have hkl : k < L.length := by omega
            obtain ⟨bb, off, rfl, hbl, c0, c1⟩ := (hL.ext hx4).cells2 k hkl
            have htn : ((L.length : Int) - 1 - (n : Int)).toNat = k := by omega
            have hge : (L.length : Int) - 1 - (n : Int) ≥ 0 := by omega
            have hlt : (L.length : Int) - 1 - (n : Int) < (L.length : Int) := by omega
            clear hk2
            go_wp2_with (at_builtin; refine wpList_append_one (w0 := W0) rfl _ _ 52 65 16 _ enc2_len enc2_one (by decide) rfl Try.underlying52 infoSp rfl ot L[k] hown4 hx4 _ 1 rfl rfl (by simp) (by omega) (by omega) ?_; intro v5 w5 hown5 hx5 hg5)
            go_roundw
            case rel =>
              have hmem : L[k] ∈ L := List.getElem_mem hkl
              have hcov : Cov L (n + 1) (ot ++ [L[k]]) := hcL.out.step hkl (by have := HK.out; omega)
              refine ⟨m + 1, ot ++ [L[k]], by omega, by go_num, hown5, by simp; omega, ?_, hca4.out.more _, hcb4.out.more _, fun _ => ?_, fun h2 => ?_, heap_kept2 (heap_ext hlit4.out ((Ext.refl _).alloc _)) hg5 (Owns.not_row hown4 hlit4.out (by decide)), hx5⟩
              · intro s hs
                rw [List.mem_append, List.mem_singleton] at hs
                rcases hs with hs | rfl
                · exact hsub4.out s hs
                · rcases HLS.out with h | h
                  · exact .inl (h ▸ hmem)
                  · exact .inr (h ▸ hmem)
              · rcases (by omega : m = 0 ∨ 1 ≤ m) with h0 | h0
                · have := HL0.out h0
                  subst this
                  exact hcov
                · exact (hb1.out h0).more _
              · rcases (by omega : m = 1 ∨ 2 ≤ m) with h0 | h0
                · have := HL1.out h0
                  subst this
                  exact hcov
                · exact (ha1.out h0).more _
            case measure => simp [intOf]; omega
          · have hge : ¬ (L.length : Int) - 1 - (n : Int) ≥ 0 := by omega
            go_wp2_with fail
            go_roundw
            case rel =>
              have hcov : Cov L (n + 1) ot := hcL.out.done (by omega) _
              refine ⟨m + 1, ot, by omega, by go_num, hown4, by omega, hsub4, hca4, hcb4, fun _ => ?_, fun h2 => ?_, hlit4, hx4⟩
              · rcases (by omega : m = 0 ∨ 1 ≤ m) with h0 | h0
                · have := HL0.out h0
                  subst this
                  exact hcov
                · exact hb1.out h0
              · rcases (by omega : m = 1 ∨ 2 ≤ m) with h0 | h0
                · have := HL1.out h0
                  subst this
                  exact hcov
                · exact ha1.out h0
            case measure => simp [intOf]; omega
        · have hcbn := hb1.out (by omega)
          have hcan := ha1.out (by omega)
          go_wp2_with fail
          go_roundw
          case rel => exact ⟨n + 1, ot, by omega, by go_num, hown4, by omega, hsub4, hcan, hcbn, hx4⟩
          case measure => simp [intOf]; omega
    · obtain ⟨pm, cm, rfl, hsm⟩ := hown.read enc2_len
      obtain ⟨U, EU⟩ : ∃ z, Hid (uS a b = z) := ⟨_, rfl⟩
      obtain ⟨M, EM⟩ : ∃ z, Hid (mS a b = z) := ⟨_, rfl⟩
      obtain ⟨V, EV⟩ : ∃ z, Hid (uS b c = z) := ⟨_, rfl⟩
      obtain ⟨X, EX⟩ : ∃ z, Hid (mS b c = z) := ⟨_, rfl⟩
      obtain ⟨Q, EQ⟩ : ∃ z, Hid (mS a c = z) := ⟨_, rfl⟩
      obtain ⟨S, ES⟩ : ∃ z, Hid (uS a c = z) := ⟨_, rfl⟩
      obtain ⟨T, ET⟩ : ∃ z, Hid (uS U c = z) := ⟨_, rfl⟩
      obtain ⟨Y, EY⟩ : ∃ z, Hid (mS M c = z) := ⟨_, rfl⟩
      obtain ⟨P, EP⟩ : ∃ z, Hid (mS a V = z) := ⟨_, rfl⟩
      obtain ⟨R, ER⟩ : ∃ z, Hid (uS a X = z) := ⟨_, rfl⟩
      obtain ⟨D, ED⟩ : ∃ z, Hid (dS a b = z) := ⟨_, rfl⟩
      have OU : Hid (Ok (-1) U) := EU.out ▸ (uS_spec OA.out OB.out).1
      have OM : Hid (Ok (-1) M) := EM.out ▸ (mS_spec OA.out OB.out).1
      have OV : Hid (Ok (-1) V) := EV.out ▸ (uS_spec OB.out OC.out).1
      have OX : Hid (Ok (-1) X) := EX.out ▸ (mS_spec OB.out OC.out).1
      have OQ : Hid (Ok (-1) Q) := EQ.out ▸ (mS_spec OA.out OC.out).1
      have OS : Hid (Ok (-1) S) := ES.out ▸ (uS_spec OA.out OC.out).1
      have LU := OU.out.len6
      have LM := OM.out.len6
      have LT : T.length ≤ 1000000 := (ET.out ▸ (uS_spec OU.out OC.out).1 : Ok (-1) T).len6
      have LY : Y.length ≤ 1000000 := (EY.out ▸ (mS_spec OM.out OC.out).1 : Ok (-1) Y).len6
      have LP : P.length ≤ 1000000 := (EP.out ▸ (mS_spec OA.out OV.out).1 : Ok (-1) P).len6
      have LR : R.length ≤ 1000000 := (ER.out ▸ (uS_spec OA.out OX.out).1 : Ok (-1) R).len6
      have LD : D.length ≤ 1000000 := (ED.out ▸ (dS_spec OA.out OB.out).1 : Ok (-1) D).len6
      have EU2 : Hid (uS b a = U) := (law_uc OA.out OB.out).trans EU.out
      have EM2 : Hid (mS b a = M) := (law_mc OA.out OB.out).trans EM.out
      have ET2 : Hid (uS a V = T) := by unfold Hid; rw [← EV.out, law_ua OA.out OB.out OC.out, EU.out]; exact ET.out
      have EY2 : Hid (mS a X = Y) := by unfold Hid; rw [← EX.out, law_ma OA.out OB.out OC.out, EM.out]; exact EY.out
      have EP2 : Hid (uS M Q = P) := by unfold Hid; rw [← EM.out, ← EQ.out, law_mu OA.out OB.out OC.out, EV.out]; exact EP.out
      have ER2 : Hid (mS U S = R) := by unfold Hid; rw [← EU.out, ← ES.out, law_um OA.out OB.out OC.out, EX.out]; exact ER.out
      have ED2 : Hid (dS a M = D) := by unfold Hid; rw [← EM.out, law_dm OA.out OB.out]; exact ED.out
      have HMX := mixed_made OA.out OB.out hsub.out hca.out hcb.out (by omega) (by omega)
      have HMD : Hid (makeV out = U ∧ makeE out = 0) := ⟨HMX.1.trans EU.out, HMX.2⟩
      have lm : out.length ≤ 1000000 := by omega
      clear HMX hsub hca hcb hown
      replace hx := hx.trans hx2
      replace ha := ha.ext hx2
      replace hb := hb.ext hx2
      replace hc := hc.ext hx2
      replace hbk := heap_ext hbk hx2
      clear hx2
      go_wp2_with fail
      refine (make_r out U 0 pm _ _ HMD.out.1 HMD.out.2 hsm lm).mono ?_
      rintro e wN ⟨pD, cD, rfl, hD, hN⟩
      clear hsm HMD
      try replace ha := ha.ext hN
      try replace hb := hb.ext hN
      try replace hc := hc.ext hN
      try replace hD := hD.ext hN
      try replace h1 := h1.ext hN
      try replace h2 := h2.ext hN
      try replace h3 := h3.ext hN
      try replace h4 := h4.ext hN
      try replace h5 := h5.ext hN
      try replace hl := hl.ext hN
      try replace hk := hk.ext hN
      try replace hj := hj.ext hN
      try replace hbk := heap_ext hbk hN
      replace hx := hx.trans hN
      clear hN
      go_wp2_with fail
      refine (do_u a b U pa pb _ _ _ _ EU.out OA.out OB.out ha hb hbk).mono ?_
      rintro e wN ⟨p1, _, rfl, h1, hN⟩
      try replace ha := ha.ext hN
      try replace hb := hb.ext hN
      try replace hc := hc.ext hN
      try replace hD := hD.ext hN
      try replace h1 := h1.ext hN
      try replace h2 := h2.ext hN
      try replace h3 := h3.ext hN
      try replace h4 := h4.ext hN
      try replace h5 := h5.ext hN
      try replace hl := hl.ext hN
      try replace hk := hk.ext hN
      try replace hj := hj.ext hN
      try replace hbk := heap_ext hbk hN
      replace hx := hx.trans hN
      clear hN
      go_wp2_with fail
      refine (do_u b a U pb pa _ _ _ _ EU2.out OB.out OA.out hb ha hbk).mono ?_
      rintro e wN ⟨p2, _, rfl, h2, hN⟩
      try replace ha := ha.ext hN
      try replace hb := hb.ext hN
      try replace hc := hc.ext hN
      try replace hD := hD.ext hN
      try replace h1 := h1.ext hN
      try replace h2 := h2.ext hN
      try replace h3 := h3.ext hN
      try replace h4 := h4.ext hN
      try replace h5 := h5.ext hN
      try replace hl := hl.ext hN
      try replace hk := hk.ext hN
      try replace hj := hj.ext hN
      try replace hbk := heap_ext hbk hN
      replace hx := hx.trans hN
      clear hN
      go_wp2_with fail
      refine (same_r U U _ _ _ _ _ true ((sameB_iff _ _).2 rfl) h1 h2 LU).mono ?_
      rintro e wN ⟨rfl, hN⟩
      try replace ha := ha.ext hN
      try replace hb := hb.ext hN
      try replace hc := hc.ext hN
      try replace hD := hD.ext hN
      try replace h1 := h1.ext hN
      try replace h2 := h2.ext hN
      try replace h3 := h3.ext hN
      try replace h4 := h4.ext hN
      try replace h5 := h5.ext hN
      try replace hl := hl.ext hN
      try replace hk := hk.ext hN
      try replace hj := hj.ext hN
      try replace hbk := heap_ext hbk hN
      replace hx := hx.trans hN
      clear hN
      clear h1 h2
      go_wp2_with fail
      refine (do_m a b M pa pb _ _ _ _ EM.out OA.out OB.out ha hb hbk).mono ?_
      rintro e wN ⟨p1, _, rfl, h1, hN⟩
      try replace ha := ha.ext hN
      try replace hb := hb.ext hN
      try replace hc := hc.ext hN
      try replace hD := hD.ext hN
      try replace h1 := h1.ext hN
      try replace h2 := h2.ext hN
      try replace h3 := h3.ext hN
      try replace h4 := h4.ext hN
      try replace h5 := h5.ext hN
      try replace hl := hl.ext hN
      try replace hk := hk.ext hN
      try replace hj := hj.ext hN
      try replace hbk := heap_ext hbk hN
      replace hx := hx.trans hN
      clear hN
      go_wp2_with fail
      refine (do_m b a M pb pa _ _ _ _ EM2.out OB.out OA.out hb ha hbk).mono ?_
      rintro e wN ⟨p2, _, rfl, h2, hN⟩
      try replace ha := ha.ext hN
      try replace hb := hb.ext hN
      try replace hc := hc.ext hN
      try replace hD := hD.ext hN
      try replace h1 := h1.ext hN
      try replace h2 := h2.ext hN
      try replace h3 := h3.ext hN
      try replace h4 := h4.ext hN
      try replace h5 := h5.ext hN
      try replace hl := hl.ext hN
      try replace hk := hk.ext hN
      try replace hj := hj.ext hN
      try replace hbk := heap_ext hbk hN
      replace hx := hx.trans hN
      clear hN
      go_wp2_with fail
      refine (same_r M M _ _ _ _ _ true ((sameB_iff _ _).2 rfl) h1 h2 LM).mono ?_
      rintro e wN ⟨rfl, hN⟩
      try replace ha := ha.ext hN
      try replace hb := hb.ext hN
      try replace hc := hc.ext hN
      try replace hD := hD.ext hN
      try replace h1 := h1.ext hN
      try replace h2 := h2.ext hN
      try replace h3 := h3.ext hN
      try replace h4 := h4.ext hN
      try replace h5 := h5.ext hN
      try replace hl := hl.ext hN
      try replace hk := hk.ext hN
      try replace hj := hj.ext hN
      try replace hbk := heap_ext hbk hN
      replace hx := hx.trans hN
      clear hN
      clear h1 h2
      go_wp2_with fail
      refine (do_u a b U pa pb _ _ _ _ EU.out OA.out OB.out ha hb hbk).mono ?_
      rintro e wN ⟨p1, _, rfl, h1, hN⟩
      try replace ha := ha.ext hN
      try replace hb := hb.ext hN
      try replace hc := hc.ext hN
      try replace hD := hD.ext hN
      try replace h1 := h1.ext hN
      try replace h2 := h2.ext hN
      try replace h3 := h3.ext hN
      try replace h4 := h4.ext hN
      try replace h5 := h5.ext hN
      try replace hl := hl.ext hN
      try replace hk := hk.ext hN
      try replace hj := hj.ext hN
      try replace hbk := heap_ext hbk hN
      replace hx := hx.trans hN
      clear hN
      go_wp2_with fail
      refine (do_u U c T p1 pc _ _ _ _ ET.out OU.out OC.out h1 hc hbk).mono ?_
      rintro e wN ⟨p2, _, rfl, h2, hN⟩
      try replace ha := ha.ext hN
      try replace hb := hb.ext hN
      try replace hc := hc.ext hN
      try replace hD := hD.ext hN
      try replace h1 := h1.ext hN
      try replace h2 := h2.ext hN
      try replace h3 := h3.ext hN
      try replace h4 := h4.ext hN
      try replace h5 := h5.ext hN
      try replace hl := hl.ext hN
      try replace hk := hk.ext hN
      try replace hj := hj.ext hN
      try replace hbk := heap_ext hbk hN
      replace hx := hx.trans hN
      clear hN
      go_wp2_with fail
      refine (do_u b c V pb pc _ _ _ _ EV.out OB.out OC.out hb hc hbk).mono ?_
      rintro e wN ⟨p3, _, rfl, h3, hN⟩
      try replace ha := ha.ext hN
      try replace hb := hb.ext hN
      try replace hc := hc.ext hN
      try replace hD := hD.ext hN
      try replace h1 := h1.ext hN
      try replace h2 := h2.ext hN
      try replace h3 := h3.ext hN
      try replace h4 := h4.ext hN
      try replace h5 := h5.ext hN
      try replace hl := hl.ext hN
      try replace hk := hk.ext hN
      try replace hj := hj.ext hN
      try replace hbk := heap_ext hbk hN
      replace hx := hx.trans hN
      clear hN
      go_wp2_with fail
      refine (do_u a V T pa p3 _ _ _ _ ET2.out OA.out OV.out ha h3 hbk).mono ?_
      rintro e wN ⟨p4, _, rfl, h4, hN⟩
      try replace ha := ha.ext hN
      try replace hb := hb.ext hN
      try replace hc := hc.ext hN
      try replace hD := hD.ext hN
      try replace h1 := h1.ext hN
      try replace h2 := h2.ext hN
      try replace h3 := h3.ext hN
      try replace h4 := h4.ext hN
      try replace h5 := h5.ext hN
      try replace hl := hl.ext hN
      try replace hk := hk.ext hN
      try replace hj := hj.ext hN
      try replace hbk := heap_ext hbk hN
      replace hx := hx.trans hN
      clear hN
      go_wp2_with fail
      refine (same_r T T _ _ _ _ _ true ((sameB_iff _ _).2 rfl) h2 h4 LT).mono ?_
      rintro e wN ⟨rfl, hN⟩
      try replace ha := ha.ext hN
      try replace hb := hb.ext hN
      try replace hc := hc.ext hN
      try replace hD := hD.ext hN
      try replace h1 := h1.ext hN
      try replace h2 := h2.ext hN
      try replace h3 := h3.ext hN
      try replace h4 := h4.ext hN
      try replace h5 := h5.ext hN
      try replace hl := hl.ext hN
      try replace hk := hk.ext hN
      try replace hj := hj.ext hN
      try replace hbk := heap_ext hbk hN
      replace hx := hx.trans hN
      clear hN
      clear h2 h4
      clear h1 h3
      go_wp2_with fail
      refine (do_m a b M pa pb _ _ _ _ EM.out OA.out OB.out ha hb hbk).mono ?_
      rintro e wN ⟨p1, _, rfl, h1, hN⟩
      try replace ha := ha.ext hN
      try replace hb := hb.ext hN
      try replace hc := hc.ext hN
      try replace hD := hD.ext hN
      try replace h1 := h1.ext hN
      try replace h2 := h2.ext hN
      try replace h3 := h3.ext hN
      try replace h4 := h4.ext hN
      try replace h5 := h5.ext hN
      try replace hl := hl.ext hN
      try replace hk := hk.ext hN
      try replace hj := hj.ext hN
      try replace hbk := heap_ext hbk hN
      replace hx := hx.trans hN
      clear hN
      go_wp2_with fail
      refine (do_m M c Y p1 pc _ _ _ _ EY.out OM.out OC.out h1 hc hbk).mono ?_
      rintro e wN ⟨p2, _, rfl, h2, hN⟩
      try replace ha := ha.ext hN
      try replace hb := hb.ext hN
      try replace hc := hc.ext hN
      try replace hD := hD.ext hN
      try replace h1 := h1.ext hN
      try replace h2 := h2.ext hN
      try replace h3 := h3.ext hN
      try replace h4 := h4.ext hN
      try replace h5 := h5.ext hN
      try replace hl := hl.ext hN
      try replace hk := hk.ext hN
      try replace hj := hj.ext hN
      try replace hbk := heap_ext hbk hN
      replace hx := hx.trans hN
      clear hN
      go_wp2_with fail
      refine (do_m b c X pb pc _ _ _ _ EX.out OB.out OC.out hb hc hbk).mono ?_
      rintro e wN ⟨p3, _, rfl, h3, hN⟩
      try replace ha := ha.ext hN
      try replace hb := hb.ext hN
      try replace hc := hc.ext hN
      try replace hD := hD.ext hN
      try replace h1 := h1.ext hN
      try replace h2 := h2.ext hN
      try replace h3 := h3.ext hN
      try replace h4 := h4.ext hN
      try replace h5 := h5.ext hN
      try replace hl := hl.ext hN
      try replace hk := hk.ext hN
      try replace hj := hj.ext hN
      try replace hbk := heap_ext hbk hN
      replace hx := hx.trans hN
      clear hN
      go_wp2_with fail
      refine (do_m a X Y pa p3 _ _ _ _ EY2.out OA.out OX.out ha h3 hbk).mono ?_
      rintro e wN ⟨p4, _, rfl, h4, hN⟩
      try replace ha := ha.ext hN
      try replace hb := hb.ext hN
      try replace hc := hc.ext hN
      try replace hD := hD.ext hN
      try replace h1 := h1.ext hN
      try replace h2 := h2.ext hN
      try replace h3 := h3.ext hN
      try replace h4 := h4.ext hN
      try replace h5 := h5.ext hN
      try replace hl := hl.ext hN
      try replace hk := hk.ext hN
      try replace hj := hj.ext hN
      try replace hbk := heap_ext hbk hN
      replace hx := hx.trans hN
      clear hN
      go_wp2_with fail
      refine (same_r Y Y _ _ _ _ _ true ((sameB_iff _ _).2 rfl) h2 h4 LY).mono ?_
      rintro e wN ⟨rfl, hN⟩
      try replace ha := ha.ext hN
      try replace hb := hb.ext hN
      try replace hc := hc.ext hN
      try replace hD := hD.ext hN
      try replace h1 := h1.ext hN
      try replace h2 := h2.ext hN
      try replace h3 := h3.ext hN
      try replace h4 := h4.ext hN
      try replace h5 := h5.ext hN
      try replace hl := hl.ext hN
      try replace hk := hk.ext hN
      try replace hj := hj.ext hN
      try replace hbk := heap_ext hbk hN
      replace hx := hx.trans hN
      clear hN
      clear h2 h4
      clear h1 h3
      go_wp2_with fail
      refine (do_u b c V pb pc _ _ _ _ EV.out OB.out OC.out hb hc hbk).mono ?_
      rintro e wN ⟨p1, _, rfl, h1, hN⟩
      try replace ha := ha.ext hN
      try replace hb := hb.ext hN
      try replace hc := hc.ext hN
      try replace hD := hD.ext hN
      try replace h1 := h1.ext hN
      try replace h2 := h2.ext hN
      try replace h3 := h3.ext hN
      try replace h4 := h4.ext hN
      try replace h5 := h5.ext hN
      try replace hl := hl.ext hN
      try replace hk := hk.ext hN
      try replace hj := hj.ext hN
      try replace hbk := heap_ext hbk hN
      replace hx := hx.trans hN
      clear hN
      go_wp2_with fail
      refine (do_m a V P pa p1 _ _ _ _ EP.out OA.out OV.out ha h1 hbk).mono ?_
      rintro e wN ⟨p2, _, rfl, h2, hN⟩
      try replace ha := ha.ext hN
      try replace hb := hb.ext hN
      try replace hc := hc.ext hN
      try replace hD := hD.ext hN
      try replace h1 := h1.ext hN
      try replace h2 := h2.ext hN
      try replace h3 := h3.ext hN
      try replace h4 := h4.ext hN
      try replace h5 := h5.ext hN
      try replace hl := hl.ext hN
      try replace hk := hk.ext hN
      try replace hj := hj.ext hN
      try replace hbk := heap_ext hbk hN
      replace hx := hx.trans hN
      clear hN
      go_wp2_with fail
      refine (do_m a b M pa pb _ _ _ _ EM.out OA.out OB.out ha hb hbk).mono ?_
      rintro e wN ⟨p3, _, rfl, h3, hN⟩
      try replace ha := ha.ext hN
      try replace hb := hb.ext hN
      try replace hc := hc.ext hN
      try replace hD := hD.ext hN
      try replace h1 := h1.ext hN
      try replace h2 := h2.ext hN
      try replace h3 := h3.ext hN
      try replace h4 := h4.ext hN
      try replace h5 := h5.ext hN
      try replace hl := hl.ext hN
      try replace hk := hk.ext hN
      try replace hj := hj.ext hN
      try replace hbk := heap_ext hbk hN
      replace hx := hx.trans hN
      clear hN
      go_wp2_with fail
      refine (do_m a c Q pa pc _ _ _ _ EQ.out OA.out OC.out ha hc hbk).mono ?_
      rintro e wN ⟨p4, _, rfl, h4, hN⟩
      try replace ha := ha.ext hN
      try replace hb := hb.ext hN
      try replace hc := hc.ext hN
      try replace hD := hD.ext hN
      try replace h1 := h1.ext hN
      try replace h2 := h2.ext hN
      try replace h3 := h3.ext hN
      try replace h4 := h4.ext hN
      try replace h5 := h5.ext hN
      try replace hl := hl.ext hN
      try replace hk := hk.ext hN
      try replace hj := hj.ext hN
      try replace hbk := heap_ext hbk hN
      replace hx := hx.trans hN
      clear hN
      go_wp2_with fail
      refine (do_u M Q P p3 p4 _ _ _ _ EP2.out OM.out OQ.out h3 h4 hbk).mono ?_
      rintro e wN ⟨p5, _, rfl, h5, hN⟩
      try replace ha := ha.ext hN
      try replace hb := hb.ext hN
      try replace hc := hc.ext hN
      try replace hD := hD.ext hN
      try replace h1 := h1.ext hN
      try replace h2 := h2.ext hN
      try replace h3 := h3.ext hN
      try replace h4 := h4.ext hN
      try replace h5 := h5.ext hN
      try replace hl := hl.ext hN
      try replace hk := hk.ext hN
      try replace hj := hj.ext hN
      try replace hbk := heap_ext hbk hN
      replace hx := hx.trans hN
      clear hN
      go_wp2_with fail
      refine (same_r P P _ _ _ _ _ true ((sameB_iff _ _).2 rfl) h2 h5 LP).mono ?_
      rintro e wN ⟨rfl, hN⟩
      try replace ha := ha.ext hN
      try replace hb := hb.ext hN
      try replace hc := hc.ext hN
      try replace hD := hD.ext hN
      try replace h1 := h1.ext hN
      try replace h2 := h2.ext hN
      try replace h3 := h3.ext hN
      try replace h4 := h4.ext hN
      try replace h5 := h5.ext hN
      try replace hl := hl.ext hN
      try replace hk := hk.ext hN
      try replace hj := hj.ext hN
      try replace hbk := heap_ext hbk hN
      replace hx := hx.trans hN
      clear hN
      clear h2 h5
      clear h1 h3 h4
      go_wp2_with fail
      refine (do_m b c X pb pc _ _ _ _ EX.out OB.out OC.out hb hc hbk).mono ?_
      rintro e wN ⟨p1, _, rfl, h1, hN⟩
      try replace ha := ha.ext hN
      try replace hb := hb.ext hN
      try replace hc := hc.ext hN
      try replace hD := hD.ext hN
      try replace h1 := h1.ext hN
      try replace h2 := h2.ext hN
      try replace h3 := h3.ext hN
      try replace h4 := h4.ext hN
      try replace h5 := h5.ext hN
      try replace hl := hl.ext hN
      try replace hk := hk.ext hN
      try replace hj := hj.ext hN
      try replace hbk := heap_ext hbk hN
      replace hx := hx.trans hN
      clear hN
      go_wp2_with fail
      refine (do_u a X R pa p1 _ _ _ _ ER.out OA.out OX.out ha h1 hbk).mono ?_
      rintro e wN ⟨p2, _, rfl, h2, hN⟩
      try replace ha := ha.ext hN
      try replace hb := hb.ext hN
      try replace hc := hc.ext hN
      try replace hD := hD.ext hN
      try replace h1 := h1.ext hN
      try replace h2 := h2.ext hN
      try replace h3 := h3.ext hN
      try replace h4 := h4.ext hN
      try replace h5 := h5.ext hN
      try replace hl := hl.ext hN
      try replace hk := hk.ext hN
      try replace hj := hj.ext hN
      try replace hbk := heap_ext hbk hN
      replace hx := hx.trans hN
      clear hN
      go_wp2_with fail
      refine (do_u a b U pa pb _ _ _ _ EU.out OA.out OB.out ha hb hbk).mono ?_
      rintro e wN ⟨p3, _, rfl, h3, hN⟩
      try replace ha := ha.ext hN
      try replace hb := hb.ext hN
      try replace hc := hc.ext hN
      try replace hD := hD.ext hN
      try replace h1 := h1.ext hN
      try replace h2 := h2.ext hN
      try replace h3 := h3.ext hN
      try replace h4 := h4.ext hN
      try replace h5 := h5.ext hN
      try replace hl := hl.ext hN
      try replace hk := hk.ext hN
      try replace hj := hj.ext hN
      try replace hbk := heap_ext hbk hN
      replace hx := hx.trans hN
      clear hN
      go_wp2_with fail
      refine (do_u a c S pa pc _ _ _ _ ES.out OA.out OC.out ha hc hbk).mono ?_
      rintro e wN ⟨p4, _, rfl, h4, hN⟩
      try replace ha := ha.ext hN
      try replace hb := hb.ext hN
      try replace hc := hc.ext hN
      try replace hD := hD.ext hN
      try replace h1 := h1.ext hN
      try replace h2 := h2.ext hN
      try replace h3 := h3.ext hN
      try replace h4 := h4.ext hN
      try replace h5 := h5.ext hN
      try replace hl := hl.ext hN
      try replace hk := hk.ext hN
      try replace hj := hj.ext hN
      try replace hbk := heap_ext hbk hN
      replace hx := hx.trans hN
      clear hN
      go_wp2_with fail
      refine (do_m U S R p3 p4 _ _ _ _ ER2.out OU.out OS.out h3 h4 hbk).mono ?_
      rintro e wN ⟨p5, _, rfl, h5, hN⟩
      try replace ha := ha.ext hN
      try replace hb := hb.ext hN
      try replace hc := hc.ext hN
      try replace hD := hD.ext hN
      try replace h1 := h1.ext hN
      try replace h2 := h2.ext hN
      try replace h3 := h3.ext hN
      try replace h4 := h4.ext hN
      try replace h5 := h5.ext hN
      try replace hl := hl.ext hN
      try replace hk := hk.ext hN
      try replace hj := hj.ext hN
      try replace hbk := heap_ext hbk hN
      replace hx := hx.trans hN
      clear hN
      go_wp2_with fail
      refine (same_r R R _ _ _ _ _ true ((sameB_iff _ _).2 rfl) h2 h5 LR).mono ?_
      rintro e wN ⟨rfl, hN⟩
      try replace ha := ha.ext hN
      try replace hb := hb.ext hN
      try replace hc := hc.ext hN
      try replace hD := hD.ext hN
      try replace h1 := h1.ext hN
      try replace h2 := h2.ext hN
      try replace h3 := h3.ext hN
      try replace h4 := h4.ext hN
      try replace h5 := h5.ext hN
      try replace hl := hl.ext hN
      try replace hk := hk.ext hN
      try replace hj := hj.ext hN
      try replace hbk := heap_ext hbk hN
      replace hx := hx.trans hN
      clear hN
      clear h2 h5
      clear h1 h3 h4
      go_wp2_with fail
      refine (do_d a b D pa pb _ _ _ _ ED.out OA.out OB.out ha hb hbk).mono ?_
      rintro e wN ⟨p1, _, rfl, h1, hN⟩
      try replace ha := ha.ext hN
      try replace hb := hb.ext hN
      try replace hc := hc.ext hN
      try replace hD := hD.ext hN
      try replace h1 := h1.ext hN
      try replace h2 := h2.ext hN
      try replace h3 := h3.ext hN
      try replace h4 := h4.ext hN
      try replace h5 := h5.ext hN
      try replace hl := hl.ext hN
      try replace hk := hk.ext hN
      try replace hj := hj.ext hN
      try replace hbk := heap_ext hbk hN
      replace hx := hx.trans hN
      clear hN
      go_wp2_with fail
      refine (do_m a b M pa pb _ _ _ _ EM.out OA.out OB.out ha hb hbk).mono ?_
      rintro e wN ⟨p2, _, rfl, h2, hN⟩
      try replace ha := ha.ext hN
      try replace hb := hb.ext hN
      try replace hc := hc.ext hN
      try replace hD := hD.ext hN
      try replace h1 := h1.ext hN
      try replace h2 := h2.ext hN
      try replace h3 := h3.ext hN
      try replace h4 := h4.ext hN
      try replace h5 := h5.ext hN
      try replace hl := hl.ext hN
      try replace hk := hk.ext hN
      try replace hj := hj.ext hN
      try replace hbk := heap_ext hbk hN
      replace hx := hx.trans hN
      clear hN
      go_wp2_with fail
      refine (do_d a M D pa p2 _ _ _ _ ED2.out OA.out OM.out ha h2 hbk).mono ?_
      rintro e wN ⟨p3, _, rfl, h3, hN⟩
      try replace ha := ha.ext hN
      try replace hb := hb.ext hN
      try replace hc := hc.ext hN
      try replace hD := hD.ext hN
      try replace h1 := h1.ext hN
      try replace h2 := h2.ext hN
      try replace h3 := h3.ext hN
      try replace h4 := h4.ext hN
      try replace h5 := h5.ext hN
      try replace hl := hl.ext hN
      try replace hk := hk.ext hN
      try replace hj := hj.ext hN
      try replace hbk := heap_ext hbk hN
      replace hx := hx.trans hN
      clear hN
      go_wp2_with fail
      refine (same_r D D _ _ _ _ _ true ((sameB_iff _ _).2 rfl) h1 h3 LD).mono ?_
      rintro e wN ⟨rfl, hN⟩
      try replace ha := ha.ext hN
      try replace hb := hb.ext hN
      try replace hc := hc.ext hN
      try replace hD := hD.ext hN
      try replace h1 := h1.ext hN
      try replace h2 := h2.ext hN
      try replace h3 := h3.ext hN
      try replace h4 := h4.ext hN
      try replace h5 := h5.ext hN
      try replace hl := hl.ext hN
      try replace hk := hk.ext hN
      try replace hj := hj.ext hN
      try replace hbk := heap_ext hbk hN
      replace hx := hx.trans hN
      clear hN
      clear h1 h3
      clear h2
      go_wp2_with fail
      refine (do_u a b U pa pb _ _ _ _ EU.out OA.out OB.out ha hb hbk).mono ?_
      rintro e wN ⟨p1, _, rfl, h1, hN⟩
      try replace ha := ha.ext hN
      try replace hb := hb.ext hN
      try replace hc := hc.ext hN
      try replace hD := hD.ext hN
      try replace h1 := h1.ext hN
      try replace h2 := h2.ext hN
      try replace h3 := h3.ext hN
      try replace h4 := h4.ext hN
      try replace h5 := h5.ext hN
      try replace hl := hl.ext hN
      try replace hk := hk.ext hN
      try replace hj := hj.ext hN
      try replace hbk := heap_ext hbk hN
      replace hx := hx.trans hN
      clear hN
      go_wp2_with fail
      refine (same_r U U _ _ _ _ _ true ((sameB_iff _ _).2 rfl) hD h1 LU).mono ?_
      rintro e wN ⟨rfl, hN⟩
      try replace ha := ha.ext hN
      try replace hb := hb.ext hN
      try replace hc := hc.ext hN
      try replace hD := hD.ext hN
      try replace h1 := h1.ext hN
      try replace h2 := h2.ext hN
      try replace h3 := h3.ext hN
      try replace h4 := h4.ext hN
      try replace h5 := h5.ext hN
      try replace hl := hl.ext hN
      try replace hk := hk.ext hN
      try replace hj := hj.ext hN
      try replace hbk := heap_ext hbk hN
      replace hx := hx.trans hN
      clear hN
      clear hD h1
      have k0 := cell_of (j := 0) hbk
      simp only [List.getElem?_toArray, List.getElem?_cons_zero] at k0
      have kl := lt_of hbk
      go_wp2_with fail
      go_ret
      exact ⟨rfl, hx⟩
end Go.Proofs.Ytbjhehmglahmpaa
