import Derived.Test.YtbjhehmglahmpaaDepB
/- depend's Clause and Row, walked. -/
namespace Go.Proofs.Ytbjhehmglahmpaa
open Go.RowKit

abbrev Pr := ByteArray × Int
def encP (x : Pr) : List Value := [.string x.1, .int .i64 x.2]
theorem encP_len (x : Pr) : (encP x).length = 2 := rfl
theorem Sl.at2P {w : World} {p : Option Addr} {l : List Pr} (h : Sl 2 encP w p l) (k : Nat) (hk : k < l.length) :
    ∃ b off, p = some ⟨b, off, none⟩ ∧ b < w.heap.size ∧ w.cell? ⟨b, off + k * 2, none⟩ = some (.string l[k].1) ∧ w.cell? ⟨b, off + k * 2 + 1, none⟩ = some (.int .i64 l[k].2) := by
  obtain ⟨b, off, e, hb, hc⟩ := h k hk
  exact ⟨b, off, e, hb, hc 0 _ rfl, hc 1 _ rfl⟩
def hitP (nm : ByteArray) (f t : Int) (x : Pr) : Bool := ((x.1.toList == nm.toList) && decide (f ≤ x.2)) && decide (x.2 < t)
set_option maxHeartbeats 800000 in
theorem clause1_any (x : Pr) (key : ByteArray) (f t : Int) (B : Nat) (w : World) (h0 : w.cell? ⟨B, 0, none⟩ = some (.string key)) (h1 : w.cell? ⟨B, 2, none⟩ = some (.int .i64 f)) (h2 : w.cell? ⟨B, 3, none⟩ = some (.int .i64 t)) (hB : B < w.heap.size) :
    Calls Try.prog 54 #[.agg #[.string x.1, .int .i64 x.2], .pointer (some ⟨B, 0, none⟩)] w fun e w' => e = .returned (.bool (hitP key f t x)) ∧ Ext w w' := by
  have hne : B ≠ w.heap.size := by omega
  obtain ⟨s, a⟩ := x
  dsimp only
  obtain ⟨y, hy⟩ : ∃ y, (s.toList == key.toList) = y := ⟨_, rfl⟩
  cases y
  case false =>
    go_enter Try.func54, Try.ntmps54
    go_wp2
    go_ret
    exact ⟨ret_bool (by simp [hitP, hy]), (Ext.refl w).alloc _⟩
  by_cases hf : f ≤ a
  all_goals
    go_enter Try.func54, Try.ntmps54
    go_wp2
    go_ret
    exact ⟨ret_bool (by simp [hitP, hy, hf]; try (intros; omega)), (Ext.refl w).alloc _⟩
set_option maxHeartbeats 800000 in
theorem idxP_any (l : List Pr) (p : Option Addr) (c : Nat) (key : ByteArray) (f t : Int) (B : Nat) (w : World) (hl : Sl 2 encP w p l) (hm : l.length ≤ 9223372036854775807) (h0 : w.cell? ⟨B, 0, none⟩ = some (.string key)) (h1 : w.cell? ⟨B, 2, none⟩ = some (.int .i64 f)) (h2 : w.cell? ⟨B, 3, none⟩ = some (.int .i64 t)) (hB : B < w.heap.size) :
    Calls Try.prog 85 #[.slice p l.length c, .func (.func 54) #[] #[.pointer (some ⟨B, 0, none⟩)]] w fun e w' => ∃ i : Int, e = .returned (.int .i64 i) ∧ decide (0 ≤ i) = l.any (hitP key f t) ∧ Ext w w' := by
  go_enter Try.func85, Try.ntmps85
  go_wp2_with fail
  go_loopw [8] (fun i wr => ∃ (k : Nat), k ≤ l.length ∧ i = .int .i64 k ∧ Hid (l.any (hitP key f t) = (l.drop k).any (hitP key f t)) ∧ Ext w wr) (fun i _ => l.length - (intOf i).toNat)
  case atStart => exact ⟨0, by omega, rfl, rfl, Ext.refl _⟩
  case round =>
    obtain ⟨k, hk, rfl, hA, hx⟩ := hrel
    by_cases hlt : k < l.length
    · have hde : decide ((k : Int) < (l.length : Int)) = true := by simpa using hlt
      have hlt2 : (k : Int) < (l.length : Int) := by omega
      obtain ⟨b, off, rfl, hbl, c0, c1⟩ := (hl.ext hx).at2P k hlt
      have HD : Hid (l.drop k = l[k] :: l.drop (k + 1)) := List.drop_eq_getElem_cons hlt
      obtain ⟨x, hxe⟩ : ∃ x, x = l[k] := ⟨_, rfl⟩
      rw [← hxe] at c0 c1 HD
      clear hxe
      obtain ⟨y, hy⟩ : ∃ y, hitP key f t x = y := ⟨_, rfl⟩
      have HY := Lib.hid hy
      clear hy
      go_wp2_with fail
      refine (clause1_any x key f t B _ ((hx.cells.1 B 0 hB).trans h0) ((hx.cells.1 B 2 hB).trans h1) ((hx.cells.1 B 3 hB).trans h2) (Nat.lt_of_lt_of_le hB hx.size)).mono ?_
      rintro e wN ⟨he, hN⟩
      rw [HY.out] at he
      subst he
      cases y with
      | true =>
        go_wp2_with fail
        go_ret
        exact ⟨k, rfl, by rw [hA.out, HD.out, List.any_cons, HY.out]; simp, hx.trans hN⟩
      | false =>
        go_wp2_with fail
        go_roundw
        case rel => exact ⟨k + 1, by omega, by go_num, (by unfold Hid; rw [hA.out, HD.out, List.any_cons, HY.out]; rfl), hx.trans hN⟩
        case measure => simp [intOf]; omega
    · have hde : decide ((k : Int) < (l.length : Int)) = false := by simpa using hlt
      go_wp2_with fail
      go_ret
      exact ⟨-1, rfl, by rw [hA.out, drop_end hlt]; rfl, hx⟩
set_option maxHeartbeats 800000 in
theorem conP_any (l : List Pr) (p : Option Addr) (c : Nat) (key : ByteArray) (f t : Int) (B : Nat) (w : World) (hl : Sl 2 encP w p l) (hm : l.length ≤ 9223372036854775807) (h0 : w.cell? ⟨B, 0, none⟩ = some (.string key)) (h1 : w.cell? ⟨B, 2, none⟩ = some (.int .i64 f)) (h2 : w.cell? ⟨B, 3, none⟩ = some (.int .i64 t)) (hB : B < w.heap.size) :
    Calls Try.prog 53 #[.slice p l.length c, .func (.func 54) #[] #[.pointer (some ⟨B, 0, none⟩)]] w fun e w' => e = .returned (.bool (l.any (hitP key f t))) ∧ Ext w w' := by
  go_enter Try.func53, Try.ntmps53
  go_wp2_with fail
  refine (idxP_any l p c key f t B w hl hm h0 h1 h2 hB).mono ?_
  rintro e wN ⟨i, rfl, hi, hx⟩
  have HI := Lib.hid hi
  clear hi
  go_wp2_with fail
  go_ret
  exact ⟨ret_bool HI.out, hx⟩
set_option maxHeartbeats 800000 in
theorem clause_any (ps : List Pr) (pp pf pt : Option Addr) (nf nt cp cf ct : Nat) (nm : ByteArray) (f t kn known : Int) (y1 y5 y6 y7 y8 y9 y10 y11 y12 y13 y14 y15 y16 y17 y18 y19 y20 y21 y22 y23 : Value) (w : World) (hl : Sl 2 encP w pp ps) (hm : ps.length ≤ 9223372036854775807) :
    Calls Try.prog 19 #[.agg #[.slice pp ps.length cp, .slice pf nf cf, .slice pt nt ct], .agg #[.string nm, y1, .int .i64 f, .int .i64 t, .int .i64 kn, y5, y6, y7, y8, y9, y10, y11, y12, y13, y14, y15, y16, y17, y18, y19, y20, y21, y22, y23], .int .i64 known] w fun e w' => e = .returned (.bool (decide (kn ≤ known) && ps.any (hitP nm f t))) ∧ Ext w w' := by
  by_cases hk : kn ≤ known
  · have hde : decide (kn ≤ known) = true := by simpa using hk
    go_enter Try.func19, Try.ntmps19
    go_wp2_with fail
    refine (conP_any ps pp cp nm f t (w.heap.size + 1) _ (hl.ext (((Ext.refl w).alloc _).alloc _)) hm (by go_simp) (by go_simp) (by go_simp) (by simp)).mono ?_
    rintro e wN ⟨rfl, hx⟩
    go_wp2_with fail
    go_ret
    exact ⟨ret_bool (by first | rfl | (rw [hde]; rfl) | simp [hk]), (((Ext.refl w).alloc _).alloc _).trans hx⟩
  · have hde : decide (kn ≤ known) = false := by simpa using hk
    go_enter Try.func19, Try.ntmps19
    go_wp2
    go_ret
    exact ⟨ret_bool (by first | rfl | (rw [hde]; rfl)), ((Ext.refl w).alloc _).alloc _⟩
def hasB (v : ByteArray) (l : List ByteArray) : Bool := l.any fun x => v.toList == x.toList
set_option maxHeartbeats 800000 in
theorem idxS_any (l : List ByteArray) (p : Option Addr) (c : Nat) (v : ByteArray) (w : World) (hl : Sl 1 encS w p l) (hm : l.length ≤ 9223372036854775807) :
    Calls Try.prog 86 #[.slice p l.length c, .string v] w fun e w' => ∃ i : Int, e = .returned (.int .i64 i) ∧ decide (0 ≤ i) = hasB v l ∧ w = w' := by
  go_enter Try.func86, Try.ntmps86
  go_wp2_with fail
  go_loop [8] (fun i => ∃ (k : Nat), k ≤ l.length ∧ i = .int .i64 k ∧ Hid (hasB v l = hasB v (l.drop k))) (fun i => l.length - (intOf i).toNat)
  case atStart => exact ⟨0, by omega, rfl, rfl⟩
  case round =>
    obtain ⟨k, hk, rfl, hA⟩ := hrel
    by_cases hlt : k < l.length
    · have hde : decide ((k : Int) < (l.length : Int)) = true := by simpa using hlt
      have hlt2 : (k : Int) < (l.length : Int) := by omega
      obtain ⟨b, off, rfl, hbl, c0⟩ := hl.at1S k hlt
      have HD : Hid (l.drop k = l[k] :: l.drop (k + 1)) := List.drop_eq_getElem_cons hlt
      obtain ⟨x, hxe⟩ : ∃ x, x = l[k] := ⟨_, rfl⟩
      rw [← hxe] at c0 HD
      clear hxe
      obtain ⟨y, hy⟩ : ∃ y, (v.toList == x.toList) = y := ⟨_, rfl⟩
      have HY := Lib.hid hy
      cases y with
      | true =>
        go_wp2_with fail
        go_ret
        exact ⟨k, rfl, by rw [hA.out, HD.out, hasB, List.any_cons, HY.out]; simp, rfl⟩
      | false =>
        go_wp2_with fail
        go_round
        case rel => exact ⟨k + 1, by omega, by go_num, (by unfold Hid; rw [hA.out, HD.out, hasB, List.any_cons, HY.out]; rfl)⟩
        case measure => simp [intOf]; omega
    · have hde : decide ((k : Int) < (l.length : Int)) = false := by simpa using hlt
      go_wp2_with fail
      go_ret
      exact ⟨-1, rfl, by rw [hA.out, drop_end hlt]; rfl, rfl⟩
set_option maxHeartbeats 800000 in
theorem conS_any (l : List ByteArray) (p : Option Addr) (c : Nat) (v : ByteArray) (w : World) (hl : Sl 1 encS w p l) (hm : l.length ≤ 9223372036854775807) :
    Calls Try.prog 55 #[.slice p l.length c, .string v] w fun e w' => e = .returned (.bool (hasB v l)) ∧ w = w' := by
  go_enter Try.func55, Try.ntmps55
  go_wp2_with fail
  refine (idxS_any l p c v w hl hm).mono ?_
  rintro e wN ⟨i, rfl, hi, rfl⟩
  have HI := Lib.hid hi
  clear hi
  go_wp2_with fail
  go_ret
  exact ⟨ret_bool HI.out, rfl⟩
set_option maxHeartbeats 800000 in
theorem row_any (ts : List ByteArray) (pp pf pt : Option Addr) (np nf cp cf ct : Nat) (nm : ByteArray) (kn known : Int) (z0 z1 z3 z4 z5 z6 : Value) (w : World) (hl : Sl 1 encS w pt ts) (hm : ts.length ≤ 9223372036854775807) :
    Calls Try.prog 20 #[.agg #[.slice pp np cp, .slice pf nf cf, .slice pt ts.length ct], .string nm, .agg #[z0, z1, .int .i64 kn, z3, z4, z5, z6], .int .i64 known] w fun e w' => e = .returned (.bool (decide (kn ≤ known) && hasB nm ts)) ∧ Ext w w' := by
  by_cases hk : kn ≤ known
  · have hde : decide (kn ≤ known) = true := by simpa using hk
    go_enter Try.func20, Try.ntmps20
    go_wp2_with fail
    refine (conS_any ts pt ct nm _ (hl.ext (((Ext.refl w).alloc _).alloc _)) hm).mono ?_
    rintro e wN ⟨rfl, rfl⟩
    go_wp2_with fail
    go_ret
    exact ⟨ret_bool (by first | rfl | (rw [hde]; rfl) | simp [hk]), ((Ext.refl w).alloc _).alloc _⟩
  · have hde : decide (kn ≤ known) = false := by simpa using hk
    go_enter Try.func20, Try.ntmps20
    go_wp2
    go_ret
    exact ⟨ret_bool (by first | rfl | (rw [hde]; rfl)), ((Ext.refl w).alloc _).alloc _⟩
set_option maxHeartbeats 800000 in
theorem spans25_any (a : List Sp) (p q : Option Addr) (c d : Nat) (w : World) (ha : Sl 2 enc2 w p a) (hb : Sl 2 enc2 w q a) (hm : a.length ≤ 9223372036854775807) :
    Calls Try.prog 44 #[.slice p a.length c, .slice q a.length d] w fun e w' => e = .returned (.bool true) ∧ Ext w w' := by
  have hn := neSp
  have hg := egSp
  go_enter Try.func44, Try.ntmps44
  go_wp2
  go_loopw [13] (fun i wr => ∃ (k : Nat), k ≤ a.length ∧ i = .int .i64 k ∧ Ext w wr) (fun i _ => a.length - (intOf i).toNat)
  case atStart => exact ⟨0, Nat.zero_le _, rfl, Ext.refl _⟩
  case round =>
    obtain ⟨k, hk, rfl, hx⟩ := hrel
    by_cases hlt : k < a.length
    · obtain ⟨b1, o1, rfl, hb1, h10, h11⟩ := (ha.ext hx).cells2 k hlt
      obtain ⟨b2, o2, rfl, hb2, h20, h21⟩ := (hb.ext hx).cells2 k hlt
      have hlt1 : (k : Int) < (a.length : Int) := by omega
      generalize a[k] = s at h10 h11 h20 h21
      go_wp2
      go_quiet (fail)
      go_wp2
      go_roundw
      case rel => exact ⟨k + 1, by omega, by go_num, hx.drewN _⟩
      case measure => simp [intOf]; omega
    · go_wp2
      go_ret
      exact ⟨rfl, hx⟩
end Go.Proofs.Ytbjhehmglahmpaa
