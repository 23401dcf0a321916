import Derived.Test.YtalconpcpegmlaaDoorLegB
/- annuitantlaw40.Built, walked: it makes filings that are formed. -/
namespace Go.Proofs.YtalconpcpegmlaaDoor
open Go.RowKit

structure Nt where
  kind : Int
  gap : Int
  cs : Int
  n : Int
  hold : Bool
def encN (x : Nt) : List Value := [.int .u8 x.kind, .int .u8 x.gap, .int .u8 x.cs, .int .u8 x.n, .bool x.hold]
theorem Sl.atN {w : World} {p : Option Addr} {l : List Nt} (h : Sl 5 encN w p l) (k : Nat) (hk : k < l.length) :
    ∃ b off x, p = some ⟨b, off, none⟩ ∧ b < w.heap.size ∧ w.cell? ⟨b, off + k * 5, none⟩ = some (.int .u8 x.kind) ∧ w.cell? ⟨b, off + k * 5 + 1, none⟩ = some (.int .u8 x.gap) ∧ w.cell? ⟨b, off + k * 5 + 2, none⟩ = some (.int .u8 x.cs) ∧
      w.cell? ⟨b, off + k * 5 + 3, none⟩ = some (.int .u8 x.n) ∧ w.cell? ⟨b, off + k * 5 + 4, none⟩ = some (.bool x.hold) ∧ Hid (l[k] = x) := by
  obtain ⟨b, off, e, hb, hc⟩ := h k hk
  exact ⟨b, off, l[k], e, hb, hc 0 _ rfl, hc 1 _ rfl, hc 2 _ rfl, hc 3 _ rfl, hc 4 _ rfl, rfl⟩
/-- Some filings, all formed. -/
def RdBt (w w' : World) (e : Ending) : Prop := ∃ p cap fs, e = .returned (.slice p fs.length cap) ∧ Owns w.heap.size 30 6 encF w' (.slice p fs.length cap) fs ∧ fs.length ≤ 30 ∧ (∀ f ∈ fs, formedB f = true) ∧ Ext w w'
def BtU (l : List Nt) : Prop := ∀ x ∈ l, (0 ≤ x.kind ∧ x.kind ≤ 255) ∧ (0 ≤ x.gap ∧ x.gap ≤ 255) ∧ (0 ≤ x.cs ∧ x.cs ≤ 255) ∧ (0 ≤ x.n ∧ x.n ≤ 255)
theorem fm1 {d n u : Int} (h : 0 ≤ d ∧ d < 60000) (hn : 2 ≤ n ∧ n ≤ 9) (hu : d ≤ u ∧ u < 65536) : formedB ⟨1, d, 0, n, u, false⟩ = true := by simp [formedB, rowP]; omega
theorem fm2 {d c n : Int} (h : 0 ≤ d ∧ d < 60000) (hc : 1 ≤ c) (hn : 1 ≤ n ∧ n ≤ 9) : formedB ⟨2, d, c, n, 0, false⟩ = true := by simp [formedB, rowP]; omega
theorem fm3 {d c n : Int} (h : 0 ≤ d ∧ d < 60000) (hc : 1 ≤ c) (hn : 0 ≤ n ∧ n ≤ 0) : formedB ⟨3, d, c, n, 0, false⟩ = true := by simp [formedB, rowP]; omega
theorem fm4 {d n : Int} (h : 0 ≤ d ∧ d < 60000) (hn : 1 ≤ n ∧ n ≤ 400) : formedB ⟨4, d, 0, n, 0, false⟩ = true := by simp [formedB, rowP]; omega
theorem fm5 {d c n : Int} {b : Bool} (h : 0 ≤ d ∧ d < 60000) (hc : 1 ≤ c) (hn : 0 ≤ n ∧ n ≤ 0) : formedB ⟨5, d, c, n, 0, b⟩ = true := by simp [formedB, rowP]; omega
theorem fm6 {d c n : Int} (h : 0 ≤ d ∧ d < 60000) (hc : 1 ≤ c) (hn : 1 ≤ n ∧ n ≤ 2) : formedB ⟨6, d, c, n, 0, false⟩ = true := by simp [formedB, rowP]; omega
theorem fm7 {d c n : Int} (h : 0 ≤ d ∧ d < 60000) (hc : 1 ≤ c) (hn : 0 ≤ n ∧ n ≤ 0) : formedB ⟨7, d, c, n, 0, false⟩ = true := by simp [formedB, rowP]; omega
/-- One filing more. -/
theorem bt_more {out : List Fl} {f : Fl} (h : ∀ g ∈ out, formedB g = true) (hf : formedB f = true) : ∀ g ∈ out ++ [f], formedB g = true := fun g hg => by
  rcases List.mem_append.1 hg with hg | hg
  · exact h g hg
  · rw [List.mem_singleton] at hg; subst hg; exact hf
set_option maxHeartbeats 3200000 in
set_option maxRecDepth 100000 in
theorem built_c (l : List Nt) (p : Option Addr) (c : Nat) (w : World) (hl : Sl 5 encN w p l) (_hm : l.length ≤ 9223372036854775807) (hu : BtU l) :
    Calls Tryd.prog 13 #[.slice p l.length c] w fun e w' => RdBt w w' e := by
  have HU := Lib.hid hu
  clear hu
  go_enter Tryd.func13, Tryd.ntmps13
  go_wp2
  go_loopw [3, 4, 5] (fun v d i wr => ∃ (k : Nat) (day : Int) (out : List Fl), k ≤ 30 ∧ i = .int .i64 k ∧ d = .int .i64 day ∧ 0 ≤ day ∧ day ≤ 347 * (k : Int) ∧ Owns w.heap.size 30 6 encF wr v out ∧ Hid (out.length = k) ∧ Hid (∀ f ∈ out, formedB f = true) ∧ Ext w wr) (fun _ _ i _ => 30 - (intOf i).toNat)
  case atStart => exact ⟨0, 0, [], by omega, rfl, rfl, by omega, by omega, Owns.nil, rfl, (fun f h => by cases h), Ext.refl _⟩
  case round =>
    obtain ⟨k, day, out, hk, rfl, rfl, hd0, hd1, hown, HOL, HF, hx⟩ := hrel
    by_cases hlt : k < l.length
    · by_cases h30 : k < 30
      · have h1 : (k : Int) < (l.length : Int) := by omega
        have h2 : (k : Int) < 30 := by omega
        obtain ⟨b, off, x, rfl, hbl, c0, c1, c2, c3, c4, HX⟩ := (hl.ext hx).atN k hlt
        obtain ⟨⟨u0, u1⟩, ⟨u2, u3⟩, ⟨u4, u5⟩, u6, u7⟩ := HU.out x (by rw [← HX.out]; exact List.getElem_mem hlt)
        have HOW := Lib.hid hown
        have HX1 := Lib.hid hx
        go_upto_if 30 with fail
        go_cut [4] (fun s4 wx => ∃ d, s4 = .int .i64 d ∧ (240 ≤ x.gap ∧ d = day + x.gap % 48 + 300 ∨ x.gap < 240 ∧ d = day + x.gap % 48) ∧ wx = wr.alloc (.cells #[.int .u8 x.kind, .int .u8 x.gap, .int .u8 x.cs, .int .u8 x.n, .bool x.hold] 62))
        case first =>
          by_cases g240 : 240 ≤ x.gap
          · go_wp2_with fail
            go_meet
            exact ⟨_, rfl, .inl ⟨g240, rfl⟩, rfl⟩
          · go_wp2_with fail
            go_meet
            exact ⟨_, rfl, .inr ⟨by omega, rfl⟩, rfl⟩
        case rest =>
          obtain ⟨d, rfl, HD, rfl⟩ := hcut
          have hdd : 0 ≤ d ∧ d ≤ day + 347 := by omega
          have HD2 := Lib.hid HD
          clear HD
          go_upto_region 10 with fail
          go_cut [39] (fun s39 wx => ∃ q, s39 = .bool q ∧ Hid (q = true → 0 < d) ∧ wx = wr.alloc (.cells #[.int .u8 x.kind, .int .u8 x.gap, .int .u8 x.cs, .int .u8 x.n, .bool x.hold] 62))
          case first =>
            by_cases g239 : x.gap = 239
            · have hp : 0 < d := by have := HD2.out; omega
              have q239 : (x.gap == 239) = true := by simp [g239]
              have HG := Lib.hid g239
              clear g239
              go_wp2_with fail
              go_meet
              exact ⟨_, rfl, fun _ => hp, rfl⟩
            · have q239 : (x.gap == 239) = false := by simp [g239]
              have HG := Lib.hid g239
              clear g239
              go_wp2_with fail
              go_meet
              exact ⟨_, rfl, fun h => (by cases h), rfl⟩
          case rest =>
          obtain ⟨q, rfl, HQ, rfl⟩ := hcut
          go_upto_if 39 with fail
          go_cut [4] (fun s4 wx => ∃ d2, s4 = .int .i64 d2 ∧ 0 ≤ d2 ∧ d2 ≤ day + 347 ∧ wx = wr.alloc (.cells #[.int .u8 x.kind, .int .u8 x.gap, .int .u8 x.cs, .int .u8 x.n, .bool x.hold] 62))
          case first =>
            cases q with
            | true =>
              have hp := HQ.out rfl
              go_wp2_with fail
              go_meet
              exact ⟨_, rfl, by omega, by omega, rfl⟩
            | false =>
              go_wp2_with fail
              go_meet
              exact ⟨_, rfl, by omega, by omega, rfl⟩
          case rest =>
            obtain ⟨D, rfl, hD0, hD1, rfl⟩ := hcut
            clear hdd HD2 hd0
            have HDB : Hid (0 ≤ D ∧ D < 60000) := by unfold Hid; omega
            rcases (by omega : x.kind % 7 = 0 ∨ x.kind % 7 = 1 ∨ x.kind % 7 = 2 ∨ x.kind % 7 = 3 ∨ x.kind % 7 = 4 ∨ x.kind % 7 = 5 ∨ x.kind % 7 = 6) with h0 | h1' | h2' | h3 | h4 | h5 | h6
            · have hr : x.kind % 7 = 0 := h0
              go_upto_region 15 with fail
              go_region
              go_upto_region 24 with fail
              have hF : (((wr.alloc (.cells #[.int .u8 x.kind, .int .u8 x.gap, .int .u8 x.cs, .int .u8 x.n, .bool x.hold] 62)).alloc (.cells #[.int .u8 1, .int .i64 D, .int .i64 0, .int .i64 (2 + x.n % 8), .int .i64 (D + x.n), .bool false] 30)).drew).heap[wr.heap.size + 1]? = some (.cells #[.int .u8 1, .int .i64 D, .int .i64 0, .int .i64 (2 + x.n % 8), .int .i64 (D + x.n), .bool false] 30 (0, 0)) := heap_new1 _ _ _
              have hE : Ext wr (((wr.alloc (.cells #[.int .u8 x.kind, .int .u8 x.gap, .int .u8 x.cs, .int .u8 x.n, .bool x.hold] 62)).alloc (.cells #[.int .u8 1, .int .i64 D, .int .i64 0, .int .i64 (2 + x.n % 8), .int .i64 (D + x.n), .bool false] 30)).drew) := (((Ext.refl wr).alloc _).alloc _).drew
              generalize ((wr.alloc (.cells #[.int .u8 x.kind, .int .u8 x.gap, .int .u8 x.cs, .int .u8 x.n, .bool x.hold] 62)).alloc (.cells #[.int .u8 1, .int .i64 D, .int .i64 0, .int .i64 (2 + x.n % 8), .int .i64 (D + x.n), .bool false] 30)).drew = W at hF hE ⊢
              generalize wr.heap.size + 1 = BF at hF ⊢
              obtain ⟨f0, f1, f2, f3, f4, f5⟩ := cells6 hF
              have hFl := lt_of hF
              go_wp2_with (at_builtin; refine wpList_append_one (w0 := w) rfl _ _ 22 30 48 _ encF_len encF_one (by decide) rfl Tryd.underlying22 infoF rfl out ⟨1, D, 0, 2 + x.n % 8, D + x.n, false⟩ (Owns.ext HOW.out hE) (HX1.out.trans hE) _ 1 rfl rfl (by first | rfl | simp) (by have := HOL.out; omega) (by have := HOL.out; omega) ?_; intro v3 w3 hown3 hb3 hg3)
              go_roundw
              case rel => exact ⟨k + 1, D, out ++ [⟨1, D, 0, 2 + x.n % 8, D + x.n, false⟩], by omega, by go_num, rfl, by omega, by omega, hown3, by (unfold Hid; rw [List.length_append, HOL.out]; rfl), bt_more HF.out (fm1 HDB.out (by omega) (by have := HDB.out; omega)), hb3⟩
              case measure => simp [intOf]; omega
            · have hr : x.kind % 7 = 1 := h1'
              go_upto_region 24 with fail
              have hF : (((wr.alloc (.cells #[.int .u8 x.kind, .int .u8 x.gap, .int .u8 x.cs, .int .u8 x.n, .bool x.hold] 62)).alloc (.cells #[.int .u8 2, .int .i64 D, .int .i64 (1 + x.cs % 4), .int .i64 (1 + x.n % 9), .int .i64 0, .bool false] 30))).heap[wr.heap.size + 1]? = some (.cells #[.int .u8 2, .int .i64 D, .int .i64 (1 + x.cs % 4), .int .i64 (1 + x.n % 9), .int .i64 0, .bool false] 30 (0, 0)) := heap_new1 _ _ _
              have hE : Ext wr (((wr.alloc (.cells #[.int .u8 x.kind, .int .u8 x.gap, .int .u8 x.cs, .int .u8 x.n, .bool x.hold] 62)).alloc (.cells #[.int .u8 2, .int .i64 D, .int .i64 (1 + x.cs % 4), .int .i64 (1 + x.n % 9), .int .i64 0, .bool false] 30))) := (((Ext.refl wr).alloc _).alloc _)
              generalize ((wr.alloc (.cells #[.int .u8 x.kind, .int .u8 x.gap, .int .u8 x.cs, .int .u8 x.n, .bool x.hold] 62)).alloc (.cells #[.int .u8 2, .int .i64 D, .int .i64 (1 + x.cs % 4), .int .i64 (1 + x.n % 9), .int .i64 0, .bool false] 30)) = W at hF hE ⊢
              generalize wr.heap.size + 1 = BF at hF ⊢
              obtain ⟨f0, f1, f2, f3, f4, f5⟩ := cells6 hF
              have hFl := lt_of hF
              go_wp2_with (at_builtin; refine wpList_append_one (w0 := w) rfl _ _ 22 30 48 _ encF_len encF_one (by decide) rfl Tryd.underlying22 infoF rfl out ⟨2, D, 1 + x.cs % 4, 1 + x.n % 9, 0, false⟩ (Owns.ext HOW.out hE) (HX1.out.trans hE) _ 1 rfl rfl (by first | rfl | simp) (by have := HOL.out; omega) (by have := HOL.out; omega) ?_; intro v3 w3 hown3 hb3 hg3)
              go_roundw
              case rel => exact ⟨k + 1, D, out ++ [⟨2, D, 1 + x.cs % 4, 1 + x.n % 9, 0, false⟩], by omega, by go_num, rfl, by omega, by omega, hown3, by (unfold Hid; rw [List.length_append, HOL.out]; rfl), bt_more HF.out (fm2 HDB.out (by omega) (by omega)), hb3⟩
              case measure => simp [intOf]; omega
            · have hr : x.kind % 7 = 2 := h2'
              go_upto_region 24 with fail
              have hF : (((wr.alloc (.cells #[.int .u8 x.kind, .int .u8 x.gap, .int .u8 x.cs, .int .u8 x.n, .bool x.hold] 62)).alloc (.cells #[.int .u8 3, .int .i64 D, .int .i64 (1 + x.cs % 4), .int .i64 0, .int .i64 0, .bool false] 30))).heap[wr.heap.size + 1]? = some (.cells #[.int .u8 3, .int .i64 D, .int .i64 (1 + x.cs % 4), .int .i64 0, .int .i64 0, .bool false] 30 (0, 0)) := heap_new1 _ _ _
              have hE : Ext wr (((wr.alloc (.cells #[.int .u8 x.kind, .int .u8 x.gap, .int .u8 x.cs, .int .u8 x.n, .bool x.hold] 62)).alloc (.cells #[.int .u8 3, .int .i64 D, .int .i64 (1 + x.cs % 4), .int .i64 0, .int .i64 0, .bool false] 30))) := (((Ext.refl wr).alloc _).alloc _)
              generalize ((wr.alloc (.cells #[.int .u8 x.kind, .int .u8 x.gap, .int .u8 x.cs, .int .u8 x.n, .bool x.hold] 62)).alloc (.cells #[.int .u8 3, .int .i64 D, .int .i64 (1 + x.cs % 4), .int .i64 0, .int .i64 0, .bool false] 30)) = W at hF hE ⊢
              generalize wr.heap.size + 1 = BF at hF ⊢
              obtain ⟨f0, f1, f2, f3, f4, f5⟩ := cells6 hF
              have hFl := lt_of hF
              go_wp2_with (at_builtin; refine wpList_append_one (w0 := w) rfl _ _ 22 30 48 _ encF_len encF_one (by decide) rfl Tryd.underlying22 infoF rfl out ⟨3, D, 1 + x.cs % 4, 0, 0, false⟩ (Owns.ext HOW.out hE) (HX1.out.trans hE) _ 1 rfl rfl (by first | rfl | simp) (by have := HOL.out; omega) (by have := HOL.out; omega) ?_; intro v3 w3 hown3 hb3 hg3)
              go_roundw
              case rel => exact ⟨k + 1, D, out ++ [⟨3, D, 1 + x.cs % 4, 0, 0, false⟩], by omega, by go_num, rfl, by omega, by omega, hown3, by (unfold Hid; rw [List.length_append, HOL.out]; rfl), bt_more HF.out (fm3 HDB.out (by omega) (by omega)), hb3⟩
              case measure => simp [intOf]; omega
            · have hr : x.kind % 7 = 3 := h3
              go_upto_region 17 with fail
              go_region
              go_upto_region 24 with fail
              have hF : (((wr.alloc (.cells #[.int .u8 x.kind, .int .u8 x.gap, .int .u8 x.cs, .int .u8 x.n, .bool x.hold] 62)).alloc (.cells #[.int .u8 4, .int .i64 D, .int .i64 0, .int .i64 (1 + x.n), .int .i64 0, .bool false] 30)).drew).heap[wr.heap.size + 1]? = some (.cells #[.int .u8 4, .int .i64 D, .int .i64 0, .int .i64 (1 + x.n), .int .i64 0, .bool false] 30 (0, 0)) := heap_new1 _ _ _
              have hE : Ext wr (((wr.alloc (.cells #[.int .u8 x.kind, .int .u8 x.gap, .int .u8 x.cs, .int .u8 x.n, .bool x.hold] 62)).alloc (.cells #[.int .u8 4, .int .i64 D, .int .i64 0, .int .i64 (1 + x.n), .int .i64 0, .bool false] 30)).drew) := (((Ext.refl wr).alloc _).alloc _).drew
              generalize ((wr.alloc (.cells #[.int .u8 x.kind, .int .u8 x.gap, .int .u8 x.cs, .int .u8 x.n, .bool x.hold] 62)).alloc (.cells #[.int .u8 4, .int .i64 D, .int .i64 0, .int .i64 (1 + x.n), .int .i64 0, .bool false] 30)).drew = W at hF hE ⊢
              generalize wr.heap.size + 1 = BF at hF ⊢
              obtain ⟨f0, f1, f2, f3, f4, f5⟩ := cells6 hF
              have hFl := lt_of hF
              go_wp2_with (at_builtin; refine wpList_append_one (w0 := w) rfl _ _ 22 30 48 _ encF_len encF_one (by decide) rfl Tryd.underlying22 infoF rfl out ⟨4, D, 0, 1 + x.n, 0, false⟩ (Owns.ext HOW.out hE) (HX1.out.trans hE) _ 1 rfl rfl (by first | rfl | simp) (by have := HOL.out; omega) (by have := HOL.out; omega) ?_; intro v3 w3 hown3 hb3 hg3)
              go_roundw
              case rel => exact ⟨k + 1, D, out ++ [⟨4, D, 0, 1 + x.n, 0, false⟩], by omega, by go_num, rfl, by omega, by omega, hown3, by (unfold Hid; rw [List.length_append, HOL.out]; rfl), bt_more HF.out (fm4 HDB.out (by omega)), hb3⟩
              case measure => simp [intOf]; omega
            · have hr : x.kind % 7 = 4 := h4
              go_upto_region 24 with fail
              have hF : (((wr.alloc (.cells #[.int .u8 x.kind, .int .u8 x.gap, .int .u8 x.cs, .int .u8 x.n, .bool x.hold] 62)).alloc (.cells #[.int .u8 5, .int .i64 D, .int .i64 (1 + x.cs % 4), .int .i64 0, .int .i64 0, .bool x.hold] 30))).heap[wr.heap.size + 1]? = some (.cells #[.int .u8 5, .int .i64 D, .int .i64 (1 + x.cs % 4), .int .i64 0, .int .i64 0, .bool x.hold] 30 (0, 0)) := heap_new1 _ _ _
              have hE : Ext wr (((wr.alloc (.cells #[.int .u8 x.kind, .int .u8 x.gap, .int .u8 x.cs, .int .u8 x.n, .bool x.hold] 62)).alloc (.cells #[.int .u8 5, .int .i64 D, .int .i64 (1 + x.cs % 4), .int .i64 0, .int .i64 0, .bool x.hold] 30))) := (((Ext.refl wr).alloc _).alloc _)
              generalize ((wr.alloc (.cells #[.int .u8 x.kind, .int .u8 x.gap, .int .u8 x.cs, .int .u8 x.n, .bool x.hold] 62)).alloc (.cells #[.int .u8 5, .int .i64 D, .int .i64 (1 + x.cs % 4), .int .i64 0, .int .i64 0, .bool x.hold] 30)) = W at hF hE ⊢
              generalize wr.heap.size + 1 = BF at hF ⊢
              obtain ⟨f0, f1, f2, f3, f4, f5⟩ := cells6 hF
              have hFl := lt_of hF
              go_wp2_with (at_builtin; refine wpList_append_one (w0 := w) rfl _ _ 22 30 48 _ encF_len encF_one (by decide) rfl Tryd.underlying22 infoF rfl out ⟨5, D, 1 + x.cs % 4, 0, 0, x.hold⟩ (Owns.ext HOW.out hE) (HX1.out.trans hE) _ 1 rfl rfl (by first | rfl | simp) (by have := HOL.out; omega) (by have := HOL.out; omega) ?_; intro v3 w3 hown3 hb3 hg3)
              go_roundw
              case rel => exact ⟨k + 1, D, out ++ [⟨5, D, 1 + x.cs % 4, 0, 0, x.hold⟩], by omega, by go_num, rfl, by omega, by omega, hown3, by (unfold Hid; rw [List.length_append, HOL.out]; rfl), bt_more HF.out (fm5 HDB.out (by omega) (by omega)), hb3⟩
              case measure => simp [intOf]; omega
            · have hr : x.kind % 7 = 5 := h5
              go_upto_region 24 with fail
              have hF : (((wr.alloc (.cells #[.int .u8 x.kind, .int .u8 x.gap, .int .u8 x.cs, .int .u8 x.n, .bool x.hold] 62)).alloc (.cells #[.int .u8 6, .int .i64 D, .int .i64 (1 + x.cs % 4), .int .i64 (1 + x.n % 2), .int .i64 0, .bool false] 30))).heap[wr.heap.size + 1]? = some (.cells #[.int .u8 6, .int .i64 D, .int .i64 (1 + x.cs % 4), .int .i64 (1 + x.n % 2), .int .i64 0, .bool false] 30 (0, 0)) := heap_new1 _ _ _
              have hE : Ext wr (((wr.alloc (.cells #[.int .u8 x.kind, .int .u8 x.gap, .int .u8 x.cs, .int .u8 x.n, .bool x.hold] 62)).alloc (.cells #[.int .u8 6, .int .i64 D, .int .i64 (1 + x.cs % 4), .int .i64 (1 + x.n % 2), .int .i64 0, .bool false] 30))) := (((Ext.refl wr).alloc _).alloc _)
              generalize ((wr.alloc (.cells #[.int .u8 x.kind, .int .u8 x.gap, .int .u8 x.cs, .int .u8 x.n, .bool x.hold] 62)).alloc (.cells #[.int .u8 6, .int .i64 D, .int .i64 (1 + x.cs % 4), .int .i64 (1 + x.n % 2), .int .i64 0, .bool false] 30)) = W at hF hE ⊢
              generalize wr.heap.size + 1 = BF at hF ⊢
              obtain ⟨f0, f1, f2, f3, f4, f5⟩ := cells6 hF
              have hFl := lt_of hF
              go_wp2_with (at_builtin; refine wpList_append_one (w0 := w) rfl _ _ 22 30 48 _ encF_len encF_one (by decide) rfl Tryd.underlying22 infoF rfl out ⟨6, D, 1 + x.cs % 4, 1 + x.n % 2, 0, false⟩ (Owns.ext HOW.out hE) (HX1.out.trans hE) _ 1 rfl rfl (by first | rfl | simp) (by have := HOL.out; omega) (by have := HOL.out; omega) ?_; intro v3 w3 hown3 hb3 hg3)
              go_roundw
              case rel => exact ⟨k + 1, D, out ++ [⟨6, D, 1 + x.cs % 4, 1 + x.n % 2, 0, false⟩], by omega, by go_num, rfl, by omega, by omega, hown3, by (unfold Hid; rw [List.length_append, HOL.out]; rfl), bt_more HF.out (fm6 HDB.out (by omega) (by omega)), hb3⟩
              case measure => simp [intOf]; omega
            · have hr : x.kind % 7 = 6 := h6
              go_upto_region 24 with fail
              have hF : (((wr.alloc (.cells #[.int .u8 x.kind, .int .u8 x.gap, .int .u8 x.cs, .int .u8 x.n, .bool x.hold] 62)).alloc (.cells #[.int .u8 7, .int .i64 D, .int .i64 (1 + x.cs % 4), .int .i64 0, .int .i64 0, .bool false] 30))).heap[wr.heap.size + 1]? = some (.cells #[.int .u8 7, .int .i64 D, .int .i64 (1 + x.cs % 4), .int .i64 0, .int .i64 0, .bool false] 30 (0, 0)) := heap_new1 _ _ _
              have hE : Ext wr (((wr.alloc (.cells #[.int .u8 x.kind, .int .u8 x.gap, .int .u8 x.cs, .int .u8 x.n, .bool x.hold] 62)).alloc (.cells #[.int .u8 7, .int .i64 D, .int .i64 (1 + x.cs % 4), .int .i64 0, .int .i64 0, .bool false] 30))) := (((Ext.refl wr).alloc _).alloc _)
              generalize ((wr.alloc (.cells #[.int .u8 x.kind, .int .u8 x.gap, .int .u8 x.cs, .int .u8 x.n, .bool x.hold] 62)).alloc (.cells #[.int .u8 7, .int .i64 D, .int .i64 (1 + x.cs % 4), .int .i64 0, .int .i64 0, .bool false] 30)) = W at hF hE ⊢
              generalize wr.heap.size + 1 = BF at hF ⊢
              obtain ⟨f0, f1, f2, f3, f4, f5⟩ := cells6 hF
              have hFl := lt_of hF
              go_wp2_with (at_builtin; refine wpList_append_one (w0 := w) rfl _ _ 22 30 48 _ encF_len encF_one (by decide) rfl Tryd.underlying22 infoF rfl out ⟨7, D, 1 + x.cs % 4, 0, 0, false⟩ (Owns.ext HOW.out hE) (HX1.out.trans hE) _ 1 rfl rfl (by first | rfl | simp) (by have := HOL.out; omega) (by have := HOL.out; omega) ?_; intro v3 w3 hown3 hb3 hg3)
              go_roundw
              case rel => exact ⟨k + 1, D, out ++ [⟨7, D, 1 + x.cs % 4, 0, 0, false⟩], by omega, by go_num, rfl, by omega, by omega, hown3, by (unfold Hid; rw [List.length_append, HOL.out]; rfl), bt_more HF.out (fm7 HDB.out (by omega) (by omega)), hb3⟩
              case measure => simp [intOf]; omega
      · have h1 : (k : Int) < (l.length : Int) := by omega
        have h2 : ¬ (k : Int) < 30 := by omega
        obtain ⟨p2, c2, rfl, _⟩ := hown.read encF_len
        go_wp2_with fail
        go_ret
        exact ⟨p2, c2, out, rfl, hown, by have := HOL.out; omega, HF.out, hx⟩
    · have h1 : ¬ (k : Int) < (l.length : Int) := by omega
      obtain ⟨p2, c2, rfl, _⟩ := hown.read encF_len
      go_wp2_with fail
      go_ret
      exact ⟨p2, c2, out, rfl, hown, by have := HOL.out; omega, HF.out, hx⟩
end Go.Proofs.YtalconpcpegmlaaDoor
