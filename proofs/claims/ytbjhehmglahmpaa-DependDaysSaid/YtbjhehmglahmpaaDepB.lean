import Derived.Test.YtbjhehmglahmpaaDepQ
/- depend's Keys and Days, walked. -/
namespace Go.Proofs.Ytbjhehmglahmpaa
open Go.RowKit

set_option maxHeartbeats 1600000 in
set_option maxRecDepth 100000 in
theorem keys_any (fs : List Rd) (pp pf pt : Option Addr) (np nt cp cf ct : Nat) (w : World) (hl : Sl 3 encR w pf fs) (hm : fs.length ≤ 4398046511104) (hs : ∀ x ∈ fs, x.1.size ≤ maxLen) :
    Calls Try.prog 21 #[.agg #[.slice pp np cp, .slice pf fs.length cf, .slice pt nt ct]] w fun e w' => ∃ v, e = .returned v ∧ Owns w.heap.size 9 1 encS w' v (dd (fs.map (·.1))) ∧ Ext w w' := by
  have HS := Lib.hid hs
  clear hs
  go_enter Try.func21, Try.ntmps21
  go_wp2_with fail
  go_loopw [3, 9] (fun v i wr => ∃ (k : Nat), k ≤ fs.length ∧ i = .int .i64 k ∧ Owns w.heap.size 9 1 encS wr v ((fs.take k).map (·.1)) ∧ Ext w wr) (fun _ i _ => fs.length - (intOf i).toNat)
  case atStart => exact ⟨0, by omega, rfl, Owns.nil, (Ext.refl w).alloc _⟩
  case round =>
    obtain ⟨k, hk, rfl, hown, hx⟩ := hrel
    by_cases hlt : k < fs.length
    · have hde : decide ((k : Int) < (fs.length : Int)) = true := by simpa using hlt
      have hlt2 : (k : Int) < (fs.length : Int) := by omega
      obtain ⟨b, off, rfl, hbl, c0, c1, c2⟩ := (hl.ext hx).at3R k hlt
      have HT : Hid (fs.take (k + 1) = fs.take k ++ [fs[k]]) := List.take_succ_eq_append_getElem hlt
      generalize fs[k] = x at c0 c1 c2 HT
      obtain ⟨s, f, t⟩ := x
      dsimp only at c0 c1 c2
      have hlen : ((fs.take k).map (·.1)).length ≤ 4398046511104 := by rw [List.length_map, List.length_take]; omega
      go_wp2_with (at_builtin; refine wpList_append_one (w0 := w) rfl _ _ 24 9 16 _ encS_len encS_one (by decide) rfl Try.underlying24 infoStr rfl ((fs.take k).map (·.1)) s (hown.alloc _) (hx.alloc _) _ 1 rfl rfl (by simp) (by omega) (by omega) ?_; intro v3 w3 hown3 hx3 _)
      go_roundw
      case rel => exact ⟨k + 1, by omega, by go_num, by rw [HT.out, List.map_append]; exact hown3, hx3⟩
      case measure => simp [intOf]; omega
    · have hde : decide ((k : Int) < (fs.length : Int)) = false := by simpa using hlt
      have HT : Hid (fs.take k = fs) := List.take_of_length_le (by omega)
      rw [HT.out] at hown
      obtain ⟨ks, HK⟩ : ∃ ks, Hid (fs.map (·.1) = ks) := ⟨_, rfl⟩
      rw [HK.out] at hown
      have hkl : ks.length ≤ 4398046511104 := by rw [← HK.out, List.length_map]; exact hm
      have HKS : Hid (∀ x ∈ ([] : List ByteArray) ++ ks, x.size ≤ maxLen) := fun x hx => by
        rw [List.nil_append, ← HK.out] at hx
        obtain ⟨y, hy, rfl⟩ := List.mem_map.1 hx
        exact HS.out y hy
      obtain ⟨p3, c3, rfl, hsl⟩ := hown.read encS_len
      go_wp2_with fail
      refine (onceS_any [] ks none p3 0 c3 _ Sl.nil hsl (by simp only [List.length_nil]; omega) HKS.out).mono ?_
      rintro e wN ⟨v, rfl, hv, hN⟩
      rw [List.nil_append] at hv
      go_wp2_with fail
      go_ret
      rw [HK.out]
      exact ⟨v, rfl, Owns.mono hv hx.size, hx.trans hN⟩
set_option maxHeartbeats 1600000 in
set_option maxRecDepth 100000 in
theorem days25_any (fs : List Rd) (pp pf pt : Option Addr) (np nt cp cf ct : Nat) (key : ByteArray) (w : World) (hl : Sl 3 encR w pf fs) (hm : fs.length ≤ 4398046511104) :
    Calls Try.prog 22 #[.agg #[.slice pp np cp, .slice pf fs.length cf, .slice pt nt ct], .string key] w fun e w' => ∃ v, e = .returned (.tuple #[v, .int .i64 (makeE (spansOf key fs))]) ∧ OwnS w w' v (makeV (spansOf key fs)) ∧ Ext w w' := by
  go_enter Try.func22, Try.ntmps22
  go_wp2_with fail
  go_loopw [6, 12] (fun v i wr => ∃ (k : Nat) (out : List Sp), k ≤ fs.length ∧ i = .int .i64 k ∧ Hid (spansOf key (fs.take k) = out) ∧ OwnS w wr v out ∧ out.length ≤ k ∧ Ext w wr) (fun _ i _ => fs.length - (intOf i).toNat)
  case atStart => exact ⟨0, [], by omega, rfl, rfl, Owns.nil, by simp, (Ext.refl w).alloc _⟩
  case round =>
    obtain ⟨k, out, hk, rfl, HO, hown, hlo, hx⟩ := hrel
    by_cases hlt : k < fs.length
    · have hde : decide ((k : Int) < (fs.length : Int)) = true := by simpa using hlt
      have hlt2 : (k : Int) < (fs.length : Int) := by omega
      obtain ⟨b, off, rfl, hbl, c0, c1, c2⟩ := (hl.ext hx).at3R k hlt
      have HT : Hid (fs.take (k + 1) = fs.take k ++ [fs[k]]) := List.take_succ_eq_append_getElem hlt
      generalize fs[k] = x at c0 c1 c2 HT
      obtain ⟨s, f, t⟩ := x
      dsimp only at c0 c1 c2
      cases hs : (s.toList == key.toList) with
      | true =>
        have HSK := Lib.hid hs
        by_cases hft : f < t
        · have HN : Hid (spansOf key (fs.take (k + 1)) = out ++ [(f, t)]) := by unfold Hid; rw [HT.out, spansOf_snoc, if_pos (by simp [spanB, hft, HSK.out]), HO.out]
          have hde2 : decide (f < t) = true := by simpa using hft
          go_wp2_with (at_builtin; refine wpList_append_one (w0 := w) rfl _ _ 52 65 16 _ enc2_len enc2_one (by decide) rfl Try.underlying52 infoSp rfl out (f, t) (Owns.alloc hown _) (hx.alloc _) _ 1 rfl rfl (by simp) (by omega) (by omega) ?_; intro v3 w3 hown3 hx3 _)
          go_roundw
          case rel => exact ⟨k + 1, _, by omega, by go_num, HN, hown3, by simp; omega, hx3⟩
          case measure => simp [intOf]; omega
        · have HN : Hid (spansOf key (fs.take (k + 1)) = out) := by unfold Hid; rw [HT.out, spansOf_snoc, if_neg (by simp [spanB, hft]), HO.out]
          have hde2 : decide (f < t) = false := by simpa using hft
          go_wp2_with fail
          go_roundw
          case rel => exact ⟨k + 1, out, by omega, by go_num, HN, Owns.alloc hown _, by omega, hx.alloc _⟩
          case measure => simp [intOf]; omega
      | false =>
        have HN : Hid (spansOf key (fs.take (k + 1)) = out) := by unfold Hid; rw [HT.out, spansOf_snoc, if_neg (by simp [spanB, hs]), HO.out]
        go_wp2_with fail
        go_roundw
        case rel => exact ⟨k + 1, out, by omega, by go_num, HN, Owns.alloc hown _, by omega, hx.alloc _⟩
        case measure => simp [intOf]; omega
    · have hde : decide ((k : Int) < (fs.length : Int)) = false := by simpa using hlt
      have HT : Hid (spansOf key fs = out) := by unfold Hid; rw [← HO.out, List.take_of_length_le (by omega)]
      obtain ⟨p3, c3, rfl, hsl⟩ := hown.read enc2_len
      go_wp2_with fail
      refine (make_any out p3 c3 _ hsl (by omega)).mono ?_
      rintro e wN ⟨v, rfl, hv, hN⟩
      go_wp2_with fail
      go_ret2
      rw [HT.out]
      exact ⟨v, rfl, Owns.mono hv hx.size, hx.trans hN⟩
end Go.Proofs.Ytbjhehmglahmpaa
