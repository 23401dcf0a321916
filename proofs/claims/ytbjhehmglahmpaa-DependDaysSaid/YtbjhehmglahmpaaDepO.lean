import Derived.Test.YtbjhehmglahmpaaDepP
import Derived.Test.YtbjhehmglahmpaaProg
import Derived.WalkKit
import Derived.Maps.OwnSet
import Derived.RegionTactic
/- depend.once of strings, walked: the elements of two lists, each once. -/
namespace Go.Proofs.Ytbjhehmglahmpaa
open Go.RowKit
open Go.Maps (Keyed)
open Go.WideMaps Go.ChangeMaps

def encS (x : ByteArray) : List Value := [.string x]
theorem encS_len (x : ByteArray) : (encS x).length = 1 := rfl
theorem encS_one (x : ByteArray) : ∀ u ∈ encS x, u.oneCell' = true := by simp [encS, Value.oneCell']
theorem infoStr : (Try.prog.info? 9).map (fun i => (i.zero, i.size, i.bytes)) = some (some (.string ⟨#[]⟩), 1, 16) := by kernel_rfl
theorem keyedS : Keyed Try.prog 9 := Maps.string_keyed Try.underlying9
theorem zeroI (u : World) : (zeroValue 3).run Try.prog u = .ok (.int .i64 0) u := by kernel_rfl
theorem Sl.at1S {w : World} {p : Option Addr} {l : List ByteArray} (h : Sl 1 encS w p l) (k : Nat) (hk : k < l.length) :
    ∃ b off, p = some ⟨b, off, none⟩ ∧ b < w.heap.size ∧ w.cell? ⟨b, off + k, none⟩ = some (.string l[k]) := by
  obtain ⟨b, off, e, hb, hc⟩ := h k hk
  have := hc 0 _ rfl
  rw [Nat.mul_one, Nat.add_zero] at this
  exact ⟨b, off, e, hb, this⟩
theorem bump_at (w : World) (B : Nat) (f : Value → Int) (x : ByteArray) (hs : x.size ≤ maxLen) (h : CMap Try.prog 9 w B f) :
    ∃ w2 f', (Instr.lookup 112 (.map (some B)) (.string x) false).run Try.prog w = .ok (.int .i64 (f (.string x))) w ∧
      (Instr.mapUpdate 112 (.map (some B)) (.string x) (.int .i64 (f (.string x) + 1))).run Try.prog w = .ok () w2 ∧
      (Instr.lookup 112 (.map (some B)) (.string x) false).run Try.prog w2 = .ok (.int .i64 (f (.string x) + 1)) w2 ∧
      CMap Try.prog 9 w2 B f' ∧ w.grownBy w2 (some B) ∧ f' (.string x) = f (.string x) + 1 ∧ (∀ v, v ≠ .string x → f' v = f v) := by
  have hkey : keyOf Try.prog 9 (.string x) = some (.string x.data.toList) := keyOf_string_mk Try.underlying9 hs
  obtain ⟨f', hf1, hf2⟩ := bump f (.string x)
  obtain ⟨w2, hup, hc2, hg2⟩ := h.update keyedS Try.underlying112 hkey _ f' hf1 hf2
  have hl2 := hc2.look keyedS Try.underlying112 zeroI hkey
  rw [hf1] at hl2
  exact ⟨w2, f', h.look keyedS Try.underlying112 zeroI hkey, hup, hl2, hc2, hg2, hf1, hf2⟩
set_option maxHeartbeats 3200000 in
set_option maxRecDepth 100000 in
theorem onceS_any (a b : List ByteArray) (pa pb : Option Addr) (ca cb : Nat) (w : World) (ha : Sl 1 encS w pa a) (hb : Sl 1 encS w pb b) (hm : a.length + b.length ≤ 4398046511104) (hs : ∀ x ∈ a ++ b, x.size ≤ maxLen) :
    Calls Try.prog 47 #[.slice pa a.length ca, .slice pb b.length cb] w fun e w' => ∃ v, e = .returned v ∧ Owns w.heap.size 9 1 encS w' v (dd (a ++ b)) ∧ Ext w w' := by
  have HS := Lib.hid hs
  clear hs
  have hmm := @run_makeMap Try.prog
  go_enter Try.func47, Try.ntmps47
  go_wp2_with fail
  have hc0 : CMap Try.prog 9 ((w.alloc (.map #[] 0)).alloc (.cells #[.slice pa a.length ca, .slice pb b.length cb] 24)) w.heap.size (fun _ => 0) := CMap.made.ext ((Ext.refl _).alloc _)
  have hL := heap_new (w.alloc (.map #[] 0)) (.cells #[.slice pa a.length ca, .slice pb b.length cb] 24)
  have hx0 : Ext w ((w.alloc (.map #[] 0)).alloc (.cells #[.slice pa a.length ca, .slice pb b.length cb] 24)) := ((Ext.refl w).alloc _).alloc _
  have hBB : w.heap.size ≤ w.heap.size := Nat.le_refl _
  clear hmm
  obtain ⟨B, HBd⟩ : ∃ B, Hid (w.heap.size = B) := ⟨_, rfl⟩
  obtain ⟨L, HLd⟩ : ∃ L, Hid (w.heap.size + 1 = L) := ⟨_, rfl⟩
  have hL : ((w.alloc (.map #[] 0)).alloc (.cells #[.slice pa a.length ca, .slice pb b.length cb] 24)).heap[L]? = some (.cells #[.slice pa a.length ca, .slice pb b.length cb] 24 (0, 0)) := by rw [← HLd.out]; simpa using hL
  have hc0 : CMap Try.prog 9 ((w.alloc (.map #[] 0)).alloc (.cells #[.slice pa a.length ca, .slice pb b.length cb] 24)) B (fun _ => 0) := by rw [← HBd.out]; exact hc0
  have HL := Lib.hid hL
  have hgB : Hid (w.heap.size ≤ B) := by rw [← HBd.out]; exact Nat.le_refl _
  rw [HLd.out, HBd.out]
  clear hL hBB
  generalize (w.alloc (.map #[] 0)).alloc (.cells #[.slice pa a.length ca, .slice pb b.length cb] 24) = W0 at hc0 hx0 HL ⊢
  go_loopw [6, 16] (fun v i wr => ∃ (j : Nat) (f : Value → Int), j ≤ 2 ∧ i = .int .i64 j ∧ Owns B 9 1 encS wr v (dd (pre2 a b j)) ∧ CMap Try.prog 9 wr B f ∧ Hid (Cnt Value.string f (pre2 a b j)) ∧ Hid (wr.heap[L]? = some (.cells #[.slice pa a.length ca, .slice pb b.length cb] 24 (0, 0))) ∧ Ext w wr) (fun _ i _ => 2 - (intOf i).toNat)
  case atStart => exact ⟨0, _, by omega, rfl, Owns.nil, hc0, Cnt.nil _, HL, hx0⟩
  case round =>
    obtain ⟨j, f, hj, rfl, hown, hcm, hcnt, hL, hx⟩ := hrel
    by_cases hj2 : j < 2
    · have hde : decide ((j : Int) < 2) = true := by simpa using (by omega : (j : Int) < 2)
      obtain ⟨xs, px, cx, hcell, hsx, hxe⟩ : ∃ xs px cx, wr.cell? ⟨L, j, none⟩ = some (.slice px xs.length cx) ∧ Sl 1 encS w px xs ∧ Hid (xs = nth2 a b j) := by
        rcases (by omega : j = 0 ∨ j = 1) with rfl | rfl
        · exact ⟨a, pa, ca, by rw [cell_of hL.out]; rfl, ha, rfl⟩
        · exact ⟨b, pb, cb, by rw [cell_of hL.out]; rfl, hb, rfl⟩
      have hLl := lt_of hL.out
      have hlen : (pre2 a b j).length + xs.length ≤ 4398046511104 := by rw [hxe.out]; exact Nat.le_trans (pre2_nth_len a b j hj2) hm
      have HSX : Hid (∀ x ∈ xs, x.size ≤ maxLen) := fun x hx => HS.out x (by
        rw [hxe.out] at hx
        rcases (by omega : j = 0 ∨ j = 1) with rfl | rfl
        · exact List.mem_append.2 (.inl hx)
        · exact List.mem_append.2 (.inr hx))
      have HP := Lib.hid (pre2_succ a b j hj2)
      go_wp2_with fail
      obtain ⟨wo, rfl⟩ : ∃ wo : World, wo = wr := ⟨_, rfl⟩
      go_loopw [6, 22] (fun v i wq => ∃ (k : Nat) (f : Value → Int), k ≤ xs.length ∧ i = .int .i64 k ∧ Owns B 9 1 encS wq v (dd (pre2 a b j ++ xs.take k)) ∧ CMap Try.prog 9 wq B f ∧ Hid (Cnt Value.string f (pre2 a b j ++ xs.take k)) ∧ Hid (wq.heap[L]? = some (.cells #[.slice pa a.length ca, .slice pb b.length cb] 24 (0, 0))) ∧ Ext w wq) (fun _ i _ => xs.length - (intOf i).toNat)
      case atStart => exact ⟨0, f, by omega, rfl, by simpa using hown, hcm, by simpa using hcnt, hL, hx⟩
      case round =>
        obtain ⟨k, f, hk, rfl, hown, hcm, hcnt, hL, hx2⟩ := hrel
        by_cases hkl : k < xs.length
        · have hde2 : decide ((k : Int) < (xs.length : Int)) = true := by simpa using hkl
          have hkl2 : (k : Int) < (xs.length : Int) := by omega
          obtain ⟨bb, off, rfl, hbl, c0⟩ := (hsx.ext hx2).at1S k hkl
          have hsz := HSX.out xs[k] (List.getElem_mem hkl)
          have HTK : Hid (xs.take (k + 1) = xs.take k ++ [xs[k]]) := List.take_succ_eq_append_getElem hkl
          generalize xs[k] = s at c0 hsz HTK
          have HSZ := Lib.hid hsz
          clear hsz
          obtain ⟨w2, f', hlk, hup, hl2, hc2, hg2, hf1, hf2⟩ := bump_at wr B f s HSZ.out hcm
          have hcnt2 := hcnt.out.step (x := s) hf1 hf2
          have hlo := hcnt.out.lo (.string s)
          have hhi := hcnt.out.hi (.string s)
          have hnew := fun h => hcnt.out.new (x := s) (fun y e => by injection e) h
          have hold := hcnt.out.old (x := s)
          rw [List.length_append, List.length_take] at hhi
          obtain ⟨c, hc⟩ : ∃ c, f (.string s) = c := ⟨_, rfl⟩
          rw [hc] at hlk hup hl2 hlo hhi hnew hold
          have HN := Lib.hid hnew
          have HOl := Lib.hid hold
          have HC2 := Lib.hid hcnt2
          have HDL := len_dd (pre2 a b j ++ xs.take k)
          rw [List.length_append, List.length_take] at HDL
          have hgB := hgB.out
          have hxw2 : Ext w w2 := hx2.grown hg2 (fun i hi => by cases hi; omega)
          have hL2 : Hid (w2.heap[L]? = some (.cells #[.slice pa a.length ca, .slice pb b.length cb] 24 (0, 0))) := (hg2.block L (lt_of hL.out) (fun e => row_not_map hL.out hcm (Option.some.inj e))).trans hL.out
          have hown2 := hown.keptMap hcm hg2
          clear hc hf1 hf2 hg2 hcm hcnt hnew hold hcnt2 hown hL hx2
          have hw1 := IntWalk.i64_in (c + 1) (by omega)
          by_cases hin : s ∈ pre2 a b j ++ xs.take k
          · have HDD : Hid (dd (pre2 a b j ++ xs.take (k + 1)) = dd (pre2 a b j ++ xs.take k)) := by unfold Hid; rw [HTK.out, ← List.append_assoc]; exact dd_old hin
            have h1c := HOl.out hin
            have hq : (c + 1 == 1) = false := by rw [beq_eq_false_iff_ne]; omega
            have hq2 : decide (c + 1 = 1) = false := by rw [decide_eq_false_iff_not]; omega
            go_wp2_with (refine wpList_mapUpdate_c rfl _ _ _ 112 rfl rfl rfl rfl hup ?_)
            go_roundw
            case rel => exact ⟨k + 1, f', by omega, by go_num, by rw [HDD.out]; exact hown2, hc2, by (unfold Hid; rw [HTK.out, ← List.append_assoc]; exact HC2.out), hL2, hxw2⟩
            case measure => simp [intOf]; omega
          · have HDD : Hid (dd (pre2 a b j ++ xs.take (k + 1)) = dd (pre2 a b j ++ xs.take k) ++ [s]) := by unfold Hid; rw [HTK.out, ← List.append_assoc]; exact dd_new hin
            have h0c := HN.out hin
            have hq : (c + 1 == 1) = true := by rw [beq_iff_eq]; omega
            have hq2 : decide (c + 1 = 1) = true := by rw [decide_eq_true_iff]; omega
            clear h0c
            rw [← HBd.out] at hown2
            go_wp2_with (first | (refine wpList_mapUpdate_c rfl _ _ _ 112 rfl rfl rfl rfl hup ?_) | (at_builtin; refine wpList_append_one (w0 := w) rfl _ _ 24 9 16 _ encS_len encS_one (by decide) rfl Try.underlying24 infoStr rfl (dd (pre2 a b j ++ xs.take k)) s hown2 hxw2 _ 1 rfl rfl (by simp) (by omega) (by omega) ?_; intro v3 w3 hown3 hx3 hg3))
            go_roundw
            case rel =>
              have hLa : (w2.alloc (.cells (encS s).toArray 9)).heap[L]? = some (.cells #[.slice pa a.length ca, .slice pb b.length cb] 24 (0, 0)) := heap_ext hL2.out ((Ext.refl _).alloc _)
              have hca := hc2.ext ((Ext.refl w2).alloc (.cells (encS s).toArray 9))
              refine ⟨k + 1, f', by omega, by go_num, by rw [HDD.out, ← HBd.out]; exact hown3, hca.grown hg3 ?_, by (unfold Hid; rw [HTK.out, ← List.append_assoc]; exact HC2.out), (hg3.block L (lt_of hLa) (Owns.not_row hown2 hL2.out (by decide))).trans hLa, hx3⟩
              intro e
              rcases hown2.not_map hc2 with h | h
              · rw [h] at e; cases e
              · exact h e.symm
            case measure => simp [intOf]; omega
        · have hde2 : decide ((k : Int) < (xs.length : Int)) = false := by simpa using hkl
          have hpre : Hid (pre2 a b j ++ xs.take k = pre2 a b (j + 1)) := by unfold Hid; rw [HP.out, ← hxe.out, List.take_of_length_le (by omega)]
          rw [hpre.out] at hown hcnt
          go_wp2_with fail
          go_roundw
          case rel => exact ⟨j + 1, f, by omega, by go_num, hown, hcm, hcnt, hL, hx2⟩
          case measure => simp [intOf]; omega
    · have hde : decide ((j : Int) < 2) = false := by simpa using (by omega : ¬ (j : Int) < 2)
      obtain rfl : j = 2 := by omega
      go_wp2_with fail
      go_ret
      exact ⟨_, rfl, Owns.mono hown (by rw [HBd.out]; exact Nat.le_refl _), hx⟩
end Go.Proofs.Ytbjhehmglahmpaa
