import Derived.Test.YtalconpcpegmlaaDoorAppW
import Derived.Test.YtalconpcpegmlaaDoorAppN
/- appeal.file, one contract for every way. -/
namespace Go.Proofs.YtalconpcpegmlaaDoor
open Go.RowKit

theorem CI.pb {c : Cs} {last : Int} (h : CI c last) : PB c := ⟨h.ok.len6, by have := h.due; omega, by have := h.dy; omega⟩
theorem row_of {f : Fl} (hf : formedB f = true) : ∃ lo hi, rowP f.kind = some (stP f.kind, lo, hi) := by
  obtain ⟨s, lo, hi, hr, _⟩ := formed_out hf
  exact ⟨lo, hi, by unfold stP; rw [hr]⟩
set_option maxHeartbeats 1600000 in
theorem file_c (f : Fl) (m : Option Nat) (b : Nat) (w0 w : World) (hw : Ext w0 w) (p : Option Addr) (cap : Nat) (xs : List Cv) (last : Int) (h : RowsAt m w) (hk : 0 ≤ f.kind ∧ f.kind < 256) (hd : Dock w0.heap.size b w p cap xs last) (hI : DI (xs.map (·.1), last)) :
    Calls Tryd.prog 46 #[.pointer (some ⟨b, 0, none⟩), .agg #[.int .u8 f.kind, .int .i64 f.day, .int .i64 f.cs, .int .i64 f.n, .int .i64 f.un, .bool f.hold]] w
      fun e w' => RdF w0.heap.size w0 w w' b (fileP (xs.map (·.1), last) f).1 (fileP (xs.map (·.1), last) f).2 e := by
  have r := fileR (xs.map (·.1), last) f
  have hlen : xs.length ≤ 100 := by have := hI.len; simpa using this
  generalize hx : fileP (xs.map (·.1), last) f = x at r ⊢
  cases r with
  | bad hf => exact (file_unformed f m b w h hk hf).mono fun e w' ⟨he, hx⟩ => RdF.same hd hw he hx
  | late hf hl => exact (file_late f m b w _ last (0, 0) h hk hf hd.row hl).mono fun e w' ⟨he, hx⟩ => RdF.same hd hw he hx
  | full hf hl hs hn =>
    obtain ⟨lo, hi, hr⟩ := row_of hf
    rw [hs] at hr
    have hn' : xs.length = 100 := by simpa using hn
    have hb := hd.row
    rw [hn'] at hb
    exact (file_full f m b w p cap last lo hi (0, 0) h hk hf hr hb (by simpa using hl)).mono fun e w' ⟨he, hx⟩ => RdF.same hd hw he hx
  | opens hf hl hs hn =>
    obtain ⟨lo, hi, hr⟩ := row_of hf
    rw [hs] at hr
    have hn' : xs.length ≠ 100 := by simpa using hn
    exact file_open f m b w0 w p cap xs last lo hi hw h hk hf hr hd (by omega) (by simpa using hl)
  | none hf hl hs hn =>
    obtain ⟨lo, hi, hr⟩ := row_of hf
    have hp := cs_pos hf hs
    simp only [List.getElem?_map, Option.map_eq_none_iff, List.getElem?_eq_none_iff] at hn
    exact (file_none f m b xs.length w p cap last (stP f.kind) lo hi (0, 0) h hk hf hr (by simpa using hs) hd.row (by simpa using hl) (by omega)).mono fun e w' ⟨he, hx⟩ => RdF.same hd hw he hx
  | state c0 hf hl hs hn ht =>
    obtain ⟨lo, hi, hr⟩ := row_of hf
    have hp := cs_pos hf hs
    have hci := hI.at hn
    simp only [List.getElem?_map, Option.map_eq_some_iff] at hn
    obtain ⟨⟨c1, pc, cc⟩, hn, rfl⟩ := hn
    obtain ⟨hlt, he⟩ := List.getElem?_eq_some_iff.1 hn
    obtain ⟨g, gc, rfl, hgN, hG, hcell⟩ := hd.own.place encC_len hlt
    have hsl := hd.held.sl (List.getElem_mem hlt)
    rw [he] at hsl
    exact (file_state f m b (f.cs - 1).toNat g w xs.length cap last (stP f.kind) lo hi (0, 0) c1 pc cc h hk hf hr (by simpa using hs) hd.row (by simpa using hl) hlt hlen (by omega) (lt_of hG)
      (fun i u hiu => hcell _ hlt i u (by rw [he]; exact hiu)) hsl hci.pb (by simpa using ht)).mono fun e w' ⟨he, hx⟩ => RdF.same hd hw he hx
  | choice c0 hf hl hs hn ht k hc =>
    obtain ⟨lo, hi, hr⟩ := row_of hf
    have hp := cs_pos hf hs
    have hci := hI.at hn
    simp only [List.getElem?_map, Option.map_eq_some_iff] at hn
    obtain ⟨⟨c1, pc, cc⟩, hn, rfl⟩ := hn
    obtain ⟨hlt, he⟩ := List.getElem?_eq_some_iff.1 hn
    have e2 : (doP f (passP c1 f.day)).2 = 402 := by rw [doP_choose k, if_pos (by rw [(pass_same c1 f.day).2.2.1]; exact hc)]
    have key := file_do f m b (f.cs - 1).toNat w0 w hw p cap xs last (stP f.kind) lo hi 402 c1 pc cc 60 h hk hf hr (by simpa using hs) hd (by simpa using hl) hlt he hlen (by omega) hci.pb (by simpa using ht) (.inl rfl)
      (by rw [k]; simp) (by rw [k]; intro p hp he; simp only [List.mem_cons, List.not_mem_nil, or_false] at hp; rcases hp with rfl | rfl | rfl | rfl | rfl <;> first | rfl | (simp at he))
      (fun q cap2 w2 _ => by have := choose_c f (passP c1 f.day) q cap2 w2; rw [← doP_choose k, e2] at this; exact this)
    unfold doneD at key
    rw [if_neg (by decide)] at key
    exact key
  | act c0 hf hl hs hn ht h0 =>
    obtain ⟨lo, hi, hr⟩ := row_of hf
    have hp := cs_pos hf hs
    have hci := hI.at hn
    have hday := formed_days hf
    have hC := hci.pass hl (by omega)
    simp only [List.getElem?_map, Option.map_eq_some_iff] at hn
    obtain ⟨⟨c1, pc, cc⟩, hn, rfl⟩ := hn
    obtain ⟨hlt, he⟩ := List.getElem?_eq_some_iff.1 hn
    suffices hh : Calls Tryd.prog 46 #[.pointer (some ⟨b, 0, none⟩), .agg #[.int .u8 f.kind, .int .i64 f.day, .int .i64 f.cs, .int .i64 f.n, .int .i64 f.un, .bool f.hold]] w fun e w' => RdF w0.heap.size w0 w w' b (doneD (xs.map (·.1)) (f.cs - 1).toNat (doP f (passP c1 f.day)).1 f.day last 0) 0 e from by
      unfold doneD at hh
      rw [if_pos rfl] at hh
      exact hh
    cases kinds hf with
    | elect k _ _ _ s => exact absurd s hs
    | decide k _ _ _ s => exact absurd s hs
    | choose k =>
      exact file_do f m b (f.cs - 1).toNat w0 w hw p cap xs last (stP f.kind) lo hi 0 c1 pc cc 60 h hk hf hr (by simpa using hs) hd (by simpa using hl) hlt he hlen (by omega) hci.pb (by simpa using ht) (.inl rfl)
        (by rw [k]; simp) (by rw [k]; intro p hp he; simp only [List.mem_cons, List.not_mem_nil, or_false] at hp; rcases hp with rfl | rfl | rfl | rfl | rfl <;> first | rfl | (simp at he))
        (fun q cap2 w2 _ => by have := choose_c f (passP c1 f.day) q cap2 w2; rw [← doP_choose k, h0] at this; exact this)
    | lock k =>
      exact file_do f m b (f.cs - 1).toNat w0 w hw p cap xs last (stP f.kind) lo hi 0 c1 pc cc 61 h hk hf hr (by simpa using hs) hd (by simpa using hl) hlt he hlen (by omega) hci.pb (by simpa using ht) (.inr (.inl rfl))
        (by rw [k]; simp) (by rw [k]; intro p hp he; simp only [List.mem_cons, List.not_mem_nil, or_false] at hp; rcases hp with rfl | rfl | rfl | rfl | rfl <;> first | rfl | (simp at he))
        (fun q cap2 w2 hs2 => by rw [doP_close (by omega) (by omega) (by omega)]; exact close_c f (passP c1 f.day) q cap2 w2 hs2 hC.pb)
    | appeal k =>
      exact file_do f m b (f.cs - 1).toNat w0 w hw p cap xs last (stP f.kind) lo hi 0 c1 pc cc 62 h hk hf hr (by simpa using hs) hd (by simpa using hl) hlt he hlen (by omega) hci.pb (by simpa using ht) (.inr (.inr (.inl rfl)))
        (by rw [k]; simp) (by rw [k]; intro p hp he; simp only [List.mem_cons, List.not_mem_nil, or_false] at hp; rcases hp with rfl | rfl | rfl | rfl | rfl <;> first | rfl | (simp at he))
        (fun q cap2 w2 hs2 => by rw [doP_appeal k]; exact appeal_c f (passP c1 f.day) q cap2 w2 (by omega) ⟨hC.lv.1, Int.le_trans hC.lv.2 (by omega)⟩)
    | rule k =>
      exact file_do f m b (f.cs - 1).toNat w0 w hw p cap xs last (stP f.kind) lo hi 0 c1 pc cc 63 h hk hf hr (by simpa using hs) hd (by simpa using hl) hlt he hlen (by omega) hci.pb (by simpa using ht) (.inr (.inr (.inr rfl)))
        (by rw [k]; simp) (by rw [k]; intro p hp he; simp only [List.mem_cons, List.not_mem_nil, or_false] at hp; rcases hp with rfl | rfl | rfl | rfl | rfl <;> first | rfl | (simp at he))
        (fun q cap2 w2 hs2 => by rw [doP_rule k]; exact rule_c f (passP c1 f.day) q cap2 w2 hs2 hC.pb (by omega))
    | withdraw k =>
      exact file_do f m b (f.cs - 1).toNat w0 w hw p cap xs last (stP f.kind) lo hi 0 c1 pc cc 61 h hk hf hr (by simpa using hs) hd (by simpa using hl) hlt he hlen (by omega) hci.pb (by simpa using ht) (.inr (.inl rfl))
        (by rw [k]; simp) (by rw [k]; intro p hp he; simp only [List.mem_cons, List.not_mem_nil, or_false] at hp; rcases hp with rfl | rfl | rfl | rfl | rfl <;> first | rfl | (simp at he))
        (fun q cap2 w2 hs2 => by rw [doP_close (by omega) (by omega) (by omega)]; exact close_c f (passP c1 f.day) q cap2 w2 hs2 hC.pb)
end Go.Proofs.YtalconpcpegmlaaDoor
/- appeal.filed, walked. -/
namespace Go.Proofs.YtalconpcpegmlaaDoor
open Go.RowKit

def encF (f : Fl) : List Value := [.int .u8 f.kind, .int .i64 f.day, .int .i64 f.cs, .int .i64 f.n, .int .i64 f.un, .bool f.hold]
theorem encF_len (x : Fl) : (encF x).length = 6 := rfl
def encE (x : Int) : List Value := [.int .i64 x]
theorem encE_len (x : Int) : (encE x).length = 1 := rfl
theorem encE_one (x : Int) : ∀ u ∈ encE x, u.oneCell' = true := by simp [encE, Value.oneCell']
theorem infoE : (Tryd.prog.info? 31).map (fun i => (i.zero, i.size, i.bytes)) = some (some (.int .i64 0), 1, 8) := by kernel_rfl
theorem Sl.atF {w : World} {p : Option Addr} {l : List Fl} (h : Sl 6 encF w p l) (k : Nat) (hk : k < l.length) :
    ∃ b off f, p = some ⟨b, off, none⟩ ∧ b < w.heap.size ∧ w.cell? ⟨b, off + k * 6, none⟩ = some (.int .u8 f.kind) ∧ w.cell? ⟨b, off + k * 6 + 1, none⟩ = some (.int .i64 f.day) ∧ w.cell? ⟨b, off + k * 6 + 2, none⟩ = some (.int .i64 f.cs) ∧
      w.cell? ⟨b, off + k * 6 + 3, none⟩ = some (.int .i64 f.n) ∧ w.cell? ⟨b, off + k * 6 + 4, none⟩ = some (.int .i64 f.un) ∧ w.cell? ⟨b, off + k * 6 + 5, none⟩ = some (.bool f.hold) ∧ Hid (l[k] = f) := by
  obtain ⟨b, off, e, hb, hc⟩ := h k hk
  exact ⟨b, off, l[k], e, hb, hc 0 _ rfl, hc 1 _ rfl, hc 2 _ rfl, hc 3 _ rfl, hc 4 _ rfl, hc 5 _ rfl, rfl⟩
theorem dock_many {l : List Fl} (f : Fl) (h : ¬ l.length < 1000) : dockP (l ++ [f]) = dockP l ∧ runP (l ++ [f]) = runP l ++ [5] := by
  unfold dockP runP
  rw [filedP_append]
  simp only [filedP]
  rw [if_neg (by rw [filedP_len]; simpa using h)]
  exact ⟨rfl, rfl⟩
theorem take_snocL {α : Type} {l : List α} {k : Nat} (h : k < l.length) : l.take (k + 1) = l.take k ++ [l[k]] := List.take_succ_eq_append_getElem h
theorem Dock.aside {N b : Nat} {w w' : World} {ts : List TypeId} {p : Option Addr} {cap : Nat} {xs : List Cv} {last : Int} (h : Dock N b w p cap xs last) (ha : Apart ts w w') (h1 : 68 ∉ ts) (h2 : 39 ∉ ts) (h3 : 57 ∉ ts) : Dock N b w' p cap xs last :=
  ⟨h.le, ha.at' _ _ _ _ h1 h.row, h.own.aside ha h2, h.held.aside ha h3⟩
/-- The docket of the first filings, in memory. -/
structure Fld (w wr : World) (b : Nat) (l : List Fl) (p : Option Addr) (cap : Nat) (xs : List Cv) (last : Int) (v : Value) (out : List Int) : Prop where
  cs : xs.map (·.1) = (dockP l).1
  lastE : last = (dockP l).2
  outE : out = runP l
  dock : Dock w.heap.size b wr p cap xs last
  own : Owns w.heap.size 31 1 encE wr v out
theorem Fld.step {w wr w2 : World} {b : Nat} {l : List Fl} {f : Fl} {p p2 : Option Addr} {cap cap2 : Nat} {xs xs2 : List Cv} {last last2 er : Int} {v v2 : Value} {out : List Int} (h : Fld w wr b l p cap xs last v out) (hl : l.length < 1000)
    (hm : xs2.map (·.1) = (fileP (xs.map (·.1), last) f).1.1) (h2 : last2 = (fileP (xs.map (·.1), last) f).1.2) (he : er = (fileP (xs.map (·.1), last) f).2) (hd : Dock w.heap.size b w2 p2 cap2 xs2 last2) (ho : Owns w.heap.size 31 1 encE w2 v2 (out ++ [er])) :
    Fld w w2 b (l ++ [f]) p2 cap2 xs2 last2 v2 (out ++ [er]) := by
  have e : (xs.map (·.1), last) = dockP l := by rw [h.cs, h.lastE]
  rw [e] at hm h2 he
  obtain ⟨e1, e2⟩ := dockP_snoc f hl
  exact ⟨by rw [e1, hm], by rw [e1, h2], by rw [e2, h.outE, he], hd, ho⟩
theorem Fld.many {w wr w2 : World} {b : Nat} {l : List Fl} {f : Fl} {p : Option Addr} {cap : Nat} {xs : List Cv} {last : Int} {v v2 : Value} {out : List Int} (h : Fld w wr b l p cap xs last v out) (hl : ¬ l.length < 1000)
    (hd : Dock w.heap.size b w2 p cap xs last) (ho : Owns w.heap.size 31 1 encE w2 v2 (out ++ [5])) : Fld w w2 b (l ++ [f]) p cap xs last v2 (out ++ [5]) := by
  obtain ⟨e1, e2⟩ := dock_many f hl
  exact ⟨by rw [e1, h.cs], by rw [e1, h.lastE], by rw [e2, h.outE], hd, ho⟩
theorem Fld.di {w wr : World} {b : Nat} {l : List Fl} {p : Option Addr} {cap : Nat} {xs : List Cv} {last : Int} {v : Value} {out : List Int} (h : Fld w wr b l p cap xs last v out) : DI (xs.map (·.1), last) := by
  rw [h.cs, h.lastE]; exact DI.dock l
def RdFiled (w w' : World) (l : List Fl) (e : Ending) : Prop := ∃ b p cap xs last v out, e = .returned (.tuple #[.pointer (some ⟨b, 0, none⟩), v]) ∧ Fld w w' b l p cap xs last v out ∧ Ext w w'
set_option maxHeartbeats 1600000 in
set_option maxRecDepth 100000 in
theorem filed_c (l : List Fl) (p : Option Addr) (c : Nat) (m : Option Nat) (w : World) (hl : Sl 6 encF w p l) (hm : l.length ≤ 1000000) (hr : RowsAt m w) (hk : ∀ f ∈ l, 0 ≤ f.kind ∧ f.kind < 256) :
    Calls Tryd.prog 31 #[.slice p l.length c] w fun e w' => RdFiled w w' l e := by
  have HK := Lib.hid hk
  have HR := Lib.hid hr
  clear hk hr
  have hB := heap_new w (.cells #[.slice none 0 0, .int .i64 0] 68)
  have hx := (Ext.refl w).alloc (.cells #[.slice none 0 0, .int .i64 0] 68)
  go_enter Tryd.func31, Tryd.ntmps31
  go_wp2_with fail
  generalize w.alloc (.cells #[.slice none 0 0, .int .i64 0] 68) = W1 at hB hx ⊢
  obtain ⟨b, hb⟩ : ∃ b, Hid (w.heap.size = b) := ⟨_, rfl⟩
  rw [hb.out] at hB ⊢
  go_loopw [5, 13] (fun v i wr => ∃ (k : Nat) (p1 : Option Addr) (cap1 : Nat) (xs : List Cv) (last : Int) (out : List Int), k ≤ l.length ∧ i = .int .i64 k ∧ out.length = k ∧ Hid (Fld w wr b (l.take k) p1 cap1 xs last v out) ∧ Ext w wr) (fun _ i _ => l.length - (intOf i).toNat)
  case atStart =>
    exact ⟨0, none, 0, [], 0, [], Nat.zero_le _, rfl, rfl, ⟨rfl, rfl, rfl, ⟨Nat.le_of_eq hb.out, hB, Owns.nil, fun x h => by cases h⟩, Owns.nil⟩, hx⟩
  case round =>
    obtain ⟨k, p1, cap1, xs, last, out, hkl, rfl, hol, HA, hxr⟩ := hrel
    have HOL := Lib.hid hol
    clear hol
    by_cases hlt : k < l.length
    · obtain ⟨bb, off, f, rfl, hbl, c0, c1, c2, c3, c4, c5, HF⟩ := (hl.ext hxr).atF k hlt
      have hlt1 : (k : Int) < (l.length : Int) := by omega
      have hfk := HK.out f (by rw [← HF.out]; exact List.getElem_mem hlt)
      have hol' : out.length ≤ 1000000 := by have := HOL.out; omega
      by_cases h1000 : k < 1000
      · have hq : decide ((k : Int) < 1000) = true := by simpa using (by omega : (k : Int) < 1000)
        obtain ⟨er, HE⟩ : ∃ er, Hid ((fileP (xs.map (·.1), last) f).2 = er) := ⟨_, rfl⟩
        have hxb := (Ext.refl wr).alloc (.cells #[.int .u8 f.kind, .int .i64 f.day, .int .i64 f.cs, .int .i64 f.n, .int .i64 f.un, .bool f.hold] 30)
        go_wp2_with fail
        refine (file_c f m b w _ (hxr.trans hxb) p1 cap1 xs last (HR.out.ext (hxr.trans hxb)) hfk (HA.out.dock.ext hxb) HA.out.di).mono ?_
        rw [HE.out]
        rintro e w2 ⟨p2, cap2, xs2, rfl, hm2, hd2, hx2, ha2⟩
        have ho2 := (HA.out.own.ext hxb).aside ha2 (by decide)
        go_wp2_with (at_builtin; refine wpList_append_one (w0 := w) rfl _ _ 27 31 8 _ encE_len encE_one (by decide) rfl Tryd.underlying27 infoE rfl out er (ho2) (hx2) _ 1 rfl rfl (by first | rfl | simp) (by omega) (by omega) ?_; intro v3 w3 hown3 hb3 hg3)
        have ha3 : Apart [31] w2 w3 := (((Ext.refl w2).alloc (.cells (encE er).toArray 31)).apart).trans (Apart.grown hg3 (fun g hg => by obtain ⟨c, fr, h⟩ := (ho2.ext ((Ext.refl w2).alloc (.cells (encE er).toArray 31))).typed g hg; exact ⟨c, _, fr, h, List.mem_singleton.2 rfl⟩))
        have hd3 := hd2.aside ha3 (by decide) (by decide) (by decide)
        go_roundw
        case rel =>
          refine ⟨k + 1, p2, cap2, xs2, (fileP (xs.map (·.1), last) f).1.2, out ++ [er], by omega, by go_num, ?_, ?_, hb3⟩
          · rw [List.length_append, HOL.out]; rfl
          · unfold Hid
            rw [take_snocL hlt, HF.out]
            exact HA.out.step (by rw [List.length_take]; omega) hm2 rfl HE.out.symm hd3 hown3
        case measure => simp [intOf]; omega
      · have hq : decide ((k : Int) < 1000) = false := by simpa using (by omega : 1000 ≤ (k : Int))
        have hxb := (Ext.refl wr).alloc (.cells #[.int .u8 f.kind, .int .i64 f.day, .int .i64 f.cs, .int .i64 f.n, .int .i64 f.un, .bool f.hold] 30)
        have ho2 := HA.out.own.ext hxb
        go_wp2_with (at_builtin; refine wpList_append_one (w0 := w) rfl _ _ 27 31 8 _ encE_len encE_one (by decide) rfl Tryd.underlying27 infoE rfl out 5 (ho2) (hxr.trans hxb) _ 1 rfl rfl (by first | rfl | simp) (by omega) (by omega) ?_; intro v3 w3 hown3 hb3 hg3)
        have ha3 : Apart [31] (wr.alloc (.cells #[.int .u8 f.kind, .int .i64 f.day, .int .i64 f.cs, .int .i64 f.n, .int .i64 f.un, .bool f.hold] 30)) w3 := (((Ext.refl _).alloc (.cells (encE 5).toArray 31)).apart).trans (Apart.grown hg3 (fun g hg => by obtain ⟨c, fr, h⟩ := (ho2.ext ((Ext.refl _).alloc (.cells (encE 5).toArray 31))).typed g hg; exact ⟨c, _, fr, h, List.mem_singleton.2 rfl⟩))
        have hd3 := (HA.out.dock.ext hxb).aside ha3 (by decide) (by decide) (by decide)
        go_roundw
        case rel =>
          refine ⟨k + 1, p1, cap1, xs, last, out ++ [5], by omega, by go_num, ?_, ?_, hb3⟩
          · rw [List.length_append, HOL.out]; rfl
          · unfold Hid
            rw [take_snocL hlt, HF.out]
            exact HA.out.many (by rw [List.length_take]; omega) hd3 hown3
        case measure => simp [intOf]; omega
    · have hlt1 : ¬ (k : Int) < (l.length : Int) := by omega
      go_wp2_with fail
      go_ret2
      have e : l.take k = l := List.take_of_length_le (by omega)
      have H := HA.out
      rw [e] at H
      exact ⟨b, p1, cap1, xs, last, _, out, rfl, H, hxr⟩
end Go.Proofs.YtalconpcpegmlaaDoor
