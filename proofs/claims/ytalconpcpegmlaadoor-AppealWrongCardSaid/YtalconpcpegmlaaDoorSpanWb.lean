import Derived.Test.YtalconpcpegmlaaDoorSpanWa
import Derived.Test.YtalconpcpegmlaaDoorLibQuietIn
namespace Go.Proofs.YtalconpcpegmlaaDoor
open Go.RowKit
attribute [local go_sem] Oper.semAt_some
attribute [local go_sem] cell?_gr

theorem changes_any (p q : Option Addr) (w : World) : Calls Tryd.prog 52 #[.pointer p, .pointer q] w fun e w' =>
    e = .returned (.func (.func 67) #[] #[.pointer (some ⟨w.heap.size, 0, none⟩), .pointer (some ⟨w.heap.size + 1, 0, none⟩)]) ∧ (w.alloc (.cells #[.pointer p] 86)).alloc (.cells #[.pointer q] 86) = w' := by
  go_enter Tryd.func52, Tryd.ntmps52
  go_wp2
  go_ret
  exact ⟨rfl, rfl⟩
theorem heap_tk {B : Nat} {W : World} {l b : Nat} {o o' : Obj} {c : Array Value} {e : TypeId} {fr : Nat × Nat} (h1 : B ≤ l) (h2 : W.heap[l]? = some o) (h3 : o.isCells = false) (h : W.heap[b]? = some (.cells c e fr)) : (W.putObj l o').heap[b]? = some (.cells c e fr) :=
  Tk.block (B := B) W l o o' h1 h2 h3 h
theorem Fix.tk {E : Env} {B : Nat} (hB : E.w0.heap.size ≤ B) : Tk B (Fix E) := fun W l o o' h1 h2 h3 h =>
  ⟨heap_tk h1 h2 h3 h.bx, heap_tk h1 h2 h3 h.by_, heap_tk h1 h2 h3 h.ba, heap_tk h1 h2 h3 h.bb, heap_tk h1 h2 h3 h.bk, Tk.ext hB W l o o' h1 h2 h3 h.ext⟩
theorem Var.tk {E : Env} {B pa pb : Nat} {z : Int} {v : Value} {out : List Sp} : Tk B (Var E pa pb z v out) := fun W l o o' h1 h2 h3 h =>
  ⟨heap_tk h1 h2 h3 h.cx, heap_tk h1 h2 h3 h.cy, heap_tk h1 h2 h3 h.bf, heap_tk h1 h2 h3 h.bo, Tk.owns (B := B) W l o o' h1 h2 h3 h.own⟩
theorem At.tk {E : Env} {keep : Bool → Bool → Bool} {B pa pb : Nat} {x : Int} (hB : E.w0.heap.size ≤ B) : Tk B (At E keep pa pb x) := fun W l o o' h1 h2 h3 ⟨z, v, out, m, fx, vr, r⟩ =>
  ⟨z, v, out, m, Fix.tk hB W l o o' h1 h2 h3 fx, Var.tk (B := B) W l o o' h1 h2 h3 vr, r⟩
theorem Af.tk {E : Env} {keep : Bool → Bool → Bool} {B pa pb : Nat} (hB : E.w0.heap.size ≤ B) : Tk B (Af E keep pa pb) := fun W l o o' h1 h2 h3 ⟨z, v, out, m, fx, vr, r⟩ =>
  ⟨z, v, out, m, Fix.tk hB W l o o' h1 h2 h3 fx, Var.tk (B := B) W l o o' h1 h2 h3 vr, r⟩
theorem Fin.tk {E : Env} {keep : Bool → Bool → Bool} {B : Nat} (hB : E.w0.heap.size ≤ B) : Tk B (Fin E keep) := fun W l o o' h1 h2 h3 ⟨pa, pb, z, v, out, fx, vr, r⟩ =>
  ⟨pa, pb, z, v, out, Fix.tk hB W l o o' h1 h2 h3 fx, Var.tk (B := B) W l o o' h1 h2 h3 vr, r⟩
theorem heap_grown {w w' : World} {k : Nat} {o o2 : Obj} {row : Option Nat} (h : w.heap[k]? = some o) (hg : (w.alloc o2).grownBy w' row) (hne : some k ≠ row) : w'.heap[k]? = some o :=
  (hg.block k (by have := lt_of h; simp; omega) hne).trans ((heap_alloc w o2 k).trans (by rw [if_neg (by have := lt_of h; omega)]; exact h))
theorem Fix.grown {E : Env} {W W' : World} {o : Obj} {v : Value} {out : List Sp} (h : Fix E W) (ho : OwnS E.w0 W v out) (hg : (W.alloc o).grownBy W' v.ownBlock) (hx : Ext E.w0 W') : Fix E W' :=
  ⟨heap_grown h.bx hg (Owns.not_row ho h.bx (by decide)), heap_grown h.by_ hg (Owns.not_row ho h.by_ (by decide)), heap_grown h.ba hg (Owns.not_row ho h.ba (by decide)), heap_grown h.bb hg (Owns.not_row ho h.bb (by decide)), heap_grown h.bk hg (Owns.not_row ho h.bk (by decide)), hx⟩
/-- Behind the append, before the store. -/
theorem Var.grown {E : Env} {pa pb : Nat} {z : Int} {v v' : Value} {out out' : List Sp} {W W' : World} {o : Obj} (h : Var E pa pb z v out W) (hg : (W.alloc o).grownBy W' v.ownBlock) (ho : OwnS E.w0 W' v' out') :
    W'.heap[E.Bo]? = some (.cells #[v] 37 (0, 0)) ∧ (Wf E → Var E pa pb z v' out' (W'.setCell ⟨E.Bo, 0, none⟩ v')) := by
  have cx := heap_grown h.cx hg (Owns.not_row h.own h.cx (by decide))
  have cy := heap_grown h.cy hg (Owns.not_row h.own h.cy (by decide))
  have bf := heap_grown h.bf hg (Owns.not_row h.own h.bf (by decide))
  have bo := heap_grown h.bo hg (Owns.not_row h.own h.bo (by decide))
  exact ⟨bo, fun wf => ⟨heap_other cx wf.xo, heap_other cy wf.yo, heap_other bf wf.of_.symm, heap_same bo, Owns.other ho bo (by decide)⟩⟩
theorem after_append {E : Env} (wf : Wf E) {pa pb : Nat} {z : Int} {v v' : Value} {out out' : List Sp} {W W' : World} {o : Obj} (fx : Fix E W) (vr : Var E pa pb z v out W) (hg : (W.alloc o).grownBy W' v.ownBlock) (ho : OwnS E.w0 W' v' out') (hx : Ext E.w0 W') :
    Fix E W' ∧ (W'.cell? ⟨E.Bo, 0, none⟩ = some v ∧ W'.frozen? ⟨E.Bo, 0, none⟩ = false ∧ W'.cell? ⟨E.Bf, 0, none⟩ = some (.int .i64 z) ∧ W'.frozen? ⟨E.Bf, 0, none⟩ = false) ∧ Var E pa pb z v' out' (W'.setCell ⟨E.Bo, 0, none⟩ v') := by
  obtain ⟨h1, h2⟩ := vr.grown hg ho
  have bf := heap_grown vr.bf hg (Owns.not_row vr.own vr.bf (by decide))
  exact ⟨fx.grown vr.own hg hx, ⟨cell_of h1, frozen_of h1, cell_of bf, frozen_of bf⟩, h2 wf⟩
theorem stepS_on {keep : Bool → Bool → Bool} {n : Nat} {A B : List Int} {ia ib : Bool} {z day : Int} (h : keep ia ib = true) (hz : z < 0) : stepS keep n A B ia ib z day = comb keep n A B ia ib day := by unfold stepS; rw [if_pos ⟨h, hz⟩]
theorem stepS_off {keep : Bool → Bool → Bool} {n : Nat} {A B : List Int} {ia ib : Bool} {z day : Int} (h : keep ia ib = false) (hz : ¬ z < 0) : stepS keep n A B ia ib z day = (z, day) :: comb keep n A B ia ib (-1) := by
  unfold stepS; rw [if_neg (fun h' => hz h'.2), if_pos ⟨h, by omega⟩]
theorem stepS_no1 {keep : Bool → Bool → Bool} {n : Nat} {A B : List Int} {ia ib : Bool} {z day : Int} (h : keep ia ib = true) (hz : ¬ z < 0) : stepS keep n A B ia ib z day = comb keep n A B ia ib z := by
  unfold stepS; rw [if_neg (fun h' => hz h'.2), if_neg (fun h' => by rw [h] at h'; cases h'.1)]
theorem stepS_no2 {keep : Bool → Bool → Bool} {n : Nat} {A B : List Int} {ia ib : Bool} {z day : Int} (h : keep ia ib = false) (hz : z < 0) : stepS keep n A B ia ib z day = comb keep n A B ia ib z := by
  unfold stepS; rw [if_neg (fun h' => by rw [h] at h'; cases h'.1), if_neg (fun h' => by omega)]
/-- The blocks that combine lays, in their order. -/
def laid (w2 : World) (va vb : Value) : World :=
  (((((((w2.alloc (.cells #[va, .int .i64 0] 88)).alloc (.cells #[vb, .int .i64 0] 88)).alloc (.cells #[.pointer (some ⟨w2.heap.size, 0, none⟩)] 86)).alloc (.cells #[.pointer (some ⟨w2.heap.size + 1, 0, none⟩)] 86)).alloc
    (.cells #[.slice none 0 0] 37)).alloc (.cells #[.int .i64 (-1)] 3)).alloc (.cells #[.pointer (some ⟨w2.heap.size, 0, none⟩)] 86)).alloc (.cells #[.pointer (some ⟨w2.heap.size + 1, 0, none⟩)] 86)
theorem laid_heap (w2 : World) (va vb : Value) : (laid w2 va vb).heap[w2.heap.size]? = some (.cells #[va, .int .i64 0] 88 (0, 0)) ∧ (laid w2 va vb).heap[w2.heap.size + 1]? = some (.cells #[vb, .int .i64 0] 88 (0, 0)) ∧
    (laid w2 va vb).heap[w2.heap.size + 2]? = some (.cells #[.pointer (some ⟨w2.heap.size, 0, none⟩)] 86 (0, 0)) ∧ (laid w2 va vb).heap[w2.heap.size + 3]? = some (.cells #[.pointer (some ⟨w2.heap.size + 1, 0, none⟩)] 86 (0, 0)) ∧
    (laid w2 va vb).heap[w2.heap.size + 4]? = some (.cells #[.slice none 0 0] 37 (0, 0)) ∧ (laid w2 va vb).heap[w2.heap.size + 5]? = some (.cells #[.int .i64 (-1)] 3 (0, 0)) ∧
    (laid w2 va vb).heap[w2.heap.size + 6]? = some (.cells #[.pointer (some ⟨w2.heap.size, 0, none⟩)] 86 (0, 0)) ∧ (laid w2 va vb).heap[w2.heap.size + 7]? = some (.cells #[.pointer (some ⟨w2.heap.size + 1, 0, none⟩)] 86 (0, 0)) ∧
    Ext w2 (laid w2 va vb) ∧ (laid w2 va vb).heap.size = w2.heap.size + 8 := by
  refine ⟨?_, ?_, ?_, ?_, ?_, ?_, ?_, ?_, (((((((((Ext.refl w2).alloc _).alloc _).alloc _).alloc _).alloc _).alloc _).alloc _).alloc _), by simp [laid]⟩ <;>
    (simp only [laid, heap_alloc, World.size_alloc, Nat.add_assoc, Nat.reduceAdd]; repeat (first | rw [if_pos trivial] | rw [if_pos (by omega)] | rw [if_neg (by omega)]))
set_option maxHeartbeats 1600000 in
set_option maxRecDepth 100000 in
theorem combine_ok (keep : Bool → Bool → Bool) (gk : Nat) (hk : ∀ x y W, Calls Tryd.prog gk #[.bool x, .bool y] W fun e W' => e = .returned (.bool (keep x y)) ∧ W = W')
    (ek : ∀ args w, (callFunc gk args).run Tryd.prog w = .ok (.enter gk args) w)
    (a b : List Sp) (pa pb : Option Addr) (ca cb : Nat) (w : World) (ha : Sl 2 enc2 w pa a) (hb : Sl 2 enc2 w pb b) (hma : a.length ≤ 1000000) (hmb : b.length ≤ 1000000) (va : validB (-1) a = true) (vb : validB (-1) b = true) :
    Calls Tryd.prog 38 #[.slice pa a.length ca, .slice pb b.length cb, .func (.func gk) #[] #[]] w fun e w' => ∃ v, e = .returned (.tuple #[v, .int .i64 0]) ∧ OwnS w w' v (combS keep a b) ∧ Ext w w' := by
  refine (callsIn_wide (n := 4)).1 ?_
  refine callsIn_of_wp_marks Tryd.func38 rfl trivial ?_ rfl
  simp only [Tryd.ntmps38, List.size_toArray, List.length_cons, List.length_nil, Nat.reduceAdd, Nat.reduceSub, Array.replicate_succ, Array.replicate_zero, List.push_toArray, List.append_toArray, List.nil_append, List.cons_append]
  have HA := Lib.hid ((validB_iff _ _).1 va)
  have HB := Lib.hid ((validB_iff _ _).1 vb)
  have HK := Lib.hid hk
  have HE := Lib.hid ek
  clear hk ek
  gi_wp2
  refine ⟨trivial, ?_⟩
  refine CallsIn.mono (callsIn_wide.2 (valid_any a pa ca _ (ha.ext ((Ext.refl w).alloc _)) (by omega))) ?_
  rintro e w1 ⟨rfl, hx1⟩
  rw [va]
  gi_wp2
  refine ⟨trivial, ?_⟩
  refine CallsIn.mono (callsIn_wide.2 (valid_any b pb cb _ (hb.ext (((Ext.refl w).alloc _).trans hx1)) (by omega))) ?_
  rintro e w2 ⟨rfl, hx2⟩
  rw [vb]
  have hx := hx1.trans hx2
  have hBk := heap_ext (heap_new w (.cells #[.func (.func gk) #[] #[]] 74)) hx
  have hw2 : Ext w w2 := ((Ext.refl w).alloc _).trans hx
  have hsz := hx.size
  clear hx1 hx2 hx va vb
  gi_wp2
  refine ⟨trivial, ?_⟩
  refine CallsIn.mono (callsIn_wide.2 (changes_any _ _ _)) ?_
  rintro e w3 ⟨rfl, hw3⟩
  obtain ⟨l0, l1, l2, l3, l4, l5, l6, l7, lx, lsz⟩ := laid_heap w2 (.slice pa a.length ca) (.slice pb b.length cb)
  have hw3' : laid w2 (.slice pa a.length ca) (.slice pb b.length cb) = w3 := by rw [← hw3]; rfl
  clear hw3
  rw [hw3'] at l0 l1 l2 l3 l4 l5 l6 l7 lx lsz
  clear hw3'
  gi_wp2
  obtain ⟨E, hE⟩ : ∃ E : Env, E = { a := a, b := b, pa := pa, pb := pb, ca := ca, cb := cb, X := w2.heap.size, Y := w2.heap.size + 1, Bx := w2.heap.size + 2, By := w2.heap.size + 3, Ba := w2.heap.size + 6, Bb := w2.heap.size + 7, Bk := w.heap.size, Bo := w2.heap.size + 4, Bf := w2.heap.size + 5, kv := .func (.func gk) #[] #[], w0 := w2 } := ⟨_, rfl⟩
  have wf : Wf E := by
    subst hE
    simp only [World.size_alloc] at hsz
    refine ⟨?_, ?_, ?_, ?_, ?_, ?_, ?_, ?_, ?_, ?_, ?_, ?_, ha.ext hw2, hb.ext hw2, HA.out, HB.out, hma, hmb⟩ <;> simp only [Env.mut] <;> omega
  have fx : Fix E w3 := by subst hE; exact ⟨l2, l3, l6, l7, heap_ext hBk lx, lx⟩
  have vr : Var E 0 0 (-1) (.slice none 0 0) [] w3 := by subst hE; exact ⟨l0, l1, l5, l4, Owns.nil⟩
  have h0 : Af E keep 0 0 w3 := ⟨-1, .slice none 0 0, [], (chs a).length + (chs b).length, fx, vr, Nat.zero_le _, Nat.zero_le _, by omega, by omega, by subst hE; simp only [chs_len]; omega, by simp, by subst hE; rfl⟩
  have hE6 : w2.heap.size + 6 = E.Ba ∧ w2.heap.size + 7 = E.Bb := by subst hE; exact ⟨rfl, rfl⟩
  have hB3 : E.w0.heap.size ≤ w3.heap.size := by subst hE; exact lx.size
  have HEq := Lib.hid hE
  have HE6 := Lib.hid hE6
  clear hE hE6 l0 l1 l2 l3 l4 l5 l6 l7 lsz lx hBk hsz ha hb
  refine wpIn_rangeFunc_run (σ := Nat × Nat) (α := Int) rfl (by decide) (gf := 67) (lb := #[.pointer (some ⟨w2.heap.size + 6, 0, none⟩), .pointer (some ⟨w2.heap.size + 7, 0, none⟩)]) rfl trivial (enters_of Tryd.func67 (by kernel_rfl) rfl)
    (fun x => #[.int .i64 x]) (fun _ => rfl) (fun s _ s' => s' = s) (fun s x W => At E keep s.1 s.2 x W) (fun s W => Af E keep s.1 s.2 W) (fun _ _ => False) (Fin E keep)
    (fun _ _ => At.tk hB3) (fun _ => Af.tk hB3) (fun _ => Tk.const _) (Fin.tk hB3) ?a1 ?assign ?body ?iter ?done ?stop
  case assign =>
    intro l x W K hK
    gi_wp2
    exact hK
  case iter =>
    intro l W1 Rec RecX hRec _ hx hr hY
    rw [HE6.out.1, HE6.out.2]
    obtain ⟨z, v, out, m, f1, v1, r1⟩ := h0
    refine CallsIn.mono (changes1_in E keep wf 3 l (by decide) Rec hRec W1 0 0 ⟨z, v, out, m, f1.to hx, v1.to hx, r1⟩ hr ?_) ?_
    · intro pa' pb' day W hat hrec
      refine YieldAt.mono (hY (pa', pb') day W hat hrec) ?_
      rintro e W' (⟨he, ⟨s', hs', haf⟩, hr'⟩ | ⟨_, c, hf, _⟩)
      · subst hs'
        exact ⟨he, haf, hr'⟩
      · exact hf.elim
    · rintro e W' ⟨h1, h2, h3⟩
      exact ⟨h1, .inl ⟨h2, h3⟩⟩
  case stop => intro D c W _ h _; exact h.elim
  case done =>
    rintro D W hD ⟨pa', pb', z, v, out, f1, v1, hout⟩ hK
    have ko := cell_of (j := 0) v1.bo
    simp only [List.getElem?_toArray, List.getElem?_cons_zero] at ko
    have hEo : E.Bo = w2.heap.size + 4 := by rw [HEq.out]
    rw [hEo] at ko
    clear hEo
    have hown := v1.own
    have hex := f1.ext
    have hEq2 := HEq.out
    have HO := Lib.hid (And.intro hown (And.intro hex (And.intro hout hEq2)))
    clear v1 f1 h0 vr fx wf hown hex hout hEq2
    gi_wp2
    obtain ⟨hown, hex, hout, hEq2⟩ := HO.out
    refine ⟨by simp, .inl ⟨_, _, rfl, run_takeDeferred hK, ?_⟩⟩
    refine ⟨_, results_tmp2 rfl _ _ _, _, rfl, ?_, ?_⟩
    · rw [hEq2] at hown hout
      rw [hout]
      exact Owns.mono (ownsRow_putObj hown _ hK rfl) hw2.size
    · rw [hEq2] at hex
      exact hw2.trans (hex.grown (grownBy_putObj' W D (.deferred none)) (fun k e => by cases e; rw [hEq2] at hB3; simp only at hB3; show w2.heap.size ≤ D; omega))
  case body =>
    rintro l ⟨qa, qb⟩ day W ⟨z, v, out, m, fx, vr, c1, c2, c3, c4, c5, c6, c7, c8, c9⟩
    have e5 : W.cell? ⟨w.heap.size, 0, none⟩ = some (.func (.func gk) #[] #[]) := by have := cell_of (j := 0) fx.bk; rw [HEq.out] at this; exact this
    have e8 : W.cell? ⟨w2.heap.size + 1 + 1, 0, none⟩ = some (.pointer (some ⟨w2.heap.size, 0, none⟩)) := by have := cell_of (j := 0) fx.bx; rw [HEq.out] at this; exact this
    have e9 : W.cell? ⟨w2.heap.size + 1 + 1 + 1, 0, none⟩ = some (.pointer (some ⟨w2.heap.size + 1, 0, none⟩)) := by have := cell_of (j := 0) fx.by_; rw [HEq.out] at this; exact this
    have b5 : w.heap.size < W.heap.size := by have := lt_of fx.bk; rw [HEq.out] at this; exact this
    have b8 : w2.heap.size + 1 + 1 < W.heap.size := by have := lt_of fx.bx; rw [HEq.out] at this; exact this
    have b9 : w2.heap.size + 1 + 1 + 1 < W.heap.size := by have := lt_of fx.by_; rw [HEq.out] at this; exact this
    have HX : Hid (E.X = w2.heap.size ∧ E.Y = w2.heap.size + 1) := by unfold Hid; rw [HEq.out]; exact ⟨rfl, rfl⟩
    have iA : ∀ x, Calls Tryd.prog 53 #[.pointer (some ⟨w2.heap.size, 0, none⟩)] (gr W x) fun e w'' => e = .returned (.bool (oddB qa)) ∧ ∃ y, w'' = gr W y := fun x => by
      have c := (vr.cx.ext (ext_gr W x)).cells.2.1
      rw [HX.out.1] at c
      refine quiet_gr ((curIn_any w2.heap.size qa _ ?_ c).mono ?_)
      · have h := c1; have h2 := wf.al; simp only at h; omega
      · rintro e w' ⟨h, rfl⟩; exact ⟨h, Ext.refl _⟩
    have iB : ∀ x, Calls Tryd.prog 53 #[.pointer (some ⟨w2.heap.size + 1, 0, none⟩)] (gr W x) fun e w'' => e = .returned (.bool (oddB qb)) ∧ ∃ y, w'' = gr W y := fun x => by
      have c := (vr.cy.ext (ext_gr W x)).cells.2.1
      rw [HX.out.2] at c
      refine quiet_gr ((curIn_any (w2.heap.size + 1) qb _ ?_ c).mono ?_)
      · have h := c2; have h2 := wf.bl; simp only at h; omega
      · rintro e w' ⟨h, rfl⟩; exact ⟨h, Ext.refl _⟩
    have iK : ∀ x, Calls Tryd.prog gk #[.bool (oddB qa), .bool (oddB qb)] (gr W x) fun e w'' => e = .returned (.bool (keep (oddB qa) (oddB qb))) ∧ ∃ y, w'' = gr W y := fun x =>
      quiet_gr ((HK.out (oddB qa) (oddB qb) _).mono fun e w' ⟨h, hw⟩ => ⟨h, by rw [← hw]; exact Ext.refl _⟩)
    have IA := Lib.hid iA
    have IB := Lib.hid iB
    have IK := Lib.hid iK
    have HV := Lib.hid (And.intro fx vr)
    have ek := HE.out
    have HC9 := Lib.hid c9
    clear iA iB iK fx vr c9 h0
    gi_wp2
    refine wpIn_region_ext (by kernel_rfl) (by kernel_rfl) ?_
    repeat (go_big_quiet_step (first | (with_reducible exact IA.out _) | (with_reducible exact IB.out _) | (with_reducible exact IK.out _)))
    refine wpQuiet_nil ?_
    intro w5 hx5
    have HX5 := Lib.hid (And.intro (HV.out.1.to hx5) (HV.out.2.to hx5))
    have HKF : KeepsFrom w3.heap.size W w5 := KeepsFrom.of_ext hx5
    have kf : w5.cell? ⟨w2.heap.size + 1 + 1 + 1 + 1 + 1, 0, none⟩ = some (.int .i64 z) ∧ w5.frozen? ⟨w2.heap.size + 1 + 1 + 1 + 1 + 1, 0, none⟩ = false := by
      have h1 := cell_of (j := 0) HX5.out.2.bf; have h2 := frozen_of (j := 0) HX5.out.2.bf; rw [HEq.out] at h1 h2; exact ⟨h1, h2⟩
    have ko : w5.cell? ⟨w2.heap.size + 1 + 1 + 1 + 1, 0, none⟩ = some v ∧ w5.frozen? ⟨w2.heap.size + 1 + 1 + 1 + 1, 0, none⟩ = false := by
      have h1 := cell_of (j := 0) HX5.out.2.bo; have h2 := frozen_of (j := 0) HX5.out.2.bo; rw [HEq.out] at h1 h2; exact ⟨h1, h2⟩
    obtain ⟨kf1, kf2⟩ := kf
    obtain ⟨ko1, ko2⟩ := ko
    clear IA IB IK e5 e8 e9 b5 b8 b9 HV hx5 ek
    cases hnow : keep (oddB qa) (oddB qb) with
    | true =>
      have HN := Lib.hid hnow
      clear hnow
      by_cases hz : z < 0
      · gi_wp2
        refine ⟨HKF.trans ((KeepsOthers.setCell _ _ _).from _), (qa, qb), rfl, day, v, out, m, ?_, ?_, c1, c2, by omega, c6, c7, by omega, ?_⟩
        · have := HX5.out.1.set wf (n := E.Bf) (j := 0) (.inr (.inr (.inr rfl))) (.int .i64 day); rw [HEq.out] at this ⊢; exact this
        · have := HX5.out.2.setF wf day; rw [HEq.out] at this ⊢; exact this
        · rw [HC9.out]; simp only; rw [stepS_on HN.out hz]
      · gi_wp2
        refine ⟨HKF, (qa, qb), rfl, z, v, out, m, HX5.out.1, HX5.out.2, c1, c2, c3, c4, c7, by omega, ?_⟩
        rw [HC9.out]; simp only; rw [stepS_no1 HN.out (by omega)]
    | false =>
      have HN := Lib.hid hnow
      clear hnow
      by_cases hz : z < 0
      · gi_wp2
        refine ⟨HKF, (qa, qb), rfl, z, v, out, m, HX5.out.1, HX5.out.2, c1, c2, c3, c4, c7, by omega, ?_⟩
        rw [HC9.out]; simp only; rw [stepS_no2 HN.out hz]
      · have hol : out.length ≤ 4000000 := by have h1 := wf.al; have h2 := wf.bl; omega
        gi_wp2_with (gi_at_builtin; refine wpListIn_append_one (w0 := E.w0) rfl _ _ 37 57 16 _ enc2_len enc2_one (by decide) rfl Tryd.underlying37 infoSp rfl out (z, day) HX5.out.2.own HX5.out.1.ext w5.heap.size 1 rfl rfl rfl (by omega) (by omega) ?_; intro v6 w6 hown6 hx6 hg6; obtain ⟨g6, d6, rfl⟩ := hown6.cons_shape; obtain ⟨fx6, o6, vr6⟩ := after_append wf HX5.out.1 HX5.out.2 hg6 hown6 hx6; have o7 : w6.cell? ⟨w2.heap.size + 1 + 1 + 1 + 1, 0, none⟩ = some v ∧ w6.frozen? ⟨w2.heap.size + 1 + 1 + 1 + 1, 0, none⟩ = false ∧ w6.cell? ⟨w2.heap.size + 1 + 1 + 1 + 1 + 1, 0, none⟩ = some (.int .i64 z) ∧ w6.frozen? ⟨w2.heap.size + 1 + 1 + 1 + 1 + 1, 0, none⟩ = false := (by rw [HEq.out] at o6; exact o6); obtain ⟨p1, p2, p3, p4⟩ := o7; have HF6 := Lib.hid (And.intro fx6 vr6); have HG6 := Lib.hid hg6; clear o6 fx6 vr6 hg6 kf1 kf2 ko1 ko2)
        refine ⟨((HKF.trans (KeepsFrom.of_append HX5.out.2.own HG6.out)).trans ((KeepsOthers.setCell _ _ _).from _)).trans ((KeepsOthers.setCell _ _ _).from _), (qa, qb), rfl, -1, .slice (some ⟨g6, 0, none⟩) (out.length + 1) d6, out ++ [(z, day)], m, ?_, ?_, c1, c2, by omega, by omega, c7, by simp; omega, ?_⟩
        · have := (HF6.out.1.set wf (n := E.Bo) (j := 0) (.inr (.inr (.inl rfl))) (.slice (some ⟨g6, 0, none⟩) (out.length + 1) d6)).set wf (n := E.Bf) (j := 0) (.inr (.inr (.inr rfl))) (.int .i64 (-1)); rw [HEq.out] at this ⊢; exact this
        · have := HF6.out.2.setF wf (-1); rw [HEq.out] at this ⊢; exact this
        · rw [HC9.out]; simp only; rw [stepS_off HN.out (by omega)]; simp
end Go.Proofs.YtalconpcpegmlaaDoor
