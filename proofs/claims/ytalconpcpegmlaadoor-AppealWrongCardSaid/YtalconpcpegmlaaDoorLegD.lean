import Derived.Test.YtalconpcpegmlaaDoorLegB
/- annuitantlaw40.example, and what the plain model says of it. -/
namespace Go.Proofs.YtalconpcpegmlaaDoor
open Go.RowKit

def exL : List Fl := [⟨4, 10, 0, 30, 0, false⟩, ⟨5, 20, 1, 0, 0, true⟩, ⟨6, 50, 1, 1, 0, false⟩, ⟨5, 60, 1, 0, 0, false⟩, ⟨1, 61, 0, 3, 70, false⟩, ⟨2, 65, 2, 4, 0, false⟩, ⟨2, 66, 2, 3, 0, false⟩, ⟨3, 71, 2, 0, 0, false⟩]
theorem ex_run : runP exL = [0, 0, 0, 0, 0, 402, 0, 401] := by kernel_rfl
theorem makeV_one {a b : Int} (h0 : 0 ≤ a) (h1 : a < b) (h2 : b ≤ 65536) : makeV [(a, b)] = [(a, b)] := by
  have hr : [(a, b)].all rightB = true := by simp [rightB]; omega
  have hs := makeV_spec hr
  exact hs.1.ext (show Ok (-1) [(a, b)] from ⟨by show (-1 : Int) < a; omega, h0, h1, h2, trivial⟩) hs.2
def e0 : Cs := ⟨false, 0, 0, 0, 0, 0, 0, false, 0, []⟩
theorem ex_at1 : (atP (exL.take 2) 30).2 = 0 ∧ ∃ c, (atP (exL.take 2) 30).1 = [c] ∧ c.st = 3 ∧ c.lv = 1 ∧ c.due = 385 ∧ c.held = [(20, 31)] := by
  refine ⟨by kernel_rfl, (atP (exL.take 2) 30).1.getD 0 e0, by kernel_rfl, by kernel_rfl, by kernel_rfl, by kernel_rfl, ?_⟩
  exact (show _ = makeV [(20, 31)] by kernel_rfl).trans (makeV_one (by decide) (by decide) (by decide))
theorem ex_at2 : (atP exL 66).2 = 0 ∧ ∃ c d, (atP exL 66).1 = [c, d] ∧ c.st = 3 ∧ c.lv = 2 ∧ c.due = 425 ∧ c.held = [(20, 50)] ∧ d.st = 1 ∧ d.ch = 3 := by
  refine ⟨by kernel_rfl, (atP exL 66).1.getD 0 e0, (atP exL 66).1.getD 1 e0, by kernel_rfl, by kernel_rfl, by kernel_rfl, by kernel_rfl, ?_, by kernel_rfl, by kernel_rfl⟩
  exact (show _ = makeV [(20, 50)] by kernel_rfl).trans (makeV_one (by decide) (by decide) (by decide))
theorem ex_set1 : settR exL 1 = (457, true) := by kernel_rfl
theorem ex_set2 : settR exL 2 = (71, true) := by kernel_rfl
theorem ex_held (d : Int) (h : d ≤ 66) : heldR exL 1 d = memB d [(20, 50)] := by
  have hl : (dockP exL).2 = 66 := by kernel_rfl
  obtain ⟨c, hc⟩ : ∃ c, (dockP exL).1[0]? = some c := ⟨(dockP exL).1.getD 0 e0, by kernel_rfl⟩
  unfold heldR
  rw [hl, Int.max_eq_right h, if_neg (by omega)]
  show heldAt (dockP exL) 0 d 66 = _
  obtain ⟨_, c1, c2, h1, _, _, _, h2, _⟩ := ex_at2
  have e : (atP exL 66).1 = (dockP exL).1.map (onP · 66) := by unfold atP; rw [if_neg (by decide), hl, if_neg (by decide)]
  rw [e] at h1
  have h3 : ((dockP exL).1.map (onP · 66))[0]? = some c1 := by rw [h1]; rfl
  rw [List.getElem?_map, hc] at h3
  rw [heldAt_some hc, show onP c 66 = c1 from Option.some.inj h3, h2]
def DK (w w' : World) (f : Fl) (e : Ending) : Prop := e = .returned (.agg #[.int .u8 f.kind, .int .i64 f.day, .int .i64 f.cs, .int .i64 f.n, .int .i64 f.un, .bool f.hold]) ∧ Ext w w'
theorem decide_c (day n : Int) (w : World) : Calls Tryd.prog 43 #[.int .i64 day, .int .i64 n] w fun e w' => DK w w' ⟨4, day, 0, n, 0, false⟩ e := by
  go_enter Tryd.func43, Tryd.ntmps43
  go_wp2_with fail
  exact bodyPost_ret (results_cell_row Tryd.results43 _ _ w.heap.size 30 _ (0, 0) _ rfl (heap_new _ _) Tryd.underlying30 rfl (by kernel_rfl)) rfl ⟨rfl, (Ext.refl w).alloc _⟩
theorem elect_c (day n u : Int) (w : World) : Calls Tryd.prog 45 #[.int .i64 day, .int .i64 n, .int .i64 u] w fun e w' => DK w w' ⟨1, day, 0, n, u, false⟩ e := by
  go_enter Tryd.func45, Tryd.ntmps45
  go_wp2_with fail
  exact bodyPost_ret (results_cell_row Tryd.results45 _ _ w.heap.size 30 _ (0, 0) _ rfl (heap_new _ _) Tryd.underlying30 rfl (by kernel_rfl)) rfl ⟨rfl, (Ext.refl w).alloc _⟩
theorem onF_c (kind day n x : Int) (hold : Bool) (w : World) : Calls Tryd.prog 44 #[.int .u8 kind, .int .i64 day, .int .i64 n, .int .i64 x, .bool hold] w fun e w' => DK w w' ⟨kind, day, n, x, 0, hold⟩ e := by
  go_enter Tryd.func44, Tryd.ntmps44
  go_wp2_with fail
  exact bodyPost_ret (results_cell_row Tryd.results44 _ _ w.heap.size 30 _ (0, 0) _ rfl (heap_new _ _) Tryd.underlying30 rfl (by kernel_rfl)) rfl ⟨rfl, (Ext.refl w).alloc _⟩
theorem to_c (a b : Int) (w : World) : Calls Tryd.prog 29 #[.int .i64 a, .int .i64 b] w fun e w' => ∃ g c, e = .returned (.slice (some ⟨g, 0, none⟩) 1 c) ∧ Sl 2 enc2 w' (some ⟨g, 0, none⟩) [(a, b)] ∧ Ext w w' := by
  go_enter Tryd.func29, Tryd.ntmps29
  go_wp2_with fail
  go_ret
  exact ⟨_, _, rfl, Sl.lit [(a, b)] rfl, (Ext.refl w).alloc _⟩
set_option maxHeartbeats 800000 in
set_option maxRecDepth 100000 in
theorem example_c (w : World) : Calls Tryd.prog 28 #[] w fun e w' => ∃ g, e = .returned (.slice (some ⟨g, 0, none⟩) 8 8) ∧ Sl 6 encF w' (some ⟨g, 0, none⟩) exL ∧ Ext w w' := by
  go_enter Tryd.func28, Tryd.ntmps28
  go_wp2_with fail
  refine (decide_c 10 30 _).mono ?_
  rintro e w1 ⟨rfl, x1⟩
  go_wp2_with fail
  refine (onF_c 5 20 1 0 true _).mono ?_
  rintro e w2 ⟨rfl, x2⟩
  go_wp2_with fail
  refine (onF_c 6 50 1 1 false _).mono ?_
  rintro e w3 ⟨rfl, x3⟩
  go_wp2_with fail
  refine (onF_c 5 60 1 0 false _).mono ?_
  rintro e w4 ⟨rfl, x4⟩
  go_wp2_with fail
  refine (elect_c 61 3 70 _).mono ?_
  rintro e w5 ⟨rfl, x5⟩
  go_wp2_with fail
  refine (onF_c 2 65 2 4 false _).mono ?_
  rintro e w6 ⟨rfl, x6⟩
  go_wp2_with fail
  refine (onF_c 2 66 2 3 false _).mono ?_
  rintro e w7 ⟨rfl, x7⟩
  go_wp2_with fail
  refine (onF_c 3 71 2 0 false _).mono ?_
  rintro e w8 ⟨rfl, x8⟩
  go_wp2_with fail
  go_ret
  exact ⟨_, rfl, Sl.litAny encF_len exL rfl, ((((((((x1.trans x2).trans x3).trans x4).trans x5).trans x6).trans x7).trans x8).alloc _)⟩
end Go.Proofs.YtalconpcpegmlaaDoor
