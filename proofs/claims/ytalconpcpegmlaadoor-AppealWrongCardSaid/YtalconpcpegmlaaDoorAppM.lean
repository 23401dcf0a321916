import Derived.Test.YtalconpcpegmlaaDoorAppL
/- appeal.file: what is not formed; what comes too late. -/
namespace Go.Proofs.YtalconpcpegmlaaDoor
open Go.RowKit

theorem file_unformed (f : Fl) (m : Option Nat) (b : Nat) (w : World) (h : RowsAt m w) (hk : 0 ≤ f.kind ∧ f.kind < 256) (hf : formedB f = false) :
    Calls Tryd.prog 46 #[.pointer (some ⟨b, 0, none⟩), .agg #[.int .u8 f.kind, .int .i64 f.day, .int .i64 f.cs, .int .i64 f.n, .int .i64 f.un, .bool f.hold]] w fun e w' => e = .returned (.int .i64 2) ∧ Ext w w' := by
  go_enter Tryd.func46, Tryd.ntmps46
  go_wp2_with fail
  refine (formed_c f m _ (h.ext ((Ext.refl w).alloc _)) hk).mono ?_
  rintro e wN ⟨rfl, hN⟩
  rw [hf]
  go_wp2_with fail
  go_ret
  exact ⟨rfl, ((Ext.refl w).alloc _).trans hN⟩
theorem cells2d {w : World} {b : Nat} {T : TypeId} {fr : Nat × Nat} {x0 x1 : Value} (h : w.heap[b]? = some (.cells #[x0, x1] T fr)) :
    w.cell? ⟨b, 0, none⟩ = some x0 ∧ w.cell? ⟨b, 1, none⟩ = some x1 := by
  constructor <;> simp [World.cell?, h]
theorem file_late (f : Fl) (m : Option Nat) (b : Nat) (w : World) (v : Value) (last : Int) (fr : Nat × Nat) (h : RowsAt m w) (hk : 0 ≤ f.kind ∧ f.kind < 256) (hf : formedB f = true) (hb : w.heap[b]? = some (.cells #[v, .int .i64 last] 68 fr)) (hl : f.day < last) :
    Calls Tryd.prog 46 #[.pointer (some ⟨b, 0, none⟩), .agg #[.int .u8 f.kind, .int .i64 f.day, .int .i64 f.cs, .int .i64 f.n, .int .i64 f.un, .bool f.hold]] w fun e w' => e = .returned (.int .i64 400) ∧ Ext w w' := by
  have hq : decide (f.day < last) = true := by simpa using hl
  clear hl
  have hB := heap_new w (.cells #[.int .u8 f.kind, .int .i64 f.day, .int .i64 f.cs, .int .i64 f.n, .int .i64 f.un, .bool f.hold] 30)
  go_enter Tryd.func46, Tryd.ntmps46
  go_wp2_with fail
  refine (formed_c f m _ (h.ext ((Ext.refl w).alloc _)) hk).mono ?_
  rintro e wN ⟨rfl, hN⟩
  rw [hf]
  obtain ⟨k0, k1⟩ := cells2d (heap_ext hb (((Ext.refl w).alloc _).trans hN))
  replace hB := heap_ext hB hN
  have kd : wN.cell? ⟨w.heap.size, 1, none⟩ = some (.int .i64 f.day) := by simp [World.cell?, hB]
  go_wp2_with fail
  go_region
  all_goals go_wp2_with fail
  all_goals go_ret
  all_goals exact ⟨rfl, (((Ext.refl w).alloc _).trans hN).drew⟩
end Go.Proofs.YtalconpcpegmlaaDoor
