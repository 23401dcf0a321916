import Derived.Test.YtalconpcpegmlaaDoorAppG
/- appeal.formed, walked. -/
namespace Go.Proofs.YtalconpcpegmlaaDoor
open Go.RowKit

/-- The program's order of questions. -/
def formedE (f : Fl) (s lo hi : Int) (ok : Bool) : Bool :=
  if ok = false then false else if f.day < 0 then false else if 65536 ≤ f.day then false else if f.n < lo then false else if hi < f.n then false
  else if f.hold = true ∧ f.kind ≠ 5 then false
  else if f.kind = 1 then (f.cs == 0) && decide (f.day ≤ f.un) && decide (f.un < 65536)
  else (f.un == 0) && ((s == 0) && (f.cs == 0) || (s != 0) && decide (1 ≤ f.cs))
set_option maxHeartbeats 1600000 in
set_option maxRecDepth 100000 in
theorem formed_any (f : Fl) (m : Option Nat) (s lo hi : Int) (ok : Bool) (w : World) (hg : w.cell? ⟨0, 0, none⟩ = some (.map m)) (hlt : 0 < w.heap.size)
    (hl : ∀ x, Ext w x → (Instr.lookup 98 (.map m) (.int .u8 f.kind) true).run Tryd.prog x = .ok (.tuple #[.agg #[.int .u8 s, .int .i64 lo, .int .i64 hi], .bool ok]) x) :
    Calls Tryd.prog 58 #[.agg #[.int .u8 f.kind, .int .i64 f.day, .int .i64 f.cs, .int .i64 f.n, .int .i64 f.un, .bool f.hold]] w fun e w' => e = .returned (.bool (formedE f s lo hi ok)) ∧ Ext w w' := by
  have hl1 := hl _ ((Ext.refl w).alloc (.cells #[.int .u8 f.kind, .int .i64 f.day, .int .i64 f.cs, .int .i64 f.n, .int .i64 f.un, .bool f.hold] 30))
  have hg1 : (w.alloc (.cells #[.int .u8 f.kind, .int .i64 f.day, .int .i64 f.cs, .int .i64 f.n, .int .i64 f.un, .bool f.hold] 30)).cell? ⟨0, 0, none⟩ = some (.map m) := (((Ext.refl w).alloc (.cells #[.int .u8 f.kind, .int .i64 f.day, .int .i64 f.cs, .int .i64 f.n, .int .i64 f.un, .bool f.hold] 30)).cells.1 0 0 hlt).trans hg
  clear hl hg
  cases ok with
  | false =>
    have HE : Hid (formedE f s lo hi false = false) := by unfold Hid formedE; simp
    go_enter Tryd.func58, Tryd.ntmps58
    go_wp2
    go_ret
    refine ⟨?_, ?_⟩
    · rw [HE.out]; rfl
    · exact ((Ext.refl w).alloc _).alloc _
  | true =>
    by_cases d0 : f.day < 0
    · have qd0 : decide (f.day < 0) = true := by simp [d0]
      have HE : Hid (formedE f s lo hi true = false) := by unfold Hid formedE; simp [d0]
      clear d0
      go_enter Tryd.func58, Tryd.ntmps58
      go_wp2
      go_ret
      refine ⟨?_, ?_⟩
      · rw [HE.out]; rfl
      · exact ((Ext.refl w).alloc _).alloc _
    · have qd0 : decide (f.day < 0) = false := by simp [d0]
      by_cases d1 : 65536 ≤ f.day
      · have qd1 : decide (65536 ≤ f.day) = true := by simp [d1]
        have HE : Hid (formedE f s lo hi true = false) := by unfold Hid formedE; simp [d0, d1]
        clear d0 d1
        go_enter Tryd.func58, Tryd.ntmps58
        go_wp2
        go_ret
        refine ⟨?_, ?_⟩
        · rw [HE.out]; rfl
        · exact ((Ext.refl w).alloc _).alloc _
      · have qd1 : decide (65536 ≤ f.day) = false := by simp [d1]
        by_cases n0 : f.n < lo
        · have qn0 : decide (f.n < lo) = true := by simp [n0]
          have HE : Hid (formedE f s lo hi true = false) := by unfold Hid formedE; simp [d0, d1, n0]
          clear d0 d1 n0
          go_enter Tryd.func58, Tryd.ntmps58
          go_wp2
          go_ret
          refine ⟨?_, ?_⟩
          · rw [HE.out]; rfl
          · exact ((Ext.refl w).alloc _).alloc _
        · have qn0 : decide (f.n < lo) = false := by simp [n0]
          by_cases n1 : hi < f.n
          · have qn1 : decide (hi < f.n) = true := by simp [n1]
            have HE : Hid (formedE f s lo hi true = false) := by unfold Hid formedE; simp [d0, d1, n0, n1]
            clear d0 d1 n0 n1
            go_enter Tryd.func58, Tryd.ntmps58
            go_wp2
            go_ret
            refine ⟨?_, ?_⟩
            · rw [HE.out]; rfl
            · exact ((Ext.refl w).alloc _).alloc _
          · have qn1 : decide (hi < f.n) = false := by simp [n1]
            by_cases hh : f.hold = true
            · rw [hh] at hl1 hg1 ⊢
              by_cases k5 : f.kind = 5
              · have qk5 : (f.kind == 5) = true := by simp [k5]
                have rk5 : (f.kind != 5) = false := by simp [k5]
                have qk1 : (f.kind == 1) = false := by simp [k5]
                by_cases u2 : f.un = 0
                · have qu2 : (f.un == 0) = true := by simp [u2]
                  by_cases s0 : s = 0
                  · have qs0 : (s == 0) = true := by simp [s0]
                    have rs0 : (s != 0) = false := by simp [s0]
                    by_cases c0 : f.cs = 0
                    · have qc0 : (f.cs == 0) = true := by simp [c0]
                      have HE : Hid (formedE f s lo hi true = true) := by unfold Hid formedE; simp [d0, d1, n0, n1, hh, k5, u2, s0, c0]
                      clear d0 d1 n0 n1 hh k5 u2 s0 c0
                      go_enter Tryd.func58, Tryd.ntmps58
                      go_wp2
                      go_ret
                      refine ⟨?_, ?_⟩
                      · rw [HE.out]; rfl
                      · exact ((Ext.refl w).alloc _).alloc _
                    · have qc0 : (f.cs == 0) = false := by simp [c0]
                      have HE : Hid (formedE f s lo hi true = false) := by unfold Hid formedE; simp [d0, d1, n0, n1, hh, k5, u2, s0, c0]
                      clear d0 d1 n0 n1 hh k5 u2 s0 c0
                      go_enter Tryd.func58, Tryd.ntmps58
                      go_wp2
                      go_ret
                      refine ⟨?_, ?_⟩
                      · rw [HE.out]; rfl
                      · exact ((Ext.refl w).alloc _).alloc _
                  · have qs0 : (s == 0) = false := by simp [s0]
                    have rs0 : (s != 0) = true := by simp [s0]
                    by_cases c1 : 1 ≤ f.cs
                    · have qc1 : decide (1 ≤ f.cs) = true := by simp [c1]
                      have HE : Hid (formedE f s lo hi true = true) := by unfold Hid formedE; simp [d0, d1, n0, n1, hh, k5, u2, s0, c1]
                      clear d0 d1 n0 n1 hh k5 u2 s0 c1
                      go_enter Tryd.func58, Tryd.ntmps58
                      go_wp2
                      go_ret
                      refine ⟨?_, ?_⟩
                      · rw [HE.out]; rfl
                      · exact ((Ext.refl w).alloc _).alloc _
                    · have qc1 : decide (1 ≤ f.cs) = false := by simp [c1]
                      have HE : Hid (formedE f s lo hi true = false) := by unfold Hid formedE; simp [d0, d1, n0, n1, hh, k5, u2, s0, c1]
                      clear d0 d1 n0 n1 hh k5 u2 s0 c1
                      go_enter Tryd.func58, Tryd.ntmps58
                      go_wp2
                      go_ret
                      refine ⟨?_, ?_⟩
                      · rw [HE.out]; rfl
                      · exact ((Ext.refl w).alloc _).alloc _
                · have qu2 : (f.un == 0) = false := by simp [u2]
                  have HE : Hid (formedE f s lo hi true = false) := by unfold Hid formedE; simp [d0, d1, n0, n1, hh, k5, u2]
                  clear d0 d1 n0 n1 hh k5 u2
                  go_enter Tryd.func58, Tryd.ntmps58
                  go_wp2
                  go_ret
                  refine ⟨?_, ?_⟩
                  · rw [HE.out]; rfl
                  · exact ((Ext.refl w).alloc _).alloc _
              · have qk5 : (f.kind == 5) = false := by simp [k5]
                have rk5 : (f.kind != 5) = true := by simp [k5]
                have HE : Hid (formedE f s lo hi true = false) := by unfold Hid formedE; simp [d0, d1, n0, n1, hh, k5]
                clear d0 d1 n0 n1 hh k5
                go_enter Tryd.func58, Tryd.ntmps58
                go_wp2
                go_ret
                refine ⟨?_, ?_⟩
                · rw [HE.out]; rfl
                · exact ((Ext.refl w).alloc _).alloc _
            · replace hh : f.hold = false := by simpa using hh
              rw [hh] at hl1 hg1 ⊢
              by_cases k1 : f.kind = 1
              · have qk1 : (f.kind == 1) = true := by simp [k1]
                by_cases c0 : f.cs = 0
                · have qc0 : (f.cs == 0) = true := by simp [c0]
                  by_cases u0 : f.day ≤ f.un
                  · have qu0 : decide (f.day ≤ f.un) = true := by simp [u0]
                    by_cases u1 : f.un < 65536
                    · have qu1 : decide (f.un < 65536) = true := by simp [u1]
                      have HE : Hid (formedE f s lo hi true = true) := by unfold Hid formedE; simp [d0, d1, n0, n1, hh, k1, c0, u0, u1]
                      clear d0 d1 n0 n1 hh k1 c0 u0 u1
                      go_enter Tryd.func58, Tryd.ntmps58
                      go_wp2
                      go_ret
                      refine ⟨?_, ?_⟩
                      · rw [HE.out]; rfl
                      · exact ((Ext.refl w).alloc _).alloc _
                    · have qu1 : decide (f.un < 65536) = false := by simp [u1]
                      have HE : Hid (formedE f s lo hi true = false) := by unfold Hid formedE; simp [d0, d1, n0, n1, hh, k1, c0, u0, u1]
                      clear d0 d1 n0 n1 hh k1 c0 u0 u1
                      go_enter Tryd.func58, Tryd.ntmps58
                      go_wp2
                      go_ret
                      refine ⟨?_, ?_⟩
                      · rw [HE.out]; rfl
                      · exact ((Ext.refl w).alloc _).alloc _
                  · have qu0 : decide (f.day ≤ f.un) = false := by simp [u0]
                    have HE : Hid (formedE f s lo hi true = false) := by unfold Hid formedE; simp [d0, d1, n0, n1, hh, k1, c0, u0]
                    clear d0 d1 n0 n1 hh k1 c0 u0
                    go_enter Tryd.func58, Tryd.ntmps58
                    go_wp2
                    go_ret
                    refine ⟨?_, ?_⟩
                    · rw [HE.out]; rfl
                    · exact ((Ext.refl w).alloc _).alloc _
                · have qc0 : (f.cs == 0) = false := by simp [c0]
                  have HE : Hid (formedE f s lo hi true = false) := by unfold Hid formedE; simp [d0, d1, n0, n1, hh, k1, c0]
                  clear d0 d1 n0 n1 hh k1 c0
                  go_enter Tryd.func58, Tryd.ntmps58
                  go_wp2
                  go_ret
                  refine ⟨?_, ?_⟩
                  · rw [HE.out]; rfl
                  · exact ((Ext.refl w).alloc _).alloc _
              · have qk1 : (f.kind == 1) = false := by simp [k1]
                by_cases u2 : f.un = 0
                · have qu2 : (f.un == 0) = true := by simp [u2]
                  by_cases s0 : s = 0
                  · have qs0 : (s == 0) = true := by simp [s0]
                    have rs0 : (s != 0) = false := by simp [s0]
                    by_cases c0 : f.cs = 0
                    · have qc0 : (f.cs == 0) = true := by simp [c0]
                      have HE : Hid (formedE f s lo hi true = true) := by unfold Hid formedE; simp [d0, d1, n0, n1, hh, k1, u2, s0, c0]
                      clear d0 d1 n0 n1 hh k1 u2 s0 c0
                      go_enter Tryd.func58, Tryd.ntmps58
                      go_wp2
                      go_ret
                      refine ⟨?_, ?_⟩
                      · rw [HE.out]; rfl
                      · exact ((Ext.refl w).alloc _).alloc _
                    · have qc0 : (f.cs == 0) = false := by simp [c0]
                      have HE : Hid (formedE f s lo hi true = false) := by unfold Hid formedE; simp [d0, d1, n0, n1, hh, k1, u2, s0, c0]
                      clear d0 d1 n0 n1 hh k1 u2 s0 c0
                      go_enter Tryd.func58, Tryd.ntmps58
                      go_wp2
                      go_ret
                      refine ⟨?_, ?_⟩
                      · rw [HE.out]; rfl
                      · exact ((Ext.refl w).alloc _).alloc _
                  · have qs0 : (s == 0) = false := by simp [s0]
                    have rs0 : (s != 0) = true := by simp [s0]
                    by_cases c1 : 1 ≤ f.cs
                    · have qc1 : decide (1 ≤ f.cs) = true := by simp [c1]
                      have HE : Hid (formedE f s lo hi true = true) := by unfold Hid formedE; simp [d0, d1, n0, n1, hh, k1, u2, s0, c1]
                      clear d0 d1 n0 n1 hh k1 u2 s0 c1
                      go_enter Tryd.func58, Tryd.ntmps58
                      go_wp2
                      go_ret
                      refine ⟨?_, ?_⟩
                      · rw [HE.out]; rfl
                      · exact ((Ext.refl w).alloc _).alloc _
                    · have qc1 : decide (1 ≤ f.cs) = false := by simp [c1]
                      have HE : Hid (formedE f s lo hi true = false) := by unfold Hid formedE; simp [d0, d1, n0, n1, hh, k1, u2, s0, c1]
                      clear d0 d1 n0 n1 hh k1 u2 s0 c1
                      go_enter Tryd.func58, Tryd.ntmps58
                      go_wp2
                      go_ret
                      refine ⟨?_, ?_⟩
                      · rw [HE.out]; rfl
                      · exact ((Ext.refl w).alloc _).alloc _
                · have qu2 : (f.un == 0) = false := by simp [u2]
                  have HE : Hid (formedE f s lo hi true = false) := by unfold Hid formedE; simp [d0, d1, n0, n1, hh, k1, u2]
                  clear d0 d1 n0 n1 hh k1 u2
                  go_enter Tryd.func58, Tryd.ntmps58
                  go_wp2
                  go_ret
                  refine ⟨?_, ?_⟩
                  · rw [HE.out]; rfl
                  · exact ((Ext.refl w).alloc _).alloc _
end Go.Proofs.YtalconpcpegmlaaDoor
