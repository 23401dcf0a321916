import Derived.Test.YtalconpcpegmlaaDoorSpanW2
import Derived.Laws.StructEq
namespace Go.Proofs.YtalconpcpegmlaaDoor
open Go.RowKit

/-! ### == on spans -/
theorem eqSp (a b c d : Int) (w : World) : (binOp .eql 57 (.agg #[.int .i64 a, .int .i64 b]) (.agg #[.int .i64 c, .int .i64 d])).run Tryd.prog w = .ok (.bool (decide (a = c) && decide (b = d))) w := by
  have u3 := Tryd.underlying3
  have a3 := Tryd.isAgg3
  have z3 := Tryd.sizeOf3
  have hS : Tryd.prog.underlying 57 = some (.struct (Tryd.prog.fieldsOf 57)) := by kernel_rfl
  have hp : Tryd.prog.stoodInHeld 57 = false := by kernel_rfl
  rw [run_eql_struct, show (10000 : Nat) = 9999 + 1 from rfl, run_equalIn_agg w 9999 57 _ _ hS hp]
  simp only [Program.fieldsOf, Tryd.underlying57]
  go_simp
  by_cases h1 : a = c <;> by_cases h2 : b = d <;> simp [h1, h2]
theorem neSp (a b c d : Int) (w : World) : (binOp .neq 57 (.agg #[.int .i64 a, .int .i64 b]) (.agg #[.int .i64 c, .int .i64 d])).run Tryd.prog w = .ok (.bool (!(decide (a = c) && decide (b = d)))) w := by
  have u3 := Tryd.underlying3
  have a3 := Tryd.isAgg3
  have z3 := Tryd.sizeOf3
  have hS : Tryd.prog.underlying 57 = some (.struct (Tryd.prog.fieldsOf 57)) := by kernel_rfl
  have hp : Tryd.prog.stoodInHeld 57 = false := by kernel_rfl
  rw [run_neq_struct, show (10000 : Nat) = 9999 + 1 from rfl, run_equalIn_agg w 9999 57 _ _ hS hp]
  simp only [Program.fieldsOf, Tryd.underlying57]
  go_simp
  by_cases h1 : a = c <;> by_cases h2 : b = d <;> simp [h1, h2]
theorem egSp : Tryd.prog.eqGuardType Tryd.prog.depth 57 = false := by kernel_rfl

/-! ### annuitantkit.SameSpans -/
def sameB : List Sp → List Sp → Bool
  | [], [] => true
  | s :: a, t :: b => decide (s.1 = t.1) && decide (s.2 = t.2) && sameB a b
  | _, _ => false
theorem sameB_iff : ∀ (a b : List Sp), sameB a b = true ↔ a = b
  | [], [] => by simp [sameB]
  | [], t :: b => by simp [sameB]
  | s :: a, [] => by simp [sameB]
  | s :: a, t :: b => by
    obtain ⟨x, y⟩ := s
    obtain ⟨z, u⟩ := t
    simp [sameB, sameB_iff a b]
theorem sameB_len : ∀ {a b : List Sp}, a.length ≠ b.length → sameB a b = false := fun {a b} h => by
  cases hs : sameB a b with
  | false => rfl
  | true => exact absurd (congrArg List.length ((sameB_iff a b).1 hs)) h
set_option maxHeartbeats 400000 in
theorem same_any (a b : List Sp) (p q : Option Addr) (c d : Nat) (w : World) (ha : Sl 2 enc2 w p a) (hb : Sl 2 enc2 w q b) (hm : a.length ≤ 9223372036854775807) :
    Calls Tryd.prog 30 #[.slice p a.length c, .slice q b.length d] w fun e w' => e = .returned (.bool (sameB a b)) ∧ Ext w w' := by
  by_cases hab : a.length = b.length
  · have hn := neSp
    have hg := egSp
    have HL := Lib.hid hab
    have hl2 : ((a.length : Int) != (b.length : Int)) = false := by simp [hab]
    clear hab
    go_enter Tryd.func30, Tryd.ntmps30
    go_wp2
    go_loopw [5] (fun i wr => ∃ (k : Nat), k ≤ a.length ∧ i = .int .i64 k ∧ Hid (sameB a b = sameB (a.drop k) (b.drop k)) ∧ Ext w wr) (fun i _ => a.length - (intOf i).toNat)
    case atStart => exact ⟨0, Nat.zero_le _, rfl, rfl, Ext.refl _⟩
    case round =>
      obtain ⟨k, hk, rfl, hv, hx⟩ := hrel
      by_cases hlt : k < a.length
      · obtain ⟨b1, o1, f1, t1, rfl, hb1, h10, h11, HD1, _⟩ := (ha.ext hx).at2 k hlt
        obtain ⟨b2, o2, f2, t2, rfl, hb2, h20, h21, HD2, _⟩ := (hb.ext hx).at2 k (by rw [← HL.out]; exact hlt)
        have hlt2 : (k : Int) < (b.length : Int) := by have := HL.out; omega
        have hlt1 : (k : Int) < (a.length : Int) := by omega
        clear ha hb
        by_cases hE : f1 = f2 ∧ t1 = t2
        · obtain ⟨rfl, rfl⟩ := hE
          go_wp2
          go_quiet (fail)
          go_wp2
          go_roundw
          case rel => exact ⟨k + 1, by omega, by go_num, by (unfold Hid; rw [hv.out, HD1.out, HD2.out, sameB]; simp), hx.drewN _⟩
          case measure => simp [intOf]; omega
        · have hd : (decide (f1 = f2) && decide (t1 = t2)) = false := by simpa using hE
          have HE := Lib.hid hE
          clear hE
          go_wp2
          go_quiet (fail)
          go_wp2
          go_ret
          exact ⟨ret_bool (by rw [hv.out, HD1.out, HD2.out, sameB]; simp [hd]), hx.drewN _⟩
      · go_wp2
        go_ret
        exact ⟨ret_bool (by rw [hv.out, drop_end hlt, drop_end (by rw [← HL.out]; exact hlt)]; rfl), hx⟩
  · have hl2 : ((a.length : Int) != (b.length : Int)) = true := by rw [bne_iff_ne]; omega
    go_enter Tryd.func30, Tryd.ntmps30
    go_wp2
    go_ret
    exact ⟨ret_bool (by rw [sameB_len hab]), Ext.refl _⟩
end Go.Proofs.YtalconpcpegmlaaDoor
