import Derived.Test.YtbjhehmglahmpaaSpanW4
/- The reference for spans, walked: which span is right. -/
namespace Go.Proofs.Ytbjhehmglahmpaa
open Go.RowKit

set_option maxHeartbeats 400000 in
theorem rright_any (f t : Int) (w : World) :
    Calls Try.prog 89 #[.agg #[.int .i64 f, .int .i64 t]] w fun e w' => e = .returned (.bool (rightB (f, t))) ∧ Ext w w' := by
  go_enter Try.func89, Try.ntmps89
  go_wp2
  all_goals
    go_ret
    refine ⟨ret_bool ?_, (Ext.refl w).alloc _⟩
    simp [rightB, *]
    try omega

end Go.Proofs.Ytbjhehmglahmpaa
