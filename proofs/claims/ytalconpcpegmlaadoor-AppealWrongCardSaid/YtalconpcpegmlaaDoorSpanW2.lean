import Derived.Test.YtalconpcpegmlaaDoorSpanW1
namespace Go.Proofs.YtalconpcpegmlaaDoor
open Go.RowKit

/-! ### span.Before, span.Days, span.Nth -/
theorem min_if (t day : Int) : min t day = if day < t then day else t := by split <;> omega
theorem beforeStep_lt {f t day n : Int} (h : f < day) : beforeStep day n (f, t) = n + (min t day - f) := by rw [beforeStep, if_pos h]
theorem beforeStep_ge {f t day n : Int} (h : ¬ f < day) : beforeStep day n (f, t) = n := by rw [beforeStep, if_neg h]
def beforeV (l : List Sp) (day : Int) : Int := if validB (-1) l = true then beforeS l day else 0
/-! ### span.Nth -/
def nthS : List Sp → Int → Int × Bool
  | [], _ => (0, false)
  | s :: l, n => if n < s.2 - s.1 then (s.1 + n, true) else nthS l (n - (s.2 - s.1))
def nthV (l : List Sp) (n : Int) : Int × Bool := if validB (-1) l = true ∧ 0 ≤ n then nthS l n else (0, false)
end Go.Proofs.YtalconpcpegmlaaDoor
